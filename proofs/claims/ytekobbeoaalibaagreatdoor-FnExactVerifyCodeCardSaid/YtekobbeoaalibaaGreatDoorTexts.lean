/- markText, eqStringS, markStringS, heldStringS of the laws. -/
import Derived.Test.YtekobbeoaalibaaGreatDoorProg
import Derived.Test.YtekobbeoaalibaaGreatDoorMem
import Derived.Deep.RegionHeld3
namespace Go.Proofs.YtekobbeoaalibaaGreatDoor
open Go.RowKit

theorem info_string : (Tryz.prog.info? 9).map (fun i => (i.zero, i.size, i.bytes)) = some (some (.string ByteArray.empty), 1, 16) := by kernel_rfl

/-- the call hands back the strings l in a row of its own; nothing that was there has changed -/
def OwnTexts (l : List ByteArray) (w : World) (e : Ending) (w' : World) : Prop :=
  ∃ v, e = .returned v ∧ w'.ownsRow w.heap.size 9 1 v l.length (l.map .string) ∧ Below w.heap.size w w'


def mdig : Nat → Nat → List UInt8 → List UInt8
  | 0, _, acc => acc
  | f + 1, k, acc => if k = 0 then acc else mdig f (k / 10) ((48 + UInt8.ofNat (k % 10)) :: acc)
def mtext (k : Nat) : ByteArray := ⟨(109 :: mdig k k []).toArray⟩

theorem ba_cons (x : UInt8) (acc : List UInt8) : (⟨#[x]⟩ : ByteArray) ++ ⟨acc.toArray⟩ = ⟨(x :: acc).toArray⟩ := by
  apply ByteArray.ext; simp
theorem mdig_pos {n f k : Nat} {acc : List UInt8} (hm : mdig n n [] = mdig f k acc) (hk : 0 < k) (hf : k ≤ f) : mdig n n [] = mdig (f - 1) (k / 10) ((48 + UInt8.ofNat (k % 10)) :: acc) := by
  obtain ⟨g, rfl⟩ : ∃ g, f = g + 1 := ⟨f - 1, by omega⟩
  rw [hm, mdig, if_neg (by omega)]; rfl
theorem mdig_zero {n f k : Nat} {acc : List UInt8} (hm : mdig n n [] = mdig f k acc) (hk : ¬ 0 < k) : mdig n n [] = acc := by
  obtain rfl : k = 0 := by omega
  rw [hm]; cases f <;> simp [mdig]

set_option maxRecDepth 100000 in
set_option maxHeartbeats 1000000 in
theorem markText_any (n : Nat) (w : World) (h0 : 0 < n) (h1 : n ≤ 1099511627776) :
    Calls Tryz.prog 56 #[.int .i64 n] w fun e w' => e = .returned (.string (mtext n)) ∧ Below w.heap.size w w' := by
  have hn0 : decide (n = 0) = false := by simp; omega
  have hcv := run_convert_byte1 (P := Tryz.prog) 77 9 5 Tryz.underlying77 Tryz.underlying5 Tryz.underlying9
  go_enter Tryz.func56, Tryz.ntmps56
  go_wp2
  go_loopw [0, 3] (fun i s wr => ∃ (f k : Nat) (acc : List UInt8), k ≤ f ∧ acc.length + f ≤ n ∧ i = .int .i64 k ∧ s = .string ⟨acc.toArray⟩ ∧ Hid (mdig n n [] = mdig f k acc) ∧ Below w.heap.size w wr) (fun i _ _ => (intOf i).toNat)
  case atStart => exact ⟨n, n, [], Nat.le_refl _, by simp, rfl, rfl, rfl, Below.refl _ _⟩
  case round =>
    obtain ⟨f, k, acc, hf, hk1, rfl, rfl, hm, hb⟩ := hrel
    by_cases hk : 0 < k
    · have Hm := Lib.hid (mdig_pos hm.out hk hf)
      clear hm
      go_wp2
      go_roundw
      case rel => exact ⟨f - 1, k / 10, _, by omega, by simp; omega, by go_num, by rw [ba_cons], Hm.out, hb.alloc hb.size _⟩
      case measure => simp [intOf]; omega
    · have Hm := Lib.hid (mdig_zero hm.out hk)
      clear hm
      go_wp2
      go_ret
      exact ⟨ret_string (by rw [mtext, Hm.out]; exact ba_cons _ _), hb⟩
set_option maxHeartbeats 400000 in
theorem eqStringS_any (v u : Value) (xs ys : List ByteArray) (w : World) {lo hi lo' hi' : Nat} (h : Rds w lo hi 1 v xs.length (xs.map Value.string)) (h' : Rds w lo' hi' 1 u ys.length (ys.map Value.string)) :
    Calls Tryz.prog 16 #[v, u] w fun e w' => e = .returned (.bool (decide (xs = ys))) ∧ Same w w' := by
  obtain ⟨A, c, rfl, hc1, hc2, -⟩ := h.shape
  obtain ⟨A', c', rfl, hc1', hc2', -⟩ := h'.shape
  generalize hn : xs.length = n at *
  generalize hm : ys.length = m at *
  have Hn := Lib.hid hn
  have Hm := Lib.hid hm
  clear hn hm
  unfold maxLen at hc2 hc2'
  by_cases hnm : n = m
  · subst hnm
    go_enter Tryz.func16, Tryz.ntmps16
    go_wp2
    go_loopw [5] (fun i wr => ∃ k : Nat, k ≤ n ∧ i = .int .i64 k ∧ Hid (xs.take k = ys.take k) ∧ Same w wr) (fun i _ => n - (intOf i).toNat)
    case atStart => exact ⟨0, Nat.zero_le _, rfl, rfl, Same.refl _⟩
    case round =>
      obtain ⟨k, hk, rfl, he, hs⟩ := hrel
      by_cases hlt : k < n
      · obtain ⟨g, off, x, rfl, -, -, hx, hcx⟩ := (h.same hs).atMap hlt
        obtain ⟨g', off', y, rfl, -, -, hy, hcy⟩ := (h'.same hs).atMap hlt
        have Hx := Lib.hid hx
        have Hy := Lib.hid hy
        clear hx hy h h'
        by_cases hxy : x = y
        · subst hxy
          go_wp2
          go_quiet (fail)
          go_wp2
          go_roundw
          case rel => exact ⟨k + 1, by omega, by go_num, by rw [take_snoc_of Hx.out, take_snoc_of Hy.out, he.out]; rfl, hs.drewN _⟩
          case measure => simp [intOf]; omega
        · have hb := str_ne hxy
          go_wp2
          go_quiet (fail)
          go_wp2
          go_ret
          exact ⟨ret_bool (by simpa using ne_of_get Hx.out Hy.out hxy), hs.drewN _⟩
      · go_wp2
        go_ret
        obtain rfl : k = n := by omega
        exact ⟨ret_bool (by simpa using eq_of_take Hn.out Hm.out he.out), hs⟩
  · have hb : ((n : Int) != m) = true := by simp; omega
    go_enter Tryz.func16, Tryz.ntmps16
    go_wp2
    go_ret
    exact ⟨ret_bool (by simp; rintro rfl; exact hnm (Hn.out.symm.trans Hm.out)), Same.refl _⟩


def mstr (k : Int) : Value := .string (mtext k.toNat)

set_option maxHeartbeats 400000 in
theorem markStringS_any (v : Value) (n : Nat) (xs : List Value) (k : Int) (w : World) (base : Nat) (h : w.ownsRow base 9 1 v n xs) (hn : n ≤ 1048577) (hk0 : 0 < k) (hk1 : k ≤ 1048576) :
    Calls Tryz.prog 18 #[v, .int .i64 k] w fun e w' => e = .returned (.int .i64 (k + n)) ∧ w'.ownsRow base 9 1 v n (marks mstr k n) ∧ w.grownBy w' v.ownBlock := by
  have hl : xs.length = n := by simpa using h.1
  have Hl := Lib.hid hl
  clear hl
  by_cases hn0 : n = 0
  · subst hn0
    obtain ⟨A, c, rfl, -, -, -⟩ := (Rds.of_own h).shape
    go_enter Tryz.func18, Tryz.ntmps18
    go_wp2
    go_loopw [1, 5] (fun m i wr => i = .int .i64 0 ∧ m = .int .i64 k ∧ wr = w) (fun _ i _ => 0)
    case atStart => exact ⟨rfl, rfl, rfl⟩
    case round =>
      obtain ⟨rfl, rfl, rfl⟩ := hrel
      go_wp2
      go_ret
      refine ⟨ret_int (by simp), ?_, World.grownBy.refl _ _⟩
      have : xs = marks mstr k 0 := List.eq_nil_of_length_eq_zero Hl.out
      rw [← this]; exact h
  · obtain ⟨g, cap, rfl, -⟩ := h.form (by omega)
    go_enter Tryz.func18, Tryz.ntmps18
    go_wp2_with fail
    go_loopw [1, 5] (fun m i wr => ∃ j : Nat, j ≤ n ∧ i = .int .i64 j ∧ m = .int .i64 (k + j) ∧ wr.ownsRow base 9 1 (.slice (some ⟨g, 0, none⟩) n cap) n (marks mstr k j ++ xs.drop j) ∧ w.grownBy wr (some g)) (fun _ i _ => n - (intOf i).toNat)
    case atStart => exact ⟨0, Nat.zero_le _, rfl, by simp, h, World.grownBy.refl _ _⟩
    case round =>
      obtain ⟨j, hj, rfl, rfl, ho, hg⟩ := hrel
      by_cases hlt : j < n
      · obtain ⟨q, hq⟩ : ∃ q : Nat, k + j = q := ⟨(k + j).toNat, by omega⟩
        have hq0 : 0 < q := by omega
        have hq1 : q ≤ 1099511627776 := by omega
        have hqk : mstr (k + j) = .string (mtext q) := by rw [hq]; simp [mstr]
        go_wp2_with fail
        rw [hq]
        refine (markText_any q _ hq0 hq1).mono ?_; rintro e w1 ⟨rfl, hb1⟩
        have ho1 := ho.kept (grown_of_below hb1 none) (by simp [Value.ownBlock])
        have hfz := ho1.frozenAt j
        have hcell : ∃ u, w1.cell? ⟨g, j, none⟩ = some u := by
          have hx := ho1.cellAt j (by omega)
          have hll : j < (marks mstr k j ++ xs.drop j).length := by rw [List.length_append, marks_len, List.length_drop, Hl.out]; omega
          exact ⟨_, hx.trans (List.getElem?_eq_getElem hll)⟩
        obtain ⟨u, hcell⟩ := hcell
        have hst := ho1.stored j (mstr (k + j))
        rw [marks_set _ _ _ _ (by rw [Hl.out]; exact hlt), hqk] at hst
        have H1 := Lib.hid hst
        have Hq := Lib.hid hq
        clear hst hqk hq ho
        go_wp2_with fail
        go_roundw
        case rel => exact ⟨j + 1, by omega, by go_num, by have := Hq.out; go_num, H1.out.1, grown_trans2 (grown_trans2 hg (grown_of_below hb1 _)) H1.out.2⟩
        case measure => simp [intOf]; omega
      · go_wp2_with fail
        go_ret
        obtain rfl : j = n := by omega
        rw [marks_all _ _ _ _ Hl.out] at ho
        exact ⟨rfl, ho, hg⟩

set_option maxHeartbeats 400000 in
theorem heldStringS_any (v : Value) (n : Nat) (k : Int) (w : World) {lo hi : Nat} (h : Rds w lo hi 1 v n (marks mstr k n)) (hhi : hi ≤ w.heap.size) (hn : n ≤ 1048577) (hk0 : 0 < k) (hk1 : k ≤ 1048576) :
    Calls Tryz.prog 19 #[v, .int .i64 k] w fun e w' => e = .returned (.int .i64 (k + n)) ∧ Below w.heap.size w w' := by
  obtain ⟨A, c, rfl, -, -, -⟩ := h.shape
  go_enter Tryz.func19, Tryz.ntmps19
  go_wp2_with fail
  go_loopw [1, 5] (fun m i wr => ∃ j : Nat, j ≤ n ∧ i = .int .i64 j ∧ m = .int .i64 (k + j) ∧ Below w.heap.size w wr) (fun _ i _ => n - (intOf i).toNat)
  case atStart => exact ⟨0, Nat.zero_le _, rfl, by simp, Below.refl _ _⟩
  case round =>
    obtain ⟨j, hj, rfl, rfl, hb⟩ := hrel
    by_cases hlt : j < n
    · obtain ⟨g, off, u, rfl, -, hgh, hu, hc⟩ := (h.below hb hhi).at_ hlt
      rw [marks_get _ _ _ _ hlt] at hu
      injection hu with hu
      subst hu
      obtain ⟨q, hq⟩ : ∃ q : Nat, k + j = q := ⟨(k + j).toNat, by omega⟩
      have hq0 : 0 < q := by omega
      have hq1 : q ≤ 1099511627776 := by omega
      have hqk : mstr (k + j) = .string (mtext q) := by rw [hq]; simp [mstr]
      rw [hqk] at hc
      rw [hq]
      have Hq := Lib.hid hq
      have hgw : g < wr.heap.size := by have := hb.size; omega
      clear hqk hq h
      go_wp2_with fail
      go_region_held3 (fun w' => w'.cell? ⟨g, off + j, none⟩ = some (.string (mtext q)) ∧ Below w.heap.size w w') (first | exact ⟨hc, hb⟩ | exact ⟨hc, hb.drew⟩ | exact ⟨(hb'.cell hgw).trans hc, hb.drew.trans (hb'.mono hb.size)⟩)
        (first | (go_at_call 56; refine (markText_any q _ hq0 hq1).mono ?_; rintro e w' ⟨rfl, hb'⟩))
      rename_i hheld
      obtain ⟨-, hb2⟩ := hheld
      go_wp2_with fail
      go_roundw
      case rel => exact ⟨j + 1, by omega, by go_num, by have := Hq.out; go_num, hb2⟩
      case measure => simp [intOf]; omega
    · go_wp2_with fail
      go_ret
      obtain rfl : j = n := by omega
      exact ⟨rfl, hb⟩
end Go.Proofs.YtekobbeoaalibaaGreatDoor
