/- MarkAll: several texts in one. -/
import Derived.Test.YtekobbeoaalibaaGreatDoorProg
import Derived.Test.YtekobbeoaalibaaGreatDoorMem
import Derived.Deep.RegionHeld3
import Derived.Test.YtekobbeoaalibaaGreatDoorOwn
import Derived.Test.YtekobbeoaalibaaGreatDoorTyAll
section
namespace Go.Proofs.YtekobbeoaalibaaGreatDoor
open Go.RowKit

theorem info_string : (Tryz.prog.info? 9).map (fun i => (i.zero, i.size, i.bytes)) = some (some (.string ByteArray.empty), 1, 16) := by kernel_rfl

/-- the call hands back the strings l in a row of its own; nothing that was there has changed -/
def OwnTexts (l : List ByteArray) (w : World) (e : Ending) (w' : World) : Prop :=
  ∃ v, e = .returned v ∧ w'.ownsRow w.heap.size 9 1 v l.length (l.map .string) ∧ Below w.heap.size w w'


def mdig : Nat → Nat → List UInt8 → List UInt8
  | 0, _, acc => acc
  | f + 1, k, acc => if k = 0 then acc else mdig f (k / 10) ((48 + UInt8.ofNat (k % 10)) :: acc)
def mtext (k : Nat) : ByteArray := ⟨(109 :: mdig k k []).toArray⟩

theorem ba_cons (x : UInt8) (acc : List UInt8) : (⟨#[x]⟩ : ByteArray) ++ ⟨acc.toArray⟩ = ⟨(x :: acc).toArray⟩ := by
  apply ByteArray.ext; simp
theorem mdig_pos {n f k : Nat} {acc : List UInt8} (hm : mdig n n [] = mdig f k acc) (hk : 0 < k) (hf : k ≤ f) : mdig n n [] = mdig (f - 1) (k / 10) ((48 + UInt8.ofNat (k % 10)) :: acc) := by
  obtain ⟨g, rfl⟩ : ∃ g, f = g + 1 := ⟨f - 1, by omega⟩
  rw [hm, mdig, if_neg (by omega)]; rfl
theorem mdig_zero {n f k : Nat} {acc : List UInt8} (hm : mdig n n [] = mdig f k acc) (hk : ¬ 0 < k) : mdig n n [] = acc := by
  obtain rfl : k = 0 := by omega
  rw [hm]; cases f <;> simp [mdig]

set_option maxRecDepth 100000 in
set_option maxHeartbeats 1000000 in
theorem markText_any (n : Nat) (w : World) (h0 : 0 < n) (h1 : n ≤ 1099511627776) :
    Calls Tryz.prog 56 #[.int .i64 n] w fun e w' => e = .returned (.string (mtext n)) ∧ Below w.heap.size w w' := by
  have hn0 : decide (n = 0) = false := by simp; omega
  have hcv := run_convert_byte1 (P := Tryz.prog) 77 9 5 Tryz.underlying77 Tryz.underlying5 Tryz.underlying9
  go_enter Tryz.func56, Tryz.ntmps56
  go_wp2
  go_loopw [0, 3] (fun i s wr => ∃ (f k : Nat) (acc : List UInt8), k ≤ f ∧ acc.length + f ≤ n ∧ i = .int .i64 k ∧ s = .string ⟨acc.toArray⟩ ∧ Hid (mdig n n [] = mdig f k acc) ∧ Below w.heap.size w wr) (fun i _ _ => (intOf i).toNat)
  case atStart => exact ⟨n, n, [], Nat.le_refl _, by simp, rfl, rfl, rfl, Below.refl _ _⟩
  case round =>
    obtain ⟨f, k, acc, hf, hk1, rfl, rfl, hm, hb⟩ := hrel
    by_cases hk : 0 < k
    · have Hm := Lib.hid (mdig_pos hm.out hk hf)
      clear hm
      go_wp2
      go_roundw
      case rel => exact ⟨f - 1, k / 10, _, by omega, by simp; omega, by go_num, by rw [ba_cons], Hm.out, hb.alloc hb.size _⟩
      case measure => simp [intOf]; omega
    · have Hm := Lib.hid (mdig_zero hm.out hk)
      clear hm
      go_wp2
      go_ret
      exact ⟨ret_string (by rw [mtext, Hm.out]; exact ba_cons _ _), hb⟩
set_option maxHeartbeats 400000 in
theorem eqStringS_any (v u : Value) (xs ys : List ByteArray) (w : World) {lo hi lo' hi' : Nat} (h : Rds w lo hi 1 v xs.length (xs.map Value.string)) (h' : Rds w lo' hi' 1 u ys.length (ys.map Value.string)) :
    Calls Tryz.prog 16 #[v, u] w fun e w' => e = .returned (.bool (decide (xs = ys))) ∧ Same w w' := by
  obtain ⟨A, c, rfl, hc1, hc2, -⟩ := h.shape
  obtain ⟨A', c', rfl, hc1', hc2', -⟩ := h'.shape
  generalize hn : xs.length = n at *
  generalize hm : ys.length = m at *
  have Hn := Lib.hid hn
  have Hm := Lib.hid hm
  clear hn hm
  unfold maxLen at hc2 hc2'
  by_cases hnm : n = m
  · subst hnm
    go_enter Tryz.func16, Tryz.ntmps16
    go_wp2
    go_loopw [5] (fun i wr => ∃ k : Nat, k ≤ n ∧ i = .int .i64 k ∧ Hid (xs.take k = ys.take k) ∧ Same w wr) (fun i _ => n - (intOf i).toNat)
    case atStart => exact ⟨0, Nat.zero_le _, rfl, rfl, Same.refl _⟩
    case round =>
      obtain ⟨k, hk, rfl, he, hs⟩ := hrel
      by_cases hlt : k < n
      · obtain ⟨g, off, x, rfl, -, -, hx, hcx⟩ := (h.same hs).atMap hlt
        obtain ⟨g', off', y, rfl, -, -, hy, hcy⟩ := (h'.same hs).atMap hlt
        have Hx := Lib.hid hx
        have Hy := Lib.hid hy
        clear hx hy h h'
        by_cases hxy : x = y
        · subst hxy
          go_wp2
          go_quiet (fail)
          go_wp2
          go_roundw
          case rel => exact ⟨k + 1, by omega, by go_num, by rw [take_snoc_of Hx.out, take_snoc_of Hy.out, he.out]; rfl, hs.drewN _⟩
          case measure => simp [intOf]; omega
        · have hb := str_ne hxy
          go_wp2
          go_quiet (fail)
          go_wp2
          go_ret
          exact ⟨ret_bool (by simpa using ne_of_get Hx.out Hy.out hxy), hs.drewN _⟩
      · go_wp2
        go_ret
        obtain rfl : k = n := by omega
        exact ⟨ret_bool (by simpa using eq_of_take Hn.out Hm.out he.out), hs⟩
  · have hb : ((n : Int) != m) = true := by simp; omega
    go_enter Tryz.func16, Tryz.ntmps16
    go_wp2
    go_ret
    exact ⟨ret_bool (by simp; rintro rfl; exact hnm (Hn.out.symm.trans Hm.out)), Same.refl _⟩


def mstr (k : Int) : Value := .string (mtext k.toNat)

set_option maxHeartbeats 400000 in
theorem markStringS_any (v : Value) (n : Nat) (xs : List Value) (k : Int) (w : World) (base : Nat) (h : w.ownsRow base 9 1 v n xs) (hn : n ≤ 1048577) (hk0 : 0 < k) (hk1 : k ≤ 1048576) :
    Calls Tryz.prog 18 #[v, .int .i64 k] w fun e w' => e = .returned (.int .i64 (k + n)) ∧ w'.ownsRow base 9 1 v n (marks mstr k n) ∧ w.grownBy w' v.ownBlock := by
  have hl : xs.length = n := by simpa using h.1
  have Hl := Lib.hid hl
  clear hl
  by_cases hn0 : n = 0
  · subst hn0
    obtain ⟨A, c, rfl, -, -, -⟩ := (Rds.of_own h).shape
    go_enter Tryz.func18, Tryz.ntmps18
    go_wp2
    go_loopw [1, 5] (fun m i wr => i = .int .i64 0 ∧ m = .int .i64 k ∧ wr = w) (fun _ i _ => 0)
    case atStart => exact ⟨rfl, rfl, rfl⟩
    case round =>
      obtain ⟨rfl, rfl, rfl⟩ := hrel
      go_wp2
      go_ret
      refine ⟨ret_int (by simp), ?_, World.grownBy.refl _ _⟩
      have : xs = marks mstr k 0 := List.eq_nil_of_length_eq_zero Hl.out
      rw [← this]; exact h
  · obtain ⟨g, cap, rfl, -⟩ := h.form (by omega)
    go_enter Tryz.func18, Tryz.ntmps18
    go_wp2_with fail
    go_loopw [1, 5] (fun m i wr => ∃ j : Nat, j ≤ n ∧ i = .int .i64 j ∧ m = .int .i64 (k + j) ∧ wr.ownsRow base 9 1 (.slice (some ⟨g, 0, none⟩) n cap) n (marks mstr k j ++ xs.drop j) ∧ w.grownBy wr (some g)) (fun _ i _ => n - (intOf i).toNat)
    case atStart => exact ⟨0, Nat.zero_le _, rfl, by simp, h, World.grownBy.refl _ _⟩
    case round =>
      obtain ⟨j, hj, rfl, rfl, ho, hg⟩ := hrel
      by_cases hlt : j < n
      · obtain ⟨q, hq⟩ : ∃ q : Nat, k + j = q := ⟨(k + j).toNat, by omega⟩
        have hq0 : 0 < q := by omega
        have hq1 : q ≤ 1099511627776 := by omega
        have hqk : mstr (k + j) = .string (mtext q) := by rw [hq]; simp [mstr]
        go_wp2_with fail
        rw [hq]
        refine (markText_any q _ hq0 hq1).mono ?_; rintro e w1 ⟨rfl, hb1⟩
        have ho1 := ho.kept (grown_of_below hb1 none) (by simp [Value.ownBlock])
        have hfz := ho1.frozenAt j
        have hcell : ∃ u, w1.cell? ⟨g, j, none⟩ = some u := by
          have hx := ho1.cellAt j (by omega)
          have hll : j < (marks mstr k j ++ xs.drop j).length := by rw [List.length_append, marks_len, List.length_drop, Hl.out]; omega
          exact ⟨_, hx.trans (List.getElem?_eq_getElem hll)⟩
        obtain ⟨u, hcell⟩ := hcell
        have hst := ho1.stored j (mstr (k + j))
        rw [marks_set _ _ _ _ (by rw [Hl.out]; exact hlt), hqk] at hst
        have H1 := Lib.hid hst
        have Hq := Lib.hid hq
        clear hst hqk hq ho
        go_wp2_with fail
        go_roundw
        case rel => exact ⟨j + 1, by omega, by go_num, by have := Hq.out; go_num, H1.out.1, grown_trans2 (grown_trans2 hg (grown_of_below hb1 _)) H1.out.2⟩
        case measure => simp [intOf]; omega
      · go_wp2_with fail
        go_ret
        obtain rfl : j = n := by omega
        rw [marks_all _ _ _ _ Hl.out] at ho
        exact ⟨rfl, ho, hg⟩

set_option maxHeartbeats 400000 in
theorem heldStringS_any (v : Value) (n : Nat) (k : Int) (w : World) {lo hi : Nat} (h : Rds w lo hi 1 v n (marks mstr k n)) (hhi : hi ≤ w.heap.size) (hn : n ≤ 1048577) (hk0 : 0 < k) (hk1 : k ≤ 1048576) :
    Calls Tryz.prog 19 #[v, .int .i64 k] w fun e w' => e = .returned (.int .i64 (k + n)) ∧ Below w.heap.size w w' := by
  obtain ⟨A, c, rfl, -, -, -⟩ := h.shape
  go_enter Tryz.func19, Tryz.ntmps19
  go_wp2_with fail
  go_loopw [1, 5] (fun m i wr => ∃ j : Nat, j ≤ n ∧ i = .int .i64 j ∧ m = .int .i64 (k + j) ∧ Below w.heap.size w wr) (fun _ i _ => n - (intOf i).toNat)
  case atStart => exact ⟨0, Nat.zero_le _, rfl, by simp, Below.refl _ _⟩
  case round =>
    obtain ⟨j, hj, rfl, rfl, hb⟩ := hrel
    by_cases hlt : j < n
    · obtain ⟨g, off, u, rfl, -, hgh, hu, hc⟩ := (h.below hb hhi).at_ hlt
      rw [marks_get _ _ _ _ hlt] at hu
      injection hu with hu
      subst hu
      obtain ⟨q, hq⟩ : ∃ q : Nat, k + j = q := ⟨(k + j).toNat, by omega⟩
      have hq0 : 0 < q := by omega
      have hq1 : q ≤ 1099511627776 := by omega
      have hqk : mstr (k + j) = .string (mtext q) := by rw [hq]; simp [mstr]
      rw [hqk] at hc
      rw [hq]
      have Hq := Lib.hid hq
      have hgw : g < wr.heap.size := by have := hb.size; omega
      clear hqk hq h
      go_wp2_with fail
      go_region_held3 (fun w' => w'.cell? ⟨g, off + j, none⟩ = some (.string (mtext q)) ∧ Below w.heap.size w w') (first | exact ⟨hc, hb⟩ | exact ⟨hc, hb.drew⟩ | exact ⟨(hb'.cell hgw).trans hc, hb.drew.trans (hb'.mono hb.size)⟩)
        (first | (go_at_call 56; refine (markText_any q _ hq0 hq1).mono ?_; rintro e w' ⟨rfl, hb'⟩))
      rename_i hheld
      obtain ⟨-, hb2⟩ := hheld
      go_wp2_with fail
      go_roundw
      case rel => exact ⟨j + 1, by omega, by go_num, by have := Hq.out; go_num, hb2⟩
      case measure => simp [intOf]; omega
    · go_wp2_with fail
      go_ret
      obtain rfl : j = n := by omega
      exact ⟨rfl, hb⟩
end Go.Proofs.YtekobbeoaalibaaGreatDoor
end

section
namespace Go.Proofs.YtekobbeoaalibaaGreatDoor
open Go.RowKit
set_option linter.unusedVariables false

/-- the elements, marked one after the other -/
def markL {α : Type} (mk : Nat → α → α) (cnt : α → Nat) : Nat → List α → List α
  | _, [] => []
  | k, c :: l => mk k c :: markL mk cnt (k + cnt c) l
section
variable {α : Type} {mk : Nat → α → α} {cnt : α → Nat}
theorem markL_len : ∀ (l : List α) (k : Nat), (markL mk cnt k l).length = l.length
  | [], _ => rfl
  | c :: l, k => by simp [markL, markL_len l]
theorem markL_app : ∀ (a b : List α) (k : Nat), markL mk cnt k (a ++ b) = markL mk cnt k a ++ markL mk cnt (k + sumOf cnt a) b
  | [], b, k => by simp [markL, sumOf]
  | c :: a, b, k => by simp [markL, sumOf, markL_app a b, Nat.add_assoc]
theorem markL_snoc {l : List α} {j k : Nat} {c : α} (h : l[j]? = some c) : markL mk cnt k (l.take (j + 1)) = markL mk cnt k (l.take j) ++ [mk (k + sumOf cnt (l.take j)) c] := by
  rw [take_snoc_of h, markL_app]; rfl
theorem markL_get {l : List α} {j k : Nat} {c : α} (h : l[j]? = some c) : (markL mk cnt k l)[j]? = some (mk (k + sumOf cnt (l.take j)) c) := by
  obtain ⟨hj, rfl⟩ := List.getElem?_eq_some_iff.1 h
  have e : l = l.take j ++ (l[j] :: l.drop (j + 1)) := by rw [← List.drop_eq_getElem_cons hj, List.take_append_drop]
  have e2 : markL mk cnt k l = markL mk cnt k (l.take j) ++ markL mk cnt (k + sumOf cnt (l.take j)) (l[j] :: l.drop (j + 1)) := by
    conv => lhs; rw [e]
    exact markL_app _ _ _
  rw [e2, List.getElem?_append_right (by rw [markL_len, List.length_take]; omega), markL_len, List.length_take, Nat.min_eq_left (by omega), Nat.sub_self]
  rfl
end
/-- the row half marked: element j still to do -/
def halfM {α : Type} (mk : Nat → α → α) (cnt : α → Nat) (k : Nat) (l : List α) (j : Nat) : List α := markL mk cnt k (l.take j) ++ l.drop j
section
variable {α : Type} {mk : Nat → α → α} {cnt : α → Nat} {f : α → List Dat} {K k j : Nat} {l : List α} {c : α}
theorem halfM_zero : halfM mk cnt k l 0 = l := by simp [halfM, markL]
theorem halfM_all : halfM mk cnt k l l.length = markL mk cnt k l := by simp [halfM]
theorem halfM_at (h : l[j]? = some c) : flat f (halfM mk cnt k l j) = flat f (markL mk cnt k (l.take j)) ++ (f c ++ flat f (l.drop (j + 1))) := by
  obtain ⟨hj, rfl⟩ := List.getElem?_eq_some_iff.1 h
  rw [halfM, flat_app, List.drop_eq_getElem_cons hj, flat_cons]
theorem halfM_next (h : l[j]? = some c) : flat f (halfM mk cnt k l (j + 1)) = flat f (markL mk cnt k (l.take j)) ++ (f (mk (k + sumOf cnt (l.take j)) c) ++ flat f (l.drop (j + 1))) := by
  rw [halfM, markL_snoc h, flat_app, flat_app, flat_cons, flat_nil, List.append_nil, List.append_assoc]
theorem halfM_front (hf : ∀ x, (f x).length = K) (hj : j ≤ l.length) : (flat f (markL mk cnt k (l.take j))).length = j * K := by
  rw [flat_len hf, markL_len, List.length_take, Nat.min_eq_left hj]
end

/-- nothing outside the blocks F has changed -/
structure Fr (F : List Nat) (w w' : World) : Prop where
  os : w'.os = w.os
  tape : w'.tape = w.tape
  output : w'.output = w.output
  size : w.heap.size ≤ w'.heap.size
  block : ∀ b, b < w.heap.size → b ∉ F → w'.heap[b]? = w.heap[b]?
section
variable {F G : List Nat} {w w' w2 : World} {B : Nat}
theorem Fr.refl (F : List Nat) (w : World) : Fr F w w := ⟨rfl, rfl, rfl, Nat.le_refl _, fun _ _ _ => rfl⟩
theorem Fr.trans (h : Fr F w w') (h' : Fr F w' w2) : Fr F w w2 := ⟨h'.os.trans h.os, h'.tape.trans h.tape, h'.output.trans h.output, Nat.le_trans h.size h'.size, fun b hb hn => (h'.block b (Nat.lt_of_lt_of_le hb h.size) hn).trans (h.block b hb hn)⟩
theorem Fr.mono (h : Fr F w w') (hs : ∀ b ∈ F, b ∈ G) : Fr G w w' := ⟨h.os, h.tape, h.output, h.size, fun b hb hn => h.block b hb fun hf => hn (hs b hf)⟩
theorem Fr.of_below (h : Below w.heap.size w w') : Fr F w w' := ⟨h.os, h.tape, h.output, h.size, fun b hb _ => h.block b hb⟩
theorem Fr.set_ (h : Fr F w w') {p : Addr} (hp : p.block ∈ F) (u : Value) : Fr F w (w'.setCell p u) :=
  ⟨h.os, h.tape, h.output, by simpa [World.setCell] using h.size, fun b hb hn => (Below.heap_setCell w' p u b (fun e => hn (by rw [e]; exact hp))).trans (h.block b hb hn)⟩
theorem Fr.below (h : Fr F w w') (hF : ∀ b ∈ F, B ≤ b) (hB : B ≤ w.heap.size) : Below B w w' :=
  ⟨h.os, h.tape, h.output, h.size, fun b hb => h.block b (by omega) fun hf => by have := hF b hf; omega⟩
theorem OwnVs.fr {ds : List Dat} {vs : List Value} (h : OwnVs w ds G vs) (hf : Fr F w w') (hd : ∀ b ∈ G, b ∉ F) : OwnVs w' ds G vs := h.kept fun b hb => hf.block b (h.lt b hb) (hd b hb)
theorem OwnV.fr {d : Dat} {v : Value} (h : OwnV w d G v) (hf : Fr F w w') (hd : ∀ b ∈ G, b ∉ F) : OwnV w' d G v := h.kept fun b hb => hf.block b (h.lt b hb) (hd b hb)
theorem own_fr {base : Nat} {e : TypeId} {size n g cap : Nat} {xs : List Value} (h : w.ownsRow base e size (.slice (some ⟨g, 0, none⟩) n cap) n xs) (hf : Fr F w w') (hd : g ∉ F) : w'.ownsRow base e size (.slice (some ⟨g, 0, none⟩) n cap) n xs :=
  own_block h fun b hb => by
    have hl := h.lt b hb
    have : g = b := by simpa [Value.ownBlock] using hb
    subst this
    exact hf.block g hl.2 hd
end
theorem own_list {w : World} {base : Nat} {e : TypeId} {size n : Nat} {v : Value} {xs ys : List Value} (h : w.ownsRow base e size v n xs) (hx : xs = ys) : w.ownsRow base e size v n ys := hx ▸ h
theorem set_mid {va ue vb : List Value} {p i : Nat} {u : Value} (h : va.length = p) (hi : i < ue.length) : (va ++ (ue ++ vb)).set (p + i) u = va ++ (ue.set i u ++ vb) := by
  rw [List.set_append_right _ _ (by omega), show p + i - va.length = i by omega, List.set_append_left _ _ hi]
theorem set_mid0 {va ue vb : List Value} {p : Nat} {u : Value} (h : va.length = p) (hi : 0 < ue.length) : (va ++ (ue ++ vb)).set p u = va ++ (ue.set 0 u ++ vb) := set_mid (i := 0) h hi
theorem own_mid {w : World} {base : Nat} {e : TypeId} {size n g cap p i : Nat} {va ue vb : List Value} {u : Value} (h : w.ownsRow base e size (.slice (some ⟨g, 0, none⟩) n cap) n (va ++ (ue ++ vb))) (hva : va.length = p) (hp : p + i < n * size) (hu : ue[i]? = some u) : w.cell? ⟨g, p + i, none⟩ = some u := by
  rw [h.cellAt _ hp, List.getElem?_append_right (by omega), show p + i - va.length = i by omega, List.getElem?_append_left (List.getElem?_eq_some_iff.1 hu).1, hu]
/-- element j of a row of the call's own, with its cells and blocks -/
theorem OwnV.elem {w : World} {K n j : Nat} {A e B : List Dat} {F : List Nat} {v : Value} (h : OwnV w (.row K n (A ++ (e ++ B))) F v) (hj : j < n) (hA : A.length = j * K) (he : e.length = K) :
    ∃ g cap t F1 Fe F2 va ue vb, v = .slice (some ⟨g, 0, none⟩) n cap ∧ F = g :: (F1 ++ (Fe ++ F2)) ∧ w.ownsRow 0 t K (.slice (some ⟨g, 0, none⟩) n cap) n (va ++ (ue ++ vb)) ∧ va.length = j * K ∧ ue.length = K ∧ OwnVs w A F1 va ∧ OwnVs w e Fe ue ∧ OwnVs w B F2 vb := by
  obtain ⟨t, vs, F', h1, rfl, h3⟩ := h.row_
  obtain ⟨g, cap, rfl, -⟩ := h1.form (by omega)
  obtain ⟨F1, F'', va, v'', rfl, rfl, h4, h5⟩ := h3.parts
  obtain ⟨Fe, F2, ue, vb, rfl, rfl, h6, h7⟩ := h5.parts
  exact ⟨g, cap, t, F1, Fe, F2, va, ue, vb, rfl, rfl, h1, by rw [h4.len, hA], by rw [h6.len, he], h4, h6, h7⟩
theorem OwnV.put {w : World} {t : TypeId} {K n g cap : Nat} {A e B : List Dat} {F1 Fe F2 : List Nat} {va ue vb : List Value} (h : w.ownsRow 0 t K (.slice (some ⟨g, 0, none⟩) n cap) n (va ++ (ue ++ vb))) (h1 : OwnVs w A F1 va) (h2 : OwnVs w e Fe ue) (h3 : OwnVs w B F2 vb) :
    OwnV w (.row K n (A ++ (e ++ B))) (g :: (F1 ++ (Fe ++ F2))) (.slice (some ⟨g, 0, none⟩) n cap) := OwnV.mkRow h (h1.app (h2.app h3))
theorem nodup_elem {g : Nat} {F1 Fe F2 : List Nat} (h : (g :: (F1 ++ (Fe ++ F2))).Nodup) : Fe.Nodup ∧ g ∉ Fe ∧ (∀ b ∈ F1, b ∉ Fe) ∧ (∀ b ∈ F2, b ∉ Fe) ∧ (∀ b ∈ F1, b ≠ g) ∧ (∀ b ∈ F2, b ≠ g) ∧ (∀ b ∈ Fe, b ≠ g) := by
  rw [List.nodup_cons, List.nodup_append, List.nodup_append] at h
  obtain ⟨h1, h2, ⟨h3, h4, h5⟩, h6⟩ := h
  refine ⟨h3, fun hg => h1 (by simp [hg]), fun b hb he => h6 b hb b (by simp [he]) rfl, fun b hb he => h5 b he b hb rfl, ?_, ?_, ?_⟩ <;> rintro b hb rfl <;> exact h1 (by simp [hb])

theorem nodup_dis {F G : List Nat} (h : (F ++ G).Nodup) : (∀ b ∈ F, b ∉ G) ∧ (∀ b ∈ G, b ∉ F) ∧ F.Nodup ∧ G.Nodup := by
  rw [List.nodup_append] at h
  obtain ⟨h1, h2, h3⟩ := h
  exact ⟨fun b hb hg => h3 b hb b hg rfl, fun b hb hg => h3 b hg b hb rfl, h1, h2⟩
theorem Blk.fr {F : List Nat} {w w' : World} {g : Nat} {t : TypeId} {cs : Array Value} (h : Blk w g t cs) (hf : Fr F w w') (hg : g ∉ F) : Blk w' g t cs := (hf.block g h.lt hg).trans h
theorem mem_elem {g b : Nat} {F1 Fe F2 : List Nat} (h : b ∈ g :: Fe) : b ∈ g :: (F1 ++ (Fe ++ F2)) := by
  simp only [List.mem_cons, List.mem_append] at h ⊢
  rcases h with h | h
  · exact .inl h
  · exact .inr (.inr (.inl h))
theorem markText_at (x : Int) (n : Nat) (w : World) (hx : x = (n : Int)) (h0 : 0 < n) (h1 : n ≤ 1099511627776) :
    Calls Tryz.prog 56 #[.int .i64 x] w fun e w' => e = .returned (.string (mtext n)) ∧ Below w.heap.size w w' := by
  subst hx; exact markText_any n w h0 h1
end Go.Proofs.YtekobbeoaalibaaGreatDoor
end

section
namespace Go.Proofs.YtekobbeoaalibaaGreatDoor
open Go.RowKit
set_option linter.unusedVariables false

theorem strOwnOut {w : World} {c : ByteArray} {F : List Nat} {vs : List Value} (h : OwnVs w (strDats c) F vs) : F = [] ∧ vs = [Value.string c] := by
  unfold strDats at h
  obtain ⟨G0, H0, v0, t0, rfl, rfl, a0, h⟩ := h.out
  obtain ⟨rfl, rfl⟩ := h.outNil
  obtain ⟨rfl, rfl⟩ := a0.str_
  exact ⟨by simp, rfl⟩
theorem strOwnIn {w : World} {c : ByteArray}  : OwnVs w (strDats c) [] [.string c] := by
  exact (OwnVs.cons_ .mkStr (OwnVs.nil_ (w := w)))
def strCnt (c : ByteArray) : Nat := 1
def strMark (k : Nat) (c : ByteArray) : ByteArray := mtext k
set_option maxRecDepth 100000 in
set_option maxHeartbeats 1000000 in
theorem markStrs_any (l : List ByteArray) (v : Value) (F : List Nat) (x : Int) (k : Nat) (w : World) (hx : x = (k : Int)) (h : OwnV w (.row 1 l.length (flat strDats l)) F v) (hF : F.Nodup) (hk0 : 0 < k) (hk1 : k + sumOf strCnt l ≤ 1099511627776) :
    Calls Tryz.prog 18 #[v, .int .i64 x] w fun e w' => e = .returned (.int .i64 ((k + sumOf strCnt l : Nat) : Int)) ∧ OwnV w' (.row 1 (markL strMark strCnt k l).length (flat strDats (markL strMark strCnt k l))) F v ∧ Fr F w w' := by
  subst hx
  obtain ⟨A0, cap0, rfl, hc1, hc2, -⟩ := (h.rep (lo := 0) (hi := w.heap.size) (fun g hg => ⟨Nat.zero_le _, h.lt g hg⟩)).shape
  unfold maxLen at hc2
  have HF := Lib.hid hF
  clear hF
  go_enter Tryz.func18, Tryz.ntmps18
  go_wp2_with fail
  go_loopw [1, 5] (fun m i wr => ∃ j q : Nat, j ≤ l.length ∧ i = .int .i64 j ∧ m = .int .i64 q ∧ Hid (q = k + sumOf strCnt (l.take j)) ∧ OwnV wr (.row 1 l.length (flat strDats (halfM strMark strCnt k l j))) F (.slice A0 l.length cap0) ∧ Fr F w wr) (fun _ i _ => l.length - (intOf i).toNat)
  case atStart => exact ⟨0, k, Nat.zero_le _, rfl, rfl, by simp [sumOf, Hid], by rw [halfM_zero]; exact h, Fr.refl _ _⟩
  case round =>
    clear h
    obtain ⟨j, q, hj, rfl, rfl, hq, ho, hfr⟩ := hrel
    by_cases hlt : j < l.length
    · obtain ⟨c, hc⟩ : ∃ c, l[j]? = some c := ⟨_, List.getElem?_eq_getElem hlt⟩
      rw [halfM_at hc] at ho
      obtain ⟨g, cap, t, F1, Fe, F2, va, ue, vb, hv, rfl, hown, hva, hue, o1, oe, o2⟩ := ho.elem hlt (halfM_front strDats_len hj) (strDats_len c)
      injection hv with hA _ hcap
      subst hA hcap
      obtain ⟨rfl, rfl⟩ := strOwnOut oe
      obtain ⟨n1, n2, n3, n4, n5, n6, n7⟩ := nodup_elem HF.out
      have hle := sumOf_take_le strCnt l (j + 1)
      rw [sumOf_snoc (b := strCnt) hc] at hle
      have q0 : 0 < q := by have := hq.out; omega
      have q1 : q + strCnt c ≤ 1099511627776 := by have := hq.out; omega
      have hc0 : strCnt c = 1 := rfl
      rw [hc0] at q1
      have HN := Lib.hid (halfM_next (f := strDats) (mk := strMark) (cnt := strCnt) (k := k) hc)
      have HQ := Lib.hid (sumOf_snoc (b := strCnt) hc)
      have HVa := Lib.hid (show va.length = j by omega)
      have HO := Lib.hid (And.intro o1 o2)
      have hT0 := Fr.refl (g :: []) wr
      have HX := Lib.hid (show (∀ b ∈ F1, b ∉ g :: []) ∧ (∀ b ∈ F2, b ∉ g :: []) ∧ (∀ b ∈ g :: [], b ∈ g :: (F1 ++ ([] ++ F2))) from ⟨fun b hb => by simp only [List.mem_cons, not_or]; exact ⟨n5 b hb, n3 b hb⟩, fun b hb => by simp only [List.mem_cons, not_or]; exact ⟨n6 b hb, n4 b hb⟩, fun b hb => mem_elem hb⟩)
      clear hle hc ho o1 o2 hva hue oe n1 n2 n3 n4 n5 n6 n7 hc0
      obtain ⟨⟨u0, d0⟩, f0⟩ := own_at hown j (by omega)
      go_wp2_with fail
      refine (markText_at _ (q) _ (by push_cast; omega) (by omega) (by omega)).mono ?_; rintro e w1 ⟨rfl, hb1⟩
      have hown1 := own_later (hown) hb1
      have hT1 := hT0.trans (Fr.of_below hb1)
      clear hb1 hown hT0 d0 f0
      obtain ⟨⟨u0, d0⟩, f0⟩ := own_at hown1 j (by omega)
      have HT := Lib.hid hT1
      have HW := Lib.hid hown1
      clear hT1 hown1
      go_wp2_with fail
      go_roundw
      case rel =>
        refine ⟨j + 1, q + 1, by omega, by go_num, by go_num, ?_, ?_, ?_⟩
        · have := HQ.out; have := hq.out; have hc0 : strCnt c = 1 := rfl; show _ = _; omega
        · rw [HN.out, ← hq.out]
          refine OwnV.put (ue := [.string (strMark q c)]) (own_list ((HW.out.stored _ _).1) ?_) (HO.out.1.fr ((HT.out.set_ (p := ⟨g, _, none⟩) (by simp) _)) HX.out.1) (strOwnIn) (HO.out.2.fr ((HT.out.set_ (p := ⟨g, _, none⟩) (by simp) _)) HX.out.2.1)
          simp (disch := simp) only [set_mid0 HVa.out]
          rfl
        · exact hfr.trans (((HT.out.set_ (p := ⟨g, _, none⟩) (by simp) _)).mono HX.out.2.2)
      case measure => simp [intOf]; omega
    · obtain rfl : j = l.length := by omega
      rw [halfM_all] at ho
      rw [List.take_length] at hq
      go_wp2_with fail
      go_ret
      refine ⟨by rw [hq.out]; rfl, ?_, hfr⟩
      rw [markL_len]; exact ho
end Go.Proofs.YtekobbeoaalibaaGreatDoor
end

section
namespace Go.Proofs.YtekobbeoaalibaaGreatDoor
open Go.RowKit
set_option linter.unusedVariables false

theorem CRoT.ownOut {w : World} {c : CRoT} {F : List Nat} {vs : List Value} (h : OwnVs w c.dats F vs) : F = [] ∧ vs = [Value.string c.name, .int .i64 c.params, .int .i64 c.slots, .int .i64 c.entry] := by
  unfold CRoT.dats at h
  obtain ⟨G0, H0, v0, t0, rfl, rfl, a0, h⟩ := h.out
  obtain ⟨G1, H1, v1, t1, rfl, rfl, a1, h⟩ := h.out
  obtain ⟨G2, H2, v2, t2, rfl, rfl, a2, h⟩ := h.out
  obtain ⟨G3, H3, v3, t3, rfl, rfl, a3, h⟩ := h.out
  obtain ⟨rfl, rfl⟩ := h.outNil
  obtain ⟨rfl, rfl⟩ := a0.str_
  obtain ⟨rfl, rfl⟩ := a1.int_
  obtain ⟨rfl, rfl⟩ := a2.int_
  obtain ⟨rfl, rfl⟩ := a3.int_
  exact ⟨by simp, rfl⟩
theorem CRoT.ownIn {w : World} {c : CRoT}  : OwnVs w c.dats [] [.string c.name, Value.int .i64 c.params, .int .i64 c.slots, .int .i64 c.entry] := by
  exact (OwnVs.cons_ .mkStr (OwnVs.cons_ .mkInt (OwnVs.cons_ .mkInt (OwnVs.cons_ .mkInt (OwnVs.nil_ (w := w))))))
def CRoT.cnt (c : CRoT) : Nat := 1 + 1 + 1 + 1
def CRoT.mark (k : Nat) (c : CRoT) : CRoT := { name := mtext (k), params := (k : Int) + 1, slots := (k : Int) + 1 + 1, entry := (k : Int) + 1 + 1 + 1 }
set_option maxRecDepth 100000 in
set_option maxHeartbeats 1000000 in
theorem markCodeRoutineS_any (l : List CRoT) (v : Value) (F : List Nat) (x : Int) (k : Nat) (w : World) (hx : x = (k : Int)) (h : OwnV w (.row 4 l.length (flat CRoT.dats l)) F v) (hF : F.Nodup) (hk0 : 0 < k) (hk1 : k + sumOf CRoT.cnt l ≤ 1099511627776) :
    Calls Tryz.prog 53 #[v, .int .i64 x] w fun e w' => e = .returned (.int .i64 ((k + sumOf CRoT.cnt l : Nat) : Int)) ∧ OwnV w' (.row 4 (markL CRoT.mark CRoT.cnt k l).length (flat CRoT.dats (markL CRoT.mark CRoT.cnt k l))) F v ∧ Fr F w w' := by
  subst hx
  obtain ⟨A0, cap0, rfl, hc1, hc2, -⟩ := (h.rep (lo := 0) (hi := w.heap.size) (fun g hg => ⟨Nat.zero_le _, h.lt g hg⟩)).shape
  unfold maxLen at hc2
  have HF := Lib.hid hF
  clear hF
  go_enter Tryz.func53, Tryz.ntmps53
  go_wp2_with fail
  go_loopw [1, 5] (fun m i wr => ∃ j q : Nat, j ≤ l.length ∧ i = .int .i64 j ∧ m = .int .i64 q ∧ Hid (q = k + sumOf CRoT.cnt (l.take j)) ∧ OwnV wr (.row 4 l.length (flat CRoT.dats (halfM CRoT.mark CRoT.cnt k l j))) F (.slice A0 l.length cap0) ∧ Fr F w wr) (fun _ i _ => l.length - (intOf i).toNat)
  case atStart => exact ⟨0, k, Nat.zero_le _, rfl, rfl, by simp [sumOf, Hid], by rw [halfM_zero]; exact h, Fr.refl _ _⟩
  case round =>
    clear h
    obtain ⟨j, q, hj, rfl, rfl, hq, ho, hfr⟩ := hrel
    by_cases hlt : j < l.length
    · obtain ⟨c, hc⟩ : ∃ c, l[j]? = some c := ⟨_, List.getElem?_eq_getElem hlt⟩
      rw [halfM_at hc] at ho
      obtain ⟨g, cap, t, F1, Fe, F2, va, ue, vb, hv, rfl, hown, hva, hue, o1, oe, o2⟩ := ho.elem hlt (halfM_front CRoT.dats_len hj) c.dats_len
      injection hv with hA _ hcap
      subst hA hcap
      obtain ⟨hFe, rfl⟩ := CRoT.ownOut oe
      have hFe := hFe.symm
      subst hFe
      obtain ⟨n1, n2, n3, n4, n5, n6, n7⟩ := nodup_elem HF.out
      have hle := sumOf_take_le CRoT.cnt l (j + 1)
      rw [sumOf_snoc (b := CRoT.cnt) hc] at hle
      have q0 : 0 < q := by have := hq.out; omega
      have q1 : q + c.cnt ≤ 1099511627776 := by have := hq.out; omega
      have hc0 : c.cnt = 1 + 1 + 1 + 1 := rfl
      rw [hc0] at q1
      have HN := Lib.hid (halfM_next (f := CRoT.dats) (mk := CRoT.mark) (cnt := CRoT.cnt) (k := k) hc)
      have HQ := Lib.hid (sumOf_snoc (b := CRoT.cnt) hc)
      have HVa := Lib.hid hva
      have HO := Lib.hid (And.intro o1 o2)
      have hT0 := Fr.refl (g :: []) wr
      have HX := Lib.hid (show (∀ b ∈ F1, b ∉ g :: []) ∧ (∀ b ∈ F2, b ∉ g :: []) ∧ (∀ b ∈ g :: [], b ∈ g :: (F1 ++ ([] ++ F2))) from ⟨fun b hb => by simp only [List.mem_cons, not_or]; exact ⟨n5 b hb, n3 b hb⟩, fun b hb => by simp only [List.mem_cons, not_or]; exact ⟨n6 b hb, n4 b hb⟩, fun b hb => mem_elem hb⟩)
      clear hle hc ho o1 o2 hva hue oe n1 n2 n3 n4 n5 n6 n7 hc0
      obtain ⟨⟨u0, d0⟩, f0⟩ := own_at hown (j * 4) (by omega)
      obtain ⟨⟨u1, d1⟩, f1⟩ := own_at hown (j * 4 + 1) (by omega)
      obtain ⟨⟨u2, d2⟩, f2⟩ := own_at hown (j * 4 + 2) (by omega)
      obtain ⟨⟨u3, d3⟩, f3⟩ := own_at hown (j * 4 + 3) (by omega)
      go_wp2_with fail
      refine (markText_at _ (q) _ (by push_cast; omega) (by omega) (by omega)).mono ?_; rintro e w1 ⟨rfl, hb1⟩
      have hown1 := own_later (hown) hb1
      have hT1 := hT0.trans (Fr.of_below hb1)
      clear hb1 hown hT0 d0 f0 d1 f1 d2 f2 d3 f3
      obtain ⟨⟨u0, d0⟩, f0⟩ := own_at hown1 (j * 4) (by omega)
      obtain ⟨⟨u1, d1⟩, f1⟩ := own_at hown1 (j * 4 + 1) (by omega)
      obtain ⟨⟨u2, d2⟩, f2⟩ := own_at hown1 (j * 4 + 2) (by omega)
      obtain ⟨⟨u3, d3⟩, f3⟩ := own_at hown1 (j * 4 + 3) (by omega)
      have HT := Lib.hid hT1
      have HW := Lib.hid hown1
      clear hT1 hown1
      go_wp2_with fail
      go_roundw
      case rel =>
        refine ⟨j + 1, q + 1 + 1 + 1 + 1, by omega, by go_num, by go_num, ?_, ?_, ?_⟩
        · have := HQ.out; have := hq.out; have hc0 : c.cnt = 1 + 1 + 1 + 1 := rfl; show _ = _; omega
        · rw [HN.out, ← hq.out]
          refine OwnV.put (ue := [.string (CRoT.mark q c).name, .int .i64 (CRoT.mark q c).params, .int .i64 (CRoT.mark q c).slots, .int .i64 (CRoT.mark q c).entry]) (own_list (((((HW.out.stored _ _).1.stored _ _).1.stored _ _).1.stored _ _).1) ?_) (HO.out.1.fr (((((HT.out.set_ (p := ⟨g, _, none⟩) (by simp) _).set_ (p := ⟨g, _, none⟩) (by simp) _).set_ (p := ⟨g, _, none⟩) (by simp) _).set_ (p := ⟨g, _, none⟩) (by simp) _)) HX.out.1) (CRoT.ownIn) (HO.out.2.fr (((((HT.out.set_ (p := ⟨g, _, none⟩) (by simp) _).set_ (p := ⟨g, _, none⟩) (by simp) _).set_ (p := ⟨g, _, none⟩) (by simp) _).set_ (p := ⟨g, _, none⟩) (by simp) _)) HX.out.2.1)
          simp (disch := simp) only [set_mid0 HVa.out, set_mid HVa.out]
          rfl
        · exact hfr.trans ((((((HT.out.set_ (p := ⟨g, _, none⟩) (by simp) _).set_ (p := ⟨g, _, none⟩) (by simp) _).set_ (p := ⟨g, _, none⟩) (by simp) _).set_ (p := ⟨g, _, none⟩) (by simp) _)).mono HX.out.2.2)
      case measure => simp [intOf]; omega
    · obtain rfl : j = l.length := by omega
      rw [halfM_all] at ho
      rw [List.take_length] at hq
      go_wp2_with fail
      go_ret
      refine ⟨by rw [hq.out]; rfl, ?_, hfr⟩
      rw [markL_len]; exact ho
end Go.Proofs.YtekobbeoaalibaaGreatDoor
end

section
namespace Go.Proofs.YtekobbeoaalibaaGreatDoor
open Go.RowKit
set_option linter.unusedVariables false

theorem RecT.ownOut {w : World} {c : RecT} {F : List Nat} {vs : List Value} (h : OwnVs w c.dats F vs) : ∃ Afields nfields Ffields, F = Ffields ∧ vs = [Value.string c.name, .slice Afields c.fields.length nfields, .int .i64 c.line] ∧ OwnV w (.row 1 c.fields.length (flat strDats c.fields)) Ffields (.slice Afields c.fields.length nfields) := by
  unfold RecT.dats at h
  obtain ⟨G0, H0, v0, t0, rfl, rfl, a0, h⟩ := h.out
  obtain ⟨G1, H1, v1, t1, rfl, rfl, a1, h⟩ := h.out
  obtain ⟨G2, H2, v2, t2, rfl, rfl, a2, h⟩ := h.out
  obtain ⟨rfl, rfl⟩ := h.outNil
  obtain ⟨rfl, rfl⟩ := a0.str_
  obtain ⟨A1, c1, rfl, -, -⟩ := LRep.shape (f := strDats) (a1.rep (lo := 0) (hi := w.heap.size) fun g hg => ⟨Nat.zero_le _, a1.lt g hg⟩)
  obtain ⟨rfl, rfl⟩ := a2.int_
  exact ⟨A1, c1, G1, by simp, rfl, a1⟩
theorem RecT.ownIn {w : World} {c : RecT} {vfields : Value} {Ffields : List Nat} (hfields : OwnV w (.row 1 c.fields.length (flat strDats c.fields)) Ffields vfields) : OwnVs w c.dats Ffields [.string c.name, vfields, Value.int .i64 c.line] := by
  have H : OwnVs w [.str c.name, .row 1 c.fields.length (flat strDats c.fields), .int .i64 c.line] _ [.string c.name, vfields, .int .i64 c.line] := (OwnVs.cons_ .mkStr (OwnVs.cons_ hfields (OwnVs.cons_ .mkInt (OwnVs.nil_ (w := w)))))
  simpa [RecT.dats] using H
def RecT.cnt (c : RecT) : Nat := 1 + sumOf strCnt c.fields + 1
def RecT.mark (k : Nat) (c : RecT) : RecT := { name := mtext (k), fields := markL strMark strCnt (k + 1) c.fields, line := ((k + 1 + sumOf strCnt c.fields : Nat) : Int) }
set_option maxRecDepth 100000 in
set_option maxHeartbeats 1000000 in
theorem markRecordTypeS_any (l : List RecT) (v : Value) (F : List Nat) (x : Int) (k : Nat) (w : World) (hx : x = (k : Int)) (h : OwnV w (.row 3 l.length (flat RecT.dats l)) F v) (hF : F.Nodup) (hk0 : 0 < k) (hk1 : k + sumOf RecT.cnt l ≤ 1099511627776) :
    Calls Tryz.prog 54 #[v, .int .i64 x] w fun e w' => e = .returned (.int .i64 ((k + sumOf RecT.cnt l : Nat) : Int)) ∧ OwnV w' (.row 3 (markL RecT.mark RecT.cnt k l).length (flat RecT.dats (markL RecT.mark RecT.cnt k l))) F v ∧ Fr F w w' := by
  subst hx
  obtain ⟨A0, cap0, rfl, hc1, hc2, -⟩ := (h.rep (lo := 0) (hi := w.heap.size) (fun g hg => ⟨Nat.zero_le _, h.lt g hg⟩)).shape
  unfold maxLen at hc2
  have HF := Lib.hid hF
  clear hF
  go_enter Tryz.func54, Tryz.ntmps54
  go_wp2_with fail
  go_loopw [1, 5] (fun m i wr => ∃ j q : Nat, j ≤ l.length ∧ i = .int .i64 j ∧ m = .int .i64 q ∧ Hid (q = k + sumOf RecT.cnt (l.take j)) ∧ OwnV wr (.row 3 l.length (flat RecT.dats (halfM RecT.mark RecT.cnt k l j))) F (.slice A0 l.length cap0) ∧ Fr F w wr) (fun _ i _ => l.length - (intOf i).toNat)
  case atStart => exact ⟨0, k, Nat.zero_le _, rfl, rfl, by simp [sumOf, Hid], by rw [halfM_zero]; exact h, Fr.refl _ _⟩
  case round =>
    clear h
    obtain ⟨j, q, hj, rfl, rfl, hq, ho, hfr⟩ := hrel
    by_cases hlt : j < l.length
    · obtain ⟨c, hc⟩ : ∃ c, l[j]? = some c := ⟨_, List.getElem?_eq_getElem hlt⟩
      rw [halfM_at hc] at ho
      obtain ⟨g, cap, t, F1, Fe, F2, va, ue, vb, hv, rfl, hown, hva, hue, o1, oe, o2⟩ := ho.elem hlt (halfM_front RecT.dats_len hj) c.dats_len
      injection hv with hA _ hcap
      subst hA hcap
      obtain ⟨Afields, nfields, Ffields, hFe, rfl, rfields⟩ := RecT.ownOut oe
      have hFe := hFe.symm
      subst hFe
      obtain ⟨n1, n2, n3, n4, n5, n6, n7⟩ := nodup_elem HF.out
      have hle := sumOf_take_le RecT.cnt l (j + 1)
      rw [sumOf_snoc (b := RecT.cnt) hc] at hle
      have q0 : 0 < q := by have := hq.out; omega
      have q1 : q + c.cnt ≤ 1099511627776 := by have := hq.out; omega
      have hc0 : c.cnt = 1 + sumOf strCnt c.fields + 1 := rfl
      rw [hc0] at q1
      have HN := Lib.hid (halfM_next (f := RecT.dats) (mk := RecT.mark) (cnt := RecT.cnt) (k := k) hc)
      have HQ := Lib.hid (sumOf_snoc (b := RecT.cnt) hc)
      have HVa := Lib.hid hva
      have HO := Lib.hid (And.intro o1 o2)
      have hT0 := Fr.refl (g :: Ffields) wr
      have HX := Lib.hid (show (∀ b ∈ F1, b ∉ g :: Ffields) ∧ (∀ b ∈ F2, b ∉ g :: Ffields) ∧ (∀ b ∈ g :: Ffields, b ∈ g :: (F1 ++ (Ffields ++ F2))) from ⟨fun b hb => by simp only [List.mem_cons, not_or]; exact ⟨n5 b hb, n3 b hb⟩, fun b hb => by simp only [List.mem_cons, not_or]; exact ⟨n6 b hb, n4 b hb⟩, fun b hb => mem_elem hb⟩)
      have N1 := Lib.hid n1
      have N2 := Lib.hid n2
      have N7 := Lib.hid n7
      clear hle hc ho o1 o2 hva hue oe n1 n2 n3 n4 n5 n6 n7 hc0
      obtain ⟨⟨u0, d0⟩, f0⟩ := own_at hown (j * 3) (by omega)
      have d1 := own_mid hown HVa.out (i := 1) (by omega) rfl
      have f1 := hown.frozenAt (j * 3 + 1)
      obtain ⟨⟨u2, d2⟩, f2⟩ := own_at hown (j * 3 + 2) (by omega)
      go_wp2_with fail
      refine (markText_at _ (q) _ (by push_cast; omega) (by omega) (by omega)).mono ?_; rintro e w1 ⟨rfl, hb1⟩
      have hown1 := own_later (hown) hb1
      have hT1 := hT0.trans (Fr.of_below hb1)
      have rfields' := rfields.fr ((Fr.refl [g] _).trans (Fr.of_below hb1)) (fun b hb => by simpa using N7.out b hb)
      clear rfields
      have rfields := rfields'
      clear rfields'
      clear hb1 hown hT0 d0 f0 d1 f1 d2 f2
      obtain ⟨⟨u0, d0⟩, f0⟩ := own_at hown1 (j * 3) (by omega)
      have d1 := own_mid hown1 HVa.out (i := 1) (by omega) rfl
      have f1 := hown1.frozenAt (j * 3 + 1)
      obtain ⟨⟨u2, d2⟩, f2⟩ := own_at hown1 (j * 3 + 2) (by omega)
      go_wp2_with fail
      refine (markStrs_any c.fields _ Ffields _ (q + 1) _ (by push_cast; omega) (rfields.fr ((Fr.refl [g] _).set_ (p := ⟨g, _, none⟩) (by simp) _) (fun b hb => by simpa using N7.out b hb)) N1.out (by omega) (by omega)).mono ?_; rintro e w2 ⟨rfl, rfields', hb2⟩
      have hown2 := own_list (own_fr ((hown1.stored _ _).1) hb2 N2.out) (show _ = va ++ ([Value.string (mtext (q)), .slice Afields c.fields.length nfields, .int .i64 c.line] ++ vb) by simp (disch := simp) only [set_mid0 HVa.out]; rfl)
      have hT2 := (hT1.set_ (p := ⟨g, _, none⟩) (by simp) _).trans (hb2.mono (by intro b hb; simp [hb]))
      clear rfields
      have rfields := rfields'
      clear rfields'
      clear hb2 hown1 hT1 d0 f0 d1 f1 d2 f2
      obtain ⟨⟨u0, d0⟩, f0⟩ := own_at hown2 (j * 3) (by omega)
      have d1 := own_mid hown2 HVa.out (i := 1) (by omega) rfl
      have f1 := hown2.frozenAt (j * 3 + 1)
      obtain ⟨⟨u2, d2⟩, f2⟩ := own_at hown2 (j * 3 + 2) (by omega)
      have HT := Lib.hid hT2
      have HW := Lib.hid hown2
      clear hT2 hown2
      have Rfields := Lib.hid rfields
      clear rfields
      go_wp2_with fail
      go_roundw
      case rel =>
        refine ⟨j + 1, q + 1 + sumOf strCnt c.fields + 1, by omega, by go_num, by go_num, ?_, ?_, ?_⟩
        · have := HQ.out; have := hq.out; have hc0 : c.cnt = 1 + sumOf strCnt c.fields + 1 := rfl; show _ = _; omega
        · rw [HN.out, ← hq.out]
          refine OwnV.put (ue := [.string (RecT.mark q c).name, .slice Afields c.fields.length nfields, .int .i64 (RecT.mark q c).line]) (own_list ((HW.out.stored _ _).1) ?_) (HO.out.1.fr ((HT.out.set_ (p := ⟨g, _, none⟩) (by simp) _)) HX.out.1) (RecT.ownIn (Rfields.out.fr ((Fr.refl [g] _).set_ (p := ⟨g, _, none⟩) (by simp) _) (fun b hb => by simpa using N7.out b hb))) (HO.out.2.fr ((HT.out.set_ (p := ⟨g, _, none⟩) (by simp) _)) HX.out.2.1)
          simp (disch := simp) only [set_mid HVa.out]
          rfl
        · exact hfr.trans (((HT.out.set_ (p := ⟨g, _, none⟩) (by simp) _)).mono HX.out.2.2)
      case measure => simp [intOf]; omega
    · obtain rfl : j = l.length := by omega
      rw [halfM_all] at ho
      rw [List.take_length] at hq
      go_wp2_with fail
      go_ret
      refine ⟨by rw [hq.out]; rfl, ?_, hfr⟩
      rw [markL_len]; exact ho
end Go.Proofs.YtekobbeoaalibaaGreatDoor
end

section
namespace Go.Proofs.YtekobbeoaalibaaGreatDoor
open Go.RowKit
set_option linter.unusedVariables false

theorem InsT.ownOut {w : World} {c : InsT} {F : List Nat} {vs : List Value} (h : OwnVs w c.dats F vs) : F = [] ∧ vs = [Value.int .i64 c.op, .int .i64 c.a, .int .i64 c.b, .int .i64 c.line, .string c.text] := by
  unfold InsT.dats at h
  obtain ⟨G0, H0, v0, t0, rfl, rfl, a0, h⟩ := h.out
  obtain ⟨G1, H1, v1, t1, rfl, rfl, a1, h⟩ := h.out
  obtain ⟨G2, H2, v2, t2, rfl, rfl, a2, h⟩ := h.out
  obtain ⟨G3, H3, v3, t3, rfl, rfl, a3, h⟩ := h.out
  obtain ⟨G4, H4, v4, t4, rfl, rfl, a4, h⟩ := h.out
  obtain ⟨rfl, rfl⟩ := h.outNil
  obtain ⟨rfl, rfl⟩ := a0.int_
  obtain ⟨rfl, rfl⟩ := a1.int_
  obtain ⟨rfl, rfl⟩ := a2.int_
  obtain ⟨rfl, rfl⟩ := a3.int_
  obtain ⟨rfl, rfl⟩ := a4.str_
  exact ⟨by simp, rfl⟩
theorem InsT.ownIn {w : World} {c : InsT}  : OwnVs w c.dats [] [Value.int .i64 c.op, .int .i64 c.a, .int .i64 c.b, .int .i64 c.line, .string c.text] := by
  exact (OwnVs.cons_ .mkInt (OwnVs.cons_ .mkInt (OwnVs.cons_ .mkInt (OwnVs.cons_ .mkInt (OwnVs.cons_ .mkStr (OwnVs.nil_ (w := w)))))))
def InsT.cnt (c : InsT) : Nat := 1 + 1 + 1 + 1 + 1
def InsT.mark (k : Nat) (c : InsT) : InsT := { op := (k : Int), a := (k : Int) + 1, b := (k : Int) + 1 + 1, line := (k : Int) + 1 + 1 + 1, text := mtext (k + 1 + 1 + 1 + 1) }
set_option maxRecDepth 100000 in
set_option maxHeartbeats 1000000 in
theorem markInstrS_any (l : List InsT) (v : Value) (F : List Nat) (x : Int) (k : Nat) (w : World) (hx : x = (k : Int)) (h : OwnV w (.row 5 l.length (flat InsT.dats l)) F v) (hF : F.Nodup) (hk0 : 0 < k) (hk1 : k + sumOf InsT.cnt l ≤ 1099511627776) :
    Calls Tryz.prog 55 #[v, .int .i64 x] w fun e w' => e = .returned (.int .i64 ((k + sumOf InsT.cnt l : Nat) : Int)) ∧ OwnV w' (.row 5 (markL InsT.mark InsT.cnt k l).length (flat InsT.dats (markL InsT.mark InsT.cnt k l))) F v ∧ Fr F w w' := by
  subst hx
  obtain ⟨A0, cap0, rfl, hc1, hc2, -⟩ := (h.rep (lo := 0) (hi := w.heap.size) (fun g hg => ⟨Nat.zero_le _, h.lt g hg⟩)).shape
  unfold maxLen at hc2
  have HF := Lib.hid hF
  clear hF
  go_enter Tryz.func55, Tryz.ntmps55
  go_wp2_with fail
  go_loopw [1, 5] (fun m i wr => ∃ j q : Nat, j ≤ l.length ∧ i = .int .i64 j ∧ m = .int .i64 q ∧ Hid (q = k + sumOf InsT.cnt (l.take j)) ∧ OwnV wr (.row 5 l.length (flat InsT.dats (halfM InsT.mark InsT.cnt k l j))) F (.slice A0 l.length cap0) ∧ Fr F w wr) (fun _ i _ => l.length - (intOf i).toNat)
  case atStart => exact ⟨0, k, Nat.zero_le _, rfl, rfl, by simp [sumOf, Hid], by rw [halfM_zero]; exact h, Fr.refl _ _⟩
  case round =>
    clear h
    obtain ⟨j, q, hj, rfl, rfl, hq, ho, hfr⟩ := hrel
    by_cases hlt : j < l.length
    · obtain ⟨c, hc⟩ : ∃ c, l[j]? = some c := ⟨_, List.getElem?_eq_getElem hlt⟩
      rw [halfM_at hc] at ho
      obtain ⟨g, cap, t, F1, Fe, F2, va, ue, vb, hv, rfl, hown, hva, hue, o1, oe, o2⟩ := ho.elem hlt (halfM_front InsT.dats_len hj) c.dats_len
      injection hv with hA _ hcap
      subst hA hcap
      obtain ⟨hFe, rfl⟩ := InsT.ownOut oe
      have hFe := hFe.symm
      subst hFe
      obtain ⟨n1, n2, n3, n4, n5, n6, n7⟩ := nodup_elem HF.out
      have hle := sumOf_take_le InsT.cnt l (j + 1)
      rw [sumOf_snoc (b := InsT.cnt) hc] at hle
      have q0 : 0 < q := by have := hq.out; omega
      have q1 : q + c.cnt ≤ 1099511627776 := by have := hq.out; omega
      have hc0 : c.cnt = 1 + 1 + 1 + 1 + 1 := rfl
      rw [hc0] at q1
      have HN := Lib.hid (halfM_next (f := InsT.dats) (mk := InsT.mark) (cnt := InsT.cnt) (k := k) hc)
      have HQ := Lib.hid (sumOf_snoc (b := InsT.cnt) hc)
      have HVa := Lib.hid hva
      have HO := Lib.hid (And.intro o1 o2)
      have hT0 := Fr.refl (g :: []) wr
      have HX := Lib.hid (show (∀ b ∈ F1, b ∉ g :: []) ∧ (∀ b ∈ F2, b ∉ g :: []) ∧ (∀ b ∈ g :: [], b ∈ g :: (F1 ++ ([] ++ F2))) from ⟨fun b hb => by simp only [List.mem_cons, not_or]; exact ⟨n5 b hb, n3 b hb⟩, fun b hb => by simp only [List.mem_cons, not_or]; exact ⟨n6 b hb, n4 b hb⟩, fun b hb => mem_elem hb⟩)
      clear hle hc ho o1 o2 hva hue oe n1 n2 n3 n4 n5 n6 n7 hc0
      obtain ⟨⟨u0, d0⟩, f0⟩ := own_at hown (j * 5) (by omega)
      obtain ⟨⟨u1, d1⟩, f1⟩ := own_at hown (j * 5 + 1) (by omega)
      obtain ⟨⟨u2, d2⟩, f2⟩ := own_at hown (j * 5 + 2) (by omega)
      obtain ⟨⟨u3, d3⟩, f3⟩ := own_at hown (j * 5 + 3) (by omega)
      obtain ⟨⟨u4, d4⟩, f4⟩ := own_at hown (j * 5 + 4) (by omega)
      go_wp2_with fail
      refine (markText_at _ (q + 1 + 1 + 1 + 1) _ (by push_cast; omega) (by omega) (by omega)).mono ?_; rintro e w1 ⟨rfl, hb1⟩
      have hown1 := own_list (own_later (((((hown.stored _ _).1.stored _ _).1.stored _ _).1.stored _ _).1) hb1) (show _ = va ++ ([Value.int .i64 ((q : Int)), .int .i64 ((q : Int) + 1), .int .i64 ((q : Int) + 1 + 1), .int .i64 ((q : Int) + 1 + 1 + 1), .string c.text] ++ vb) by simp (disch := simp) only [set_mid0 HVa.out, set_mid HVa.out]; rfl)
      have hT1 := ((((hT0.set_ (p := ⟨g, _, none⟩) (by simp) _).set_ (p := ⟨g, _, none⟩) (by simp) _).set_ (p := ⟨g, _, none⟩) (by simp) _).set_ (p := ⟨g, _, none⟩) (by simp) _).trans (Fr.of_below hb1)
      clear hb1 hown hT0 d0 f0 d1 f1 d2 f2 d3 f3 d4 f4
      obtain ⟨⟨u0, d0⟩, f0⟩ := own_at hown1 (j * 5) (by omega)
      obtain ⟨⟨u1, d1⟩, f1⟩ := own_at hown1 (j * 5 + 1) (by omega)
      obtain ⟨⟨u2, d2⟩, f2⟩ := own_at hown1 (j * 5 + 2) (by omega)
      obtain ⟨⟨u3, d3⟩, f3⟩ := own_at hown1 (j * 5 + 3) (by omega)
      obtain ⟨⟨u4, d4⟩, f4⟩ := own_at hown1 (j * 5 + 4) (by omega)
      have HT := Lib.hid hT1
      have HW := Lib.hid hown1
      clear hT1 hown1
      go_wp2_with fail
      go_roundw
      case rel =>
        refine ⟨j + 1, q + 1 + 1 + 1 + 1 + 1, by omega, by go_num, by go_num, ?_, ?_, ?_⟩
        · have := HQ.out; have := hq.out; have hc0 : c.cnt = 1 + 1 + 1 + 1 + 1 := rfl; show _ = _; omega
        · rw [HN.out, ← hq.out]
          refine OwnV.put (ue := [.int .i64 (InsT.mark q c).op, .int .i64 (InsT.mark q c).a, .int .i64 (InsT.mark q c).b, .int .i64 (InsT.mark q c).line, .string (InsT.mark q c).text]) (own_list ((HW.out.stored _ _).1) ?_) (HO.out.1.fr ((HT.out.set_ (p := ⟨g, _, none⟩) (by simp) _)) HX.out.1) (InsT.ownIn) (HO.out.2.fr ((HT.out.set_ (p := ⟨g, _, none⟩) (by simp) _)) HX.out.2.1)
          simp (disch := simp) only [set_mid HVa.out]
          rfl
        · exact hfr.trans (((HT.out.set_ (p := ⟨g, _, none⟩) (by simp) _)).mono HX.out.2.2)
      case measure => simp [intOf]; omega
    · obtain rfl : j = l.length := by omega
      rw [halfM_all] at ho
      rw [List.take_length] at hq
      go_wp2_with fail
      go_ret
      refine ⟨by rw [hq.out]; rfl, ?_, hfr⟩
      rw [markL_len]; exact ho
end Go.Proofs.YtekobbeoaalibaaGreatDoor
end

section
namespace Go.Proofs.YtekobbeoaalibaaGreatDoor
open Go.RowKit
set_option linter.unusedVariables false

theorem EditT.ownOut {w : World} {c : EditT} {F : List Nat} {vs : List Value} (h : OwnVs w c.dats F vs) : F = [] ∧ vs = [Value.int .i64 c.kind, .int .i64 c.place] := by
  unfold EditT.dats at h
  obtain ⟨G0, H0, v0, t0, rfl, rfl, a0, h⟩ := h.out
  obtain ⟨G1, H1, v1, t1, rfl, rfl, a1, h⟩ := h.out
  obtain ⟨rfl, rfl⟩ := h.outNil
  obtain ⟨rfl, rfl⟩ := a0.int_
  obtain ⟨rfl, rfl⟩ := a1.int_
  exact ⟨by simp, rfl⟩
theorem EditT.ownIn {w : World} {c : EditT}  : OwnVs w c.dats [] [Value.int .i64 c.kind, .int .i64 c.place] := by
  exact (OwnVs.cons_ .mkInt (OwnVs.cons_ .mkInt (OwnVs.nil_ (w := w))))
def EditT.cnt (c : EditT) : Nat := 1 + 1
def EditT.mark (k : Nat) (c : EditT) : EditT := { kind := (k : Int), place := (k : Int) + 1 }
set_option maxRecDepth 100000 in
set_option maxHeartbeats 1000000 in
theorem markEditS_any (l : List EditT) (v : Value) (F : List Nat) (x : Int) (k : Nat) (w : World) (hx : x = (k : Int)) (h : OwnV w (.row 2 l.length (flat EditT.dats l)) F v) (hF : F.Nodup) (hk0 : 0 < k) (hk1 : k + sumOf EditT.cnt l ≤ 1099511627776) :
    Calls Tryz.prog 26 #[v, .int .i64 x] w fun e w' => e = .returned (.int .i64 ((k + sumOf EditT.cnt l : Nat) : Int)) ∧ OwnV w' (.row 2 (markL EditT.mark EditT.cnt k l).length (flat EditT.dats (markL EditT.mark EditT.cnt k l))) F v ∧ Fr F w w' := by
  subst hx
  obtain ⟨A0, cap0, rfl, hc1, hc2, -⟩ := (h.rep (lo := 0) (hi := w.heap.size) (fun g hg => ⟨Nat.zero_le _, h.lt g hg⟩)).shape
  unfold maxLen at hc2
  have HF := Lib.hid hF
  clear hF
  go_enter Tryz.func26, Tryz.ntmps26
  go_wp2_with fail
  go_loopw [1, 5] (fun m i wr => ∃ j q : Nat, j ≤ l.length ∧ i = .int .i64 j ∧ m = .int .i64 q ∧ Hid (q = k + sumOf EditT.cnt (l.take j)) ∧ OwnV wr (.row 2 l.length (flat EditT.dats (halfM EditT.mark EditT.cnt k l j))) F (.slice A0 l.length cap0) ∧ Fr F w wr) (fun _ i _ => l.length - (intOf i).toNat)
  case atStart => exact ⟨0, k, Nat.zero_le _, rfl, rfl, by simp [sumOf, Hid], by rw [halfM_zero]; exact h, Fr.refl _ _⟩
  case round =>
    clear h
    obtain ⟨j, q, hj, rfl, rfl, hq, ho, hfr⟩ := hrel
    by_cases hlt : j < l.length
    · obtain ⟨c, hc⟩ : ∃ c, l[j]? = some c := ⟨_, List.getElem?_eq_getElem hlt⟩
      rw [halfM_at hc] at ho
      obtain ⟨g, cap, t, F1, Fe, F2, va, ue, vb, hv, rfl, hown, hva, hue, o1, oe, o2⟩ := ho.elem hlt (halfM_front EditT.dats_len hj) c.dats_len
      injection hv with hA _ hcap
      subst hA hcap
      obtain ⟨hFe, rfl⟩ := EditT.ownOut oe
      have hFe := hFe.symm
      subst hFe
      obtain ⟨n1, n2, n3, n4, n5, n6, n7⟩ := nodup_elem HF.out
      have hle := sumOf_take_le EditT.cnt l (j + 1)
      rw [sumOf_snoc (b := EditT.cnt) hc] at hle
      have q0 : 0 < q := by have := hq.out; omega
      have q1 : q + c.cnt ≤ 1099511627776 := by have := hq.out; omega
      have hc0 : c.cnt = 1 + 1 := rfl
      rw [hc0] at q1
      have HN := Lib.hid (halfM_next (f := EditT.dats) (mk := EditT.mark) (cnt := EditT.cnt) (k := k) hc)
      have HQ := Lib.hid (sumOf_snoc (b := EditT.cnt) hc)
      have HVa := Lib.hid hva
      have HO := Lib.hid (And.intro o1 o2)
      have hT0 := Fr.refl (g :: []) wr
      have HX := Lib.hid (show (∀ b ∈ F1, b ∉ g :: []) ∧ (∀ b ∈ F2, b ∉ g :: []) ∧ (∀ b ∈ g :: [], b ∈ g :: (F1 ++ ([] ++ F2))) from ⟨fun b hb => by simp only [List.mem_cons, not_or]; exact ⟨n5 b hb, n3 b hb⟩, fun b hb => by simp only [List.mem_cons, not_or]; exact ⟨n6 b hb, n4 b hb⟩, fun b hb => mem_elem hb⟩)
      clear hle hc ho o1 o2 hva hue oe n1 n2 n3 n4 n5 n6 n7 hc0
      obtain ⟨⟨u0, d0⟩, f0⟩ := own_at hown (j * 2) (by omega)
      obtain ⟨⟨u1, d1⟩, f1⟩ := own_at hown (j * 2 + 1) (by omega)
      have HT := Lib.hid hT0
      have HW := Lib.hid hown
      clear hT0 hown
      go_wp2_with fail
      go_roundw
      case rel =>
        refine ⟨j + 1, q + 1 + 1, by omega, by go_num, by go_num, ?_, ?_, ?_⟩
        · have := HQ.out; have := hq.out; have hc0 : c.cnt = 1 + 1 := rfl; show _ = _; omega
        · rw [HN.out, ← hq.out]
          refine OwnV.put (ue := [.int .i64 (EditT.mark q c).kind, .int .i64 (EditT.mark q c).place]) (own_list (((HW.out.stored _ _).1.stored _ _).1) ?_) (HO.out.1.fr (((HT.out.set_ (p := ⟨g, _, none⟩) (by simp) _).set_ (p := ⟨g, _, none⟩) (by simp) _)) HX.out.1) (EditT.ownIn) (HO.out.2.fr (((HT.out.set_ (p := ⟨g, _, none⟩) (by simp) _).set_ (p := ⟨g, _, none⟩) (by simp) _)) HX.out.2.1)
          simp (disch := simp) only [set_mid0 HVa.out, set_mid HVa.out]
          rfl
        · exact hfr.trans ((((HT.out.set_ (p := ⟨g, _, none⟩) (by simp) _).set_ (p := ⟨g, _, none⟩) (by simp) _)).mono HX.out.2.2)
      case measure => simp [intOf]; omega
    · obtain rfl : j = l.length := by omega
      rw [halfM_all] at ho
      rw [List.take_length] at hq
      go_wp2_with fail
      go_ret
      refine ⟨by rw [hq.out]; rfl, ?_, hfr⟩
      rw [markL_len]; exact ho
end Go.Proofs.YtekobbeoaalibaaGreatDoor
end

section
namespace Go.Proofs.YtekobbeoaalibaaGreatDoor
open Go.RowKit
set_option linter.unusedVariables false

theorem CodeT.ownOut {w : World} {c : CodeT} {F : List Nat} {vs : List Value} (h : OwnVs w c.dats F vs) : ∃ Aroutines nroutines Froutines Arecords nrecords Frecords Aglobals nglobals Fglobals Ainstrs ninstrs Finstrs, F = (Froutines ++ (Frecords ++ (Fglobals ++ Finstrs))) ∧ vs = [Value.slice Aroutines c.routines.length nroutines, .slice Arecords c.records.length nrecords, .slice Aglobals c.globals.length nglobals, .int .i64 c.main, .slice Ainstrs c.instrs.length ninstrs] ∧ OwnV w (.row 4 c.routines.length (flat CRoT.dats c.routines)) Froutines (.slice Aroutines c.routines.length nroutines) ∧ OwnV w (.row 3 c.records.length (flat RecT.dats c.records)) Frecords (.slice Arecords c.records.length nrecords) ∧ OwnV w (.row 1 c.globals.length (flat strDats c.globals)) Fglobals (.slice Aglobals c.globals.length nglobals) ∧ OwnV w (.row 5 c.instrs.length (flat InsT.dats c.instrs)) Finstrs (.slice Ainstrs c.instrs.length ninstrs) := by
  unfold CodeT.dats at h
  obtain ⟨G0, H0, v0, t0, rfl, rfl, a0, h⟩ := h.out
  obtain ⟨G1, H1, v1, t1, rfl, rfl, a1, h⟩ := h.out
  obtain ⟨G2, H2, v2, t2, rfl, rfl, a2, h⟩ := h.out
  obtain ⟨G3, H3, v3, t3, rfl, rfl, a3, h⟩ := h.out
  obtain ⟨G4, H4, v4, t4, rfl, rfl, a4, h⟩ := h.out
  obtain ⟨rfl, rfl⟩ := h.outNil
  obtain ⟨A0, c0, rfl, -, -⟩ := LRep.shape (f := CRoT.dats) (a0.rep (lo := 0) (hi := w.heap.size) fun g hg => ⟨Nat.zero_le _, a0.lt g hg⟩)
  obtain ⟨A1, c1, rfl, -, -⟩ := LRep.shape (f := RecT.dats) (a1.rep (lo := 0) (hi := w.heap.size) fun g hg => ⟨Nat.zero_le _, a1.lt g hg⟩)
  obtain ⟨A2, c2, rfl, -, -⟩ := LRep.shape (f := strDats) (a2.rep (lo := 0) (hi := w.heap.size) fun g hg => ⟨Nat.zero_le _, a2.lt g hg⟩)
  obtain ⟨rfl, rfl⟩ := a3.int_
  obtain ⟨A4, c4, rfl, -, -⟩ := LRep.shape (f := InsT.dats) (a4.rep (lo := 0) (hi := w.heap.size) fun g hg => ⟨Nat.zero_le _, a4.lt g hg⟩)
  exact ⟨A0, c0, G0, A1, c1, G1, A2, c2, G2, A4, c4, G4, by simp, rfl, a0, a1, a2, a4⟩
theorem CodeT.ownIn {w : World} {c : CodeT} {vroutines : Value} {Froutines : List Nat} (hroutines : OwnV w (.row 4 c.routines.length (flat CRoT.dats c.routines)) Froutines vroutines) {vrecords : Value} {Frecords : List Nat} (hrecords : OwnV w (.row 3 c.records.length (flat RecT.dats c.records)) Frecords vrecords) {vglobals : Value} {Fglobals : List Nat} (hglobals : OwnV w (.row 1 c.globals.length (flat strDats c.globals)) Fglobals vglobals) {vinstrs : Value} {Finstrs : List Nat} (hinstrs : OwnV w (.row 5 c.instrs.length (flat InsT.dats c.instrs)) Finstrs vinstrs) : OwnVs w c.dats (Froutines ++ (Frecords ++ (Fglobals ++ Finstrs))) [vroutines, vrecords, vglobals, .int .i64 c.main, vinstrs] := by
  have H : OwnVs w [.row 4 c.routines.length (flat CRoT.dats c.routines), .row 3 c.records.length (flat RecT.dats c.records), .row 1 c.globals.length (flat strDats c.globals), .int .i64 c.main, .row 5 c.instrs.length (flat InsT.dats c.instrs)] _ [vroutines, vrecords, vglobals, .int .i64 c.main, vinstrs] := (OwnVs.cons_ hroutines (OwnVs.cons_ hrecords (OwnVs.cons_ hglobals (OwnVs.cons_ .mkInt (OwnVs.cons_ hinstrs (OwnVs.nil_ (w := w)))))))
  simpa [CodeT.dats] using H
def CodeT.cnt (c : CodeT) : Nat := sumOf CRoT.cnt c.routines + sumOf RecT.cnt c.records + sumOf strCnt c.globals + sumOf InsT.cnt c.instrs
def CodeT.mark (k : Nat) (c : CodeT) : CodeT := { routines := markL CRoT.mark CRoT.cnt (k) c.routines, records := markL RecT.mark RecT.cnt (k + sumOf CRoT.cnt c.routines) c.records, globals := markL strMark strCnt (k + sumOf CRoT.cnt c.routines + sumOf RecT.cnt c.records) c.globals, main := c.main, instrs := markL InsT.mark InsT.cnt (k + sumOf CRoT.cnt c.routines + sumOf RecT.cnt c.records + sumOf strCnt c.globals) c.instrs }
set_option maxRecDepth 100000 in
set_option maxHeartbeats 1000000 in
theorem markCode_any (c : CodeT) (vs : List Value) (F : List Nat) (x : Int) (k : Nat) (w : World) (hx : x = (k : Int)) (h : OwnVs w c.dats F vs) (hF : F.Nodup) (hk0 : 0 < k) (hk1 : k + c.cnt ≤ 1099511627776) :
    Calls Tryz.prog 17 #[.agg vs.toArray, .int .i64 x] w fun e w' => e = .returned (.int .i64 ((k + c.cnt : Nat) : Int)) ∧ OwnVs w' (c.mark k).dats F vs ∧ Fr F w w' := by
  subst hx
  unfold CodeT.cnt at hk1 ⊢
  obtain ⟨Aroutines, nroutines, Froutines, Arecords, nrecords, Frecords, Aglobals, nglobals, Fglobals, Ainstrs, ninstrs, Finstrs, rfl, rfl, oroutines, orecords, oglobals, oinstrs⟩ := CodeT.ownOut h
  obtain ⟨p0, s0, m0, hF⟩ := nodup_dis hF
  obtain ⟨p1, s1, m1, hF⟩ := nodup_dis hF
  obtain ⟨p2, s2, m2, hF⟩ := nodup_dis hF
  have m3 := hF
  clear hF h
  have a0 := Blk.new w 34 #[Value.slice Aroutines c.routines.length nroutines, .slice Arecords c.records.length nrecords, .slice Aglobals c.globals.length nglobals, .int .i64 c.main, .slice Ainstrs c.instrs.length ninstrs]
  have hg0 : Fr ((Froutines ++ (Frecords ++ (Fglobals ++ Finstrs)))) w (w.alloc (.cells #[Value.slice Aroutines c.routines.length nroutines, .slice Arecords c.records.length nrecords, .slice Aglobals c.globals.length nglobals, .int .i64 c.main, .slice Ainstrs c.instrs.length ninstrs] 34)) := Fr.of_below ((Below.refl _ _).alloc (Nat.le_refl _) _)
  have e0 : w.heap.size ∉ Froutines := fun hz => Nat.lt_irrefl _ (oroutines.lt _ hz)
  have e1 : w.heap.size ∉ Frecords := fun hz => Nat.lt_irrefl _ (orecords.lt _ hz)
  have e2 : w.heap.size ∉ Fglobals := fun hz => Nat.lt_irrefl _ (oglobals.lt _ hz)
  have e3 : w.heap.size ∉ Finstrs := fun hz => Nat.lt_irrefl _ (oinstrs.lt _ hz)
  have q0 := oroutines.fr (F := []) (Fr.of_below ((Below.refl _ _).alloc (Nat.le_refl w.heap.size) (.cells #[Value.slice Aroutines c.routines.length nroutines, .slice Arecords c.records.length nrecords, .slice Aglobals c.globals.length nglobals, .int .i64 c.main, .slice Ainstrs c.instrs.length ninstrs] 34))) (fun b hb => by simp)
  have q1 := orecords.fr (F := []) (Fr.of_below ((Below.refl _ _).alloc (Nat.le_refl w.heap.size) (.cells #[Value.slice Aroutines c.routines.length nroutines, .slice Arecords c.records.length nrecords, .slice Aglobals c.globals.length nglobals, .int .i64 c.main, .slice Ainstrs c.instrs.length ninstrs] 34))) (fun b hb => by simp)
  have q2 := oglobals.fr (F := []) (Fr.of_below ((Below.refl _ _).alloc (Nat.le_refl w.heap.size) (.cells #[Value.slice Aroutines c.routines.length nroutines, .slice Arecords c.records.length nrecords, .slice Aglobals c.globals.length nglobals, .int .i64 c.main, .slice Ainstrs c.instrs.length ninstrs] 34))) (fun b hb => by simp)
  have q3 := oinstrs.fr (F := []) (Fr.of_below ((Below.refl _ _).alloc (Nat.le_refl w.heap.size) (.cells #[Value.slice Aroutines c.routines.length nroutines, .slice Arecords c.records.length nrecords, .slice Aglobals c.globals.length nglobals, .int .i64 c.main, .slice Ainstrs c.instrs.length ninstrs] 34))) (fun b hb => by simp)
  clear oroutines orecords oglobals oinstrs
  have ca := a0.cell
  have la := a0.lt
  have HM := Lib.hid (And.intro (And.intro (And.intro p0 (And.intro p1 (p2))) (And.intro s0 (And.intro s1 (s2)))) (And.intro m0 (And.intro m1 (And.intro m2 (m3)))))
  clear p0 s0 p1 s1 p2 s2 m0 m1 m2 m3
  go_enter Tryz.func17, Tryz.ntmps17
  go_wp2_with fail
  obtain ⟨⟨⟨p0, p1, p2⟩, ⟨s0, s1, s2⟩⟩, ⟨m0, m1, m2, m3⟩⟩ := HM.out
  refine (markCodeRoutineS_any c.routines _ Froutines _ (k) _ (by push_cast; omega) q0 m0 (by omega) (by omega)).mono ?_; rintro e w1 ⟨rfl, q0', hb⟩
  have a1 := a0.fr hb e0
  have hg1 := hg0.trans (hb.mono (by intro b hb; simp [hb]))
  have q1' := q1.fr hb (fun b hb => s0 b (by simp [hb]))
  have q2' := q2.fr hb (fun b hb => s0 b (by simp [hb]))
  have q3' := q3.fr hb (fun b hb => s0 b (by simp [hb]))
  clear ca la hb hg0 a0 q0 q1 q2 q3
  have q0 := q0'
  have q1 := q1'
  have q2 := q2'
  have q3 := q3'
  clear q0' q1' q2' q3' p0 s0 p1 s1 p2 s2 m0 m1 m2 m3
  have ca := a1.cell
  have la := a1.lt
  go_wp2_with fail
  obtain ⟨⟨⟨p0, p1, p2⟩, ⟨s0, s1, s2⟩⟩, ⟨m0, m1, m2, m3⟩⟩ := HM.out
  refine (markRecordTypeS_any c.records _ Frecords _ (k + sumOf CRoT.cnt c.routines) _ (by push_cast; omega) q1 m1 (by omega) (by omega)).mono ?_; rintro e w2 ⟨rfl, q1', hb⟩
  have a2 := a1.fr hb e1
  have hg2 := hg1.trans (hb.mono (by intro b hb; simp [hb]))
  have q0' := q0.fr hb (fun b hb hb' => p0 b hb (by simp [hb']))
  have q2' := q2.fr hb (fun b hb => s1 b (by simp [hb]))
  have q3' := q3.fr hb (fun b hb => s1 b (by simp [hb]))
  clear ca la hb hg1 a1 q0 q1 q2 q3
  have q0 := q0'
  have q1 := q1'
  have q2 := q2'
  have q3 := q3'
  clear q0' q1' q2' q3' p0 s0 p1 s1 p2 s2 m0 m1 m2 m3
  have ca := a2.cell
  have la := a2.lt
  go_wp2_with fail
  obtain ⟨⟨⟨p0, p1, p2⟩, ⟨s0, s1, s2⟩⟩, ⟨m0, m1, m2, m3⟩⟩ := HM.out
  refine (markStrs_any c.globals _ Fglobals _ (k + sumOf CRoT.cnt c.routines + sumOf RecT.cnt c.records) _ (by push_cast; omega) q2 m2 (by omega) (by omega)).mono ?_; rintro e w3 ⟨rfl, q2', hb⟩
  have a3 := a2.fr hb e2
  have hg3 := hg2.trans (hb.mono (by intro b hb; simp [hb]))
  have q0' := q0.fr hb (fun b hb hb' => p0 b hb (by simp [hb']))
  have q1' := q1.fr hb (fun b hb hb' => p1 b hb (by simp [hb']))
  have q3' := q3.fr hb (fun b hb => s2 b (by simp [hb]))
  clear ca la hb hg2 a2 q0 q1 q2 q3
  have q0 := q0'
  have q1 := q1'
  have q2 := q2'
  have q3 := q3'
  clear q0' q1' q2' q3' p0 s0 p1 s1 p2 s2 m0 m1 m2 m3
  have ca := a3.cell
  have la := a3.lt
  go_wp2_with fail
  obtain ⟨⟨⟨p0, p1, p2⟩, ⟨s0, s1, s2⟩⟩, ⟨m0, m1, m2, m3⟩⟩ := HM.out
  refine (markInstrS_any c.instrs _ Finstrs _ (k + sumOf CRoT.cnt c.routines + sumOf RecT.cnt c.records + sumOf strCnt c.globals) _ (by push_cast; omega) q3 m3 (by omega) (by omega)).mono ?_; rintro e w4 ⟨rfl, q3', hb⟩
  have a4 := a3.fr hb e3
  have hg4 := hg3.trans (hb.mono (by intro b hb; simp [hb]))
  have q0' := q0.fr hb (fun b hb hb' => p0 b hb (by simp [hb']))
  have q1' := q1.fr hb (fun b hb hb' => p1 b hb (by simp [hb']))
  have q2' := q2.fr hb (fun b hb hb' => p2 b hb (by simp [hb']))
  clear ca la hb hg3 a3 q0 q1 q2 q3
  have q0 := q0'
  have q1 := q1'
  have q2 := q2'
  have q3 := q3'
  clear q0' q1' q2' q3' p0 s0 p1 s1 p2 s2 m0 m1 m2 m3
  have ca := a4.cell
  have la := a4.lt
  go_wp2_with fail
  go_ret
  refine ⟨ret_int (by push_cast; omega), CodeT.ownIn (c := c.mark k) q0 q1 q2 q3, hg4⟩
end Go.Proofs.YtekobbeoaalibaaGreatDoor
end

section
namespace Go.Proofs.YtekobbeoaalibaaGreatDoor
open Go.RowKit
set_option linter.unusedVariables false

section
variable {α : Type} {f : α → List Dat} {k : Nat} {w w' : World} {lo hi : Nat} {x v : Value} {c : α} {l : List α} {F : List Nat}
theorem LRep.fr (h : LRep w lo hi k f v l) (hf : Fr F w w') (hd : ∀ b ∈ F, b < lo ∨ hi ≤ b) (hhi : hi ≤ w.heap.size) : LRep w' lo hi k f v l :=
  h.keep fun p h1 h2 => World.cell?_of_block (hf.block p.block (by omega) fun hp => by have := hd _ hp; omega)
theorem SRep.fr (h : SRep w lo hi f x c) (hf : Fr F w w') (hd : ∀ b ∈ F, b < lo ∨ hi ≤ b) (hhi : hi ≤ w.heap.size) : SRep w' lo hi f x c :=
  h.keep fun p h1 h2 => World.cell?_of_block (hf.block p.block (by omega) fun hp => by have := hd _ hp; omega)
end
theorem sumOf_len {α : Type} {b : α → Nat} {n : Nat} (h : ∀ c, b c = n) : ∀ l : List α, sumOf b l = n * l.length
  | [] => rfl
  | c :: l => by simp only [sumOf, h, sumOf_len h l, List.length_cons, Nat.mul_add, Nat.mul_one]; omega
theorem sumOf_le {α : Type} {a b : α → Nat} {m n : Nat} (h : ∀ c, a c ≤ m + n * b c) : ∀ l : List α, sumOf a l ≤ m * l.length + n * sumOf b l
  | [] => by simp [sumOf]
  | c :: l => by
    have h1 := h c
    have h2 := sumOf_le h l
    simp only [sumOf, List.length_cons, Nat.mul_add, Nat.mul_one]
    omega
theorem RecT.cnt_le (c : RecT) : c.cnt ≤ 2 + 1 * c.bulk := by
  unfold RecT.cnt RecT.bulk
  rw [sumOf_len (b := strCnt) (n := 1) (fun _ => rfl)]
  omega
theorem CodeT.cnt_le (c : CodeT) : c.cnt ≤ 5 * c.bulk := by
  have h := sumOf_le (m := 2) (n := 1) RecT.cnt_le c.records
  unfold CodeT.cnt CodeT.bulk
  rw [sumOf_len (b := CRoT.cnt) (n := 4) (fun _ => rfl), sumOf_len (b := InsT.cnt) (n := 5) (fun _ => rfl), sumOf_len (b := strCnt) (n := 1) (fun _ => rfl)]
  omega
theorem edits_cnt (l : List EditT) : sumOf EditT.cnt l = 2 * l.length := sumOf_len (fun _ => rfl) l
theorem strs_cnt (l : List ByteArray) : sumOf strCnt l = l.length := by rw [sumOf_len (b := strCnt) (n := 1) (fun _ => rfl), Nat.one_mul]
end Go.Proofs.YtekobbeoaalibaaGreatDoor
end

section
namespace Go.Proofs.YtekobbeoaalibaaGreatDoor
open Go.RowKit
set_option linter.unusedVariables false

set_option maxRecDepth 100000 in
set_option maxHeartbeats 1000000 in
theorem heldStrs_any (l : List ByteArray) (v : Value) (x : Int) (k : Nat) (w : World) (lo hi : Nat) (hx : x = (k : Int)) (h : LRep w lo hi 1 strDats v (markL strMark strCnt k l)) (hhi : hi ≤ w.heap.size) (hk0 : 0 < k) (hk1 : k + sumOf strCnt l ≤ 1099511627776) :
    Calls Tryz.prog 19 #[v, .int .i64 x] w fun e w' => e = .returned (.int .i64 ((k + sumOf strCnt l : Nat) : Int)) ∧ Below w.heap.size w w' := by
  subst hx
  have hget : ∀ (j : Nat) (c : ByteArray), l[j]? = some c → (markL strMark strCnt k l)[j]? = some (strMark (k + sumOf strCnt (l.take j)) c) := fun j c hc => markL_get hc
  have hlen := markL_len (mk := strMark) (cnt := strCnt) l k
  obtain ⟨l', hl'⟩ : ∃ l', markL strMark strCnt k l = l' := ⟨_, rfl⟩
  rw [hl'] at h hget hlen
  clear hl'
  obtain ⟨A, cap, rfl, hc1, hc2⟩ := h.shape
  unfold maxLen at hc2
  have HG := Lib.hid hget
  have HR := Lib.hid h
  clear hget h
  rw [hlen] at hc1 ⊢
  clear hlen
  go_enter Tryz.func19, Tryz.ntmps19
  go_wp2_with fail
  go_loopw [1, 5] (fun m i wr => ∃ j q : Nat, j ≤ l.length ∧ i = .int .i64 j ∧ m = .int .i64 q ∧ Hid (q = k + sumOf strCnt (l.take j)) ∧ Below w.heap.size w wr) (fun _ i _ => l.length - (intOf i).toNat)
  case atStart => exact ⟨0, k, Nat.zero_le _, rfl, rfl, by simp [sumOf, Hid], Below.refl _ _⟩
  case round =>
    obtain ⟨j, q, hj, rfl, rfl, hq, hb⟩ := hrel
    by_cases hlt : j < l.length
    · obtain ⟨c, hc⟩ : ∃ c, l[j]? = some c := ⟨_, List.getElem?_eq_getElem hlt⟩
      have hg := HG.out j c hc
      rw [← hq.out] at hg
      obtain ⟨g, off, rfl, hg1, hg2, q0⟩ := LRep.text (HR.out.below hb hhi) hg
      have hle := sumOf_take_le strCnt l (j + 1)
      rw [sumOf_snoc (b := strCnt) hc] at hle
      have q0' : 0 < q := by have := hq.out; omega
      have q1' : q + strCnt c ≤ 1099511627776 := by have := hq.out; omega
      have hc0 : strCnt c = 1 := rfl
      rw [hc0] at q1'
      have HQ := Lib.hid (sumOf_snoc (b := strCnt) hc)
      clear hle hc hg hc0
      have c0 : wr.cell? ⟨g, off + j, none⟩ = some (.string (mtext (q))) := q0
      clear q0
      have hz := hb.size
      have bt : Below wr.heap.size wr wr := Below.refl _ _
      go_wp2_with fail
      have lg : g < wr.drew.heap.size := Nat.lt_of_lt_of_le hg2 (Nat.le_trans hhi (hb.trans (bt.mono hz)).size)
      have hx0 : 0 < q := by omega
      have hx1 : q ≤ 1099511627776 := by omega
      go_region_held3 (fun w' => (w'.cell? ⟨g, off + j, none⟩ = some (.string (mtext (q)))) ∧ Below wr.heap.size wr w') (first | exact ⟨c0, bt⟩ | exact ⟨c0, bt.drew⟩ | exact ⟨(hbA.cell lg).trans c0, bt.drew.trans (hbA.mono bt.size)⟩)
        (first | (go_at_call 56; refine (markText_at _ (q) _ (by push_cast; omega) hx0 hx1).mono ?_; rintro e w1 ⟨rfl, hbA⟩))
      rename_i hheld
      clear bt lg hx0 hx1 c0
      obtain ⟨c0, bt⟩ := hheld
      go_wp2_with fail
      go_roundw
      case rel =>
        refine ⟨j + 1, q + 1, by omega, by go_num, by go_num, ?_, hb.trans (bt.mono hz)⟩
        have := HQ.out; have := hq.out; have hc0 : strCnt c = 1 := rfl; show _ = _; omega
      case measure => simp [intOf]; omega
    · obtain rfl : j = l.length := by omega
      rw [List.take_length] at hq
      go_wp2_with fail
      go_ret
      exact ⟨by rw [hq.out]; rfl, hb⟩
end Go.Proofs.YtekobbeoaalibaaGreatDoor
end

section
namespace Go.Proofs.YtekobbeoaalibaaGreatDoor
open Go.RowKit
set_option linter.unusedVariables false

set_option maxRecDepth 100000 in
set_option maxHeartbeats 1000000 in
theorem heldCodeRoutineS_any (l : List CRoT) (v : Value) (x : Int) (k : Nat) (w : World) (lo hi : Nat) (hx : x = (k : Int)) (h : LRep w lo hi 4 CRoT.dats v (markL CRoT.mark CRoT.cnt k l)) (hhi : hi ≤ w.heap.size) (hk0 : 0 < k) (hk1 : k + sumOf CRoT.cnt l ≤ 1099511627776) :
    Calls Tryz.prog 66 #[v, .int .i64 x] w fun e w' => e = .returned (.int .i64 ((k + sumOf CRoT.cnt l : Nat) : Int)) ∧ Below w.heap.size w w' := by
  subst hx
  have hget : ∀ (j : Nat) (c : CRoT), l[j]? = some c → (markL CRoT.mark CRoT.cnt k l)[j]? = some (CRoT.mark (k + sumOf CRoT.cnt (l.take j)) c) := fun j c hc => markL_get hc
  have hlen := markL_len (mk := CRoT.mark) (cnt := CRoT.cnt) l k
  obtain ⟨l', hl'⟩ : ∃ l', markL CRoT.mark CRoT.cnt k l = l' := ⟨_, rfl⟩
  rw [hl'] at h hget hlen
  clear hl'
  obtain ⟨A, cap, rfl, hc1, hc2⟩ := h.shape
  unfold maxLen at hc2
  have HG := Lib.hid hget
  have HR := Lib.hid h
  clear hget h
  rw [hlen] at hc1 ⊢
  clear hlen
  go_enter Tryz.func66, Tryz.ntmps66
  go_wp2_with fail
  go_loopw [1, 5] (fun m i wr => ∃ j q : Nat, j ≤ l.length ∧ i = .int .i64 j ∧ m = .int .i64 q ∧ Hid (q = k + sumOf CRoT.cnt (l.take j)) ∧ Below w.heap.size w wr) (fun _ i _ => l.length - (intOf i).toNat)
  case atStart => exact ⟨0, k, Nat.zero_le _, rfl, rfl, by simp [sumOf, Hid], Below.refl _ _⟩
  case round =>
    obtain ⟨j, q, hj, rfl, rfl, hq, hb⟩ := hrel
    by_cases hlt : j < l.length
    · obtain ⟨c, hc⟩ : ∃ c, l[j]? = some c := ⟨_, List.getElem?_eq_getElem hlt⟩
      have hg := HG.out j c hc
      rw [← hq.out] at hg
      obtain ⟨g, off, rfl, hg1, hg2, hmem, hrep, q0, q1, q2, q3⟩ := CRoT.at_ (HR.out.below hb hhi) hg
      have hle := sumOf_take_le CRoT.cnt l (j + 1)
      rw [sumOf_snoc (b := CRoT.cnt) hc] at hle
      have q0' : 0 < q := by have := hq.out; omega
      have q1' : q + c.cnt ≤ 1099511627776 := by have := hq.out; omega
      have hc0 : c.cnt = 1 + 1 + 1 + 1 := rfl
      rw [hc0] at q1'
      have HQ := Lib.hid (sumOf_snoc (b := CRoT.cnt) hc)
      clear hle hc hg hmem hrep hc0
      have c0 : wr.cell? ⟨g, off + j * 4, none⟩ = some (.string (mtext (q))) := q0
      have c1 : wr.cell? ⟨g, off + j * 4 + 1, none⟩ = some (.int .i64 ((q : Int) + 1)) := q1
      have c2 : wr.cell? ⟨g, off + j * 4 + 2, none⟩ = some (.int .i64 ((q : Int) + 1 + 1)) := q2
      have c3 : wr.cell? ⟨g, off + j * 4 + 3, none⟩ = some (.int .i64 ((q : Int) + 1 + 1 + 1)) := q3
      clear q0 q1 q2 q3
      have hz := hb.size
      have bt : Below wr.heap.size wr wr := Below.refl _ _
      go_wp2_with fail
      have lg : g < wr.drew.heap.size := Nat.lt_of_lt_of_le hg2 (Nat.le_trans hhi (hb.trans (bt.mono hz)).size)
      have hx0 : 0 < q := by omega
      have hx1 : q ≤ 1099511627776 := by omega
      go_region_held3 (fun w' => (w'.cell? ⟨g, off + j * 4, none⟩ = some (.string (mtext (q))) ∧ w'.cell? ⟨g, off + j * 4 + 1, none⟩ = some (.int .i64 ((q : Int) + 1)) ∧ w'.cell? ⟨g, off + j * 4 + 2, none⟩ = some (.int .i64 ((q : Int) + 1 + 1)) ∧ w'.cell? ⟨g, off + j * 4 + 3, none⟩ = some (.int .i64 ((q : Int) + 1 + 1 + 1))) ∧ Below wr.heap.size wr w') (first | exact ⟨⟨c0, c1, c2, c3⟩, bt⟩ | exact ⟨⟨c0, c1, c2, c3⟩, bt.drew⟩ | exact ⟨⟨(hbA.cell lg).trans c0, (hbA.cell lg).trans c1, (hbA.cell lg).trans c2, (hbA.cell lg).trans c3⟩, bt.drew.trans (hbA.mono bt.size)⟩)
        (first | (go_at_call 56; refine (markText_at _ (q) _ (by push_cast; omega) hx0 hx1).mono ?_; rintro e w1 ⟨rfl, hbA⟩))
      rename_i hheld
      clear bt lg hx0 hx1 c0 c1 c2 c3
      obtain ⟨⟨c0, c1, c2, c3⟩, bt⟩ := hheld
      go_wp2_with fail
      go_roundw
      case rel =>
        refine ⟨j + 1, q + 1 + 1 + 1 + 1, by omega, by go_num, by go_num, ?_, hb.trans (bt.mono hz)⟩
        have := HQ.out; have := hq.out; have hc0 : c.cnt = 1 + 1 + 1 + 1 := rfl; show _ = _; omega
      case measure => simp [intOf]; omega
    · obtain rfl : j = l.length := by omega
      rw [List.take_length] at hq
      go_wp2_with fail
      go_ret
      exact ⟨by rw [hq.out]; rfl, hb⟩
end Go.Proofs.YtekobbeoaalibaaGreatDoor
end

section
namespace Go.Proofs.YtekobbeoaalibaaGreatDoor
open Go.RowKit
set_option linter.unusedVariables false

set_option maxRecDepth 100000 in
set_option maxHeartbeats 1000000 in
theorem heldRecordTypeS_any (l : List RecT) (v : Value) (x : Int) (k : Nat) (w : World) (lo hi : Nat) (hx : x = (k : Int)) (h : LRep w lo hi 3 RecT.dats v (markL RecT.mark RecT.cnt k l)) (hhi : hi ≤ w.heap.size) (hk0 : 0 < k) (hk1 : k + sumOf RecT.cnt l ≤ 1099511627776) :
    Calls Tryz.prog 67 #[v, .int .i64 x] w fun e w' => e = .returned (.int .i64 ((k + sumOf RecT.cnt l : Nat) : Int)) ∧ Below w.heap.size w w' := by
  subst hx
  have hget : ∀ (j : Nat) (c : RecT), l[j]? = some c → (markL RecT.mark RecT.cnt k l)[j]? = some (RecT.mark (k + sumOf RecT.cnt (l.take j)) c) := fun j c hc => markL_get hc
  have hlen := markL_len (mk := RecT.mark) (cnt := RecT.cnt) l k
  obtain ⟨l', hl'⟩ : ∃ l', markL RecT.mark RecT.cnt k l = l' := ⟨_, rfl⟩
  rw [hl'] at h hget hlen
  clear hl'
  obtain ⟨A, cap, rfl, hc1, hc2⟩ := h.shape
  unfold maxLen at hc2
  have HG := Lib.hid hget
  have HR := Lib.hid h
  clear hget h
  rw [hlen] at hc1 ⊢
  clear hlen
  go_enter Tryz.func67, Tryz.ntmps67
  go_wp2_with fail
  go_loopw [1, 5] (fun m i wr => ∃ j q : Nat, j ≤ l.length ∧ i = .int .i64 j ∧ m = .int .i64 q ∧ Hid (q = k + sumOf RecT.cnt (l.take j)) ∧ Below w.heap.size w wr) (fun _ i _ => l.length - (intOf i).toNat)
  case atStart => exact ⟨0, k, Nat.zero_le _, rfl, rfl, by simp [sumOf, Hid], Below.refl _ _⟩
  case round =>
    obtain ⟨j, q, hj, rfl, rfl, hq, hb⟩ := hrel
    by_cases hlt : j < l.length
    · obtain ⟨c, hc⟩ : ∃ c, l[j]? = some c := ⟨_, List.getElem?_eq_getElem hlt⟩
      have hg := HG.out j c hc
      rw [← hq.out] at hg
      obtain ⟨g, off, Afields, nfields, rfl, hg1, hg2, hmem, hrep, q0, q1, q2⟩ := RecT.at_ (HR.out.below hb hhi) hg
      have hr := RecT.rows hrep
      have rfields := hr
      clear hr
      have hle := sumOf_take_le RecT.cnt l (j + 1)
      rw [sumOf_snoc (b := RecT.cnt) hc] at hle
      have q0' : 0 < q := by have := hq.out; omega
      have q1' : q + c.cnt ≤ 1099511627776 := by have := hq.out; omega
      have hc0 : c.cnt = 1 + sumOf strCnt c.fields + 1 := rfl
      rw [hc0] at q1'
      have HQ := Lib.hid (sumOf_snoc (b := RecT.cnt) hc)
      clear hle hc hg hmem hrep hc0
      have c0 : wr.cell? ⟨g, off + j * 3, none⟩ = some (.string (mtext (q))) := q0
      have c1 : wr.cell? ⟨g, off + j * 3 + 1, none⟩ = some (.slice Afields (RecT.mark q c).fields.length nfields) := q1
      have c2 : wr.cell? ⟨g, off + j * 3 + 2, none⟩ = some (.int .i64 (((q + 1 + sumOf strCnt c.fields : Nat) : Int))) := q2
      clear q0 q1 q2
      have hz := hb.size
      have bt : Below wr.heap.size wr wr := Below.refl _ _
      go_wp2_with fail
      have lg : g < wr.drew.heap.size := Nat.lt_of_lt_of_le hg2 (Nat.le_trans hhi (hb.trans (bt.mono hz)).size)
      have hx0 : 0 < q := by omega
      have hx1 : q ≤ 1099511627776 := by omega
      go_region_held3 (fun w' => (w'.cell? ⟨g, off + j * 3, none⟩ = some (.string (mtext (q))) ∧ w'.cell? ⟨g, off + j * 3 + 1, none⟩ = some (.slice Afields (RecT.mark q c).fields.length nfields) ∧ w'.cell? ⟨g, off + j * 3 + 2, none⟩ = some (.int .i64 (((q + 1 + sumOf strCnt c.fields : Nat) : Int)))) ∧ Below wr.heap.size wr w') (first | exact ⟨⟨c0, c1, c2⟩, bt⟩ | exact ⟨⟨c0, c1, c2⟩, bt.drew⟩ | exact ⟨⟨(hbA.cell lg).trans c0, (hbA.cell lg).trans c1, (hbA.cell lg).trans c2⟩, bt.drew.trans (hbA.mono bt.size)⟩)
        (first | (go_at_call 56; refine (markText_at _ (q) _ (by push_cast; omega) hx0 hx1).mono ?_; rintro e w1 ⟨rfl, hbA⟩))
      rename_i hheld
      clear bt lg hx0 hx1 c0 c1 c2
      obtain ⟨⟨c0, c1, c2⟩, bt⟩ := hheld
      go_wp2_with fail
      have bw2 := hb.trans (bt.mono hz)
      have lg : g < w1.heap.size := Nat.lt_of_lt_of_le hg2 (Nat.le_trans hhi bw2.size)
      refine (heldStrs_any c.fields _ _ (q + 1) _ lo hi (by push_cast; omega) (LRep.below rfields bt (Nat.le_trans hhi hz)) (Nat.le_trans hhi bw2.size) (by omega) (by omega)).mono ?_; rintro e w2 ⟨rfl, hbA⟩
      replace c0 := (hbA.cell lg).trans c0
      replace c1 := (hbA.cell lg).trans c1
      replace c2 := (hbA.cell lg).trans c2
      replace bt := bt.trans (hbA.mono bt.size)
      clear hbA lg
      go_wp2_with fail
      go_roundw
      case rel =>
        refine ⟨j + 1, q + 1 + sumOf strCnt c.fields + 1, by omega, by go_num, by go_num, ?_, hb.trans (bt.mono hz)⟩
        have := HQ.out; have := hq.out; have hc0 : c.cnt = 1 + sumOf strCnt c.fields + 1 := rfl; show _ = _; omega
      case measure => simp [intOf]; omega
    · obtain rfl : j = l.length := by omega
      rw [List.take_length] at hq
      go_wp2_with fail
      go_ret
      exact ⟨by rw [hq.out]; rfl, hb⟩
end Go.Proofs.YtekobbeoaalibaaGreatDoor
end

section
namespace Go.Proofs.YtekobbeoaalibaaGreatDoor
open Go.RowKit
set_option linter.unusedVariables false

set_option maxRecDepth 100000 in
set_option maxHeartbeats 1000000 in
theorem heldInstrS_any (l : List InsT) (v : Value) (x : Int) (k : Nat) (w : World) (lo hi : Nat) (hx : x = (k : Int)) (h : LRep w lo hi 5 InsT.dats v (markL InsT.mark InsT.cnt k l)) (hhi : hi ≤ w.heap.size) (hk0 : 0 < k) (hk1 : k + sumOf InsT.cnt l ≤ 1099511627776) :
    Calls Tryz.prog 68 #[v, .int .i64 x] w fun e w' => e = .returned (.int .i64 ((k + sumOf InsT.cnt l : Nat) : Int)) ∧ Below w.heap.size w w' := by
  subst hx
  have hget : ∀ (j : Nat) (c : InsT), l[j]? = some c → (markL InsT.mark InsT.cnt k l)[j]? = some (InsT.mark (k + sumOf InsT.cnt (l.take j)) c) := fun j c hc => markL_get hc
  have hlen := markL_len (mk := InsT.mark) (cnt := InsT.cnt) l k
  obtain ⟨l', hl'⟩ : ∃ l', markL InsT.mark InsT.cnt k l = l' := ⟨_, rfl⟩
  rw [hl'] at h hget hlen
  clear hl'
  obtain ⟨A, cap, rfl, hc1, hc2⟩ := h.shape
  unfold maxLen at hc2
  have HG := Lib.hid hget
  have HR := Lib.hid h
  clear hget h
  rw [hlen] at hc1 ⊢
  clear hlen
  go_enter Tryz.func68, Tryz.ntmps68
  go_wp2_with fail
  go_loopw [1, 5] (fun m i wr => ∃ j q : Nat, j ≤ l.length ∧ i = .int .i64 j ∧ m = .int .i64 q ∧ Hid (q = k + sumOf InsT.cnt (l.take j)) ∧ Below w.heap.size w wr) (fun _ i _ => l.length - (intOf i).toNat)
  case atStart => exact ⟨0, k, Nat.zero_le _, rfl, rfl, by simp [sumOf, Hid], Below.refl _ _⟩
  case round =>
    obtain ⟨j, q, hj, rfl, rfl, hq, hb⟩ := hrel
    by_cases hlt : j < l.length
    · obtain ⟨c, hc⟩ : ∃ c, l[j]? = some c := ⟨_, List.getElem?_eq_getElem hlt⟩
      have hg := HG.out j c hc
      rw [← hq.out] at hg
      obtain ⟨g, off, rfl, hg1, hg2, hmem, hrep, q0, q1, q2, q3, q4⟩ := InsT.at_ (HR.out.below hb hhi) hg
      have hle := sumOf_take_le InsT.cnt l (j + 1)
      rw [sumOf_snoc (b := InsT.cnt) hc] at hle
      have q0' : 0 < q := by have := hq.out; omega
      have q1' : q + c.cnt ≤ 1099511627776 := by have := hq.out; omega
      have hc0 : c.cnt = 1 + 1 + 1 + 1 + 1 := rfl
      rw [hc0] at q1'
      have HQ := Lib.hid (sumOf_snoc (b := InsT.cnt) hc)
      clear hle hc hg hmem hrep hc0
      have c0 : wr.cell? ⟨g, off + j * 5, none⟩ = some (.int .i64 ((q : Int))) := q0
      have c1 : wr.cell? ⟨g, off + j * 5 + 1, none⟩ = some (.int .i64 ((q : Int) + 1)) := q1
      have c2 : wr.cell? ⟨g, off + j * 5 + 2, none⟩ = some (.int .i64 ((q : Int) + 1 + 1)) := q2
      have c3 : wr.cell? ⟨g, off + j * 5 + 3, none⟩ = some (.int .i64 ((q : Int) + 1 + 1 + 1)) := q3
      have c4 : wr.cell? ⟨g, off + j * 5 + 4, none⟩ = some (.string (mtext (q + 1 + 1 + 1 + 1))) := q4
      clear q0 q1 q2 q3 q4
      have hz := hb.size
      have bt : Below wr.heap.size wr wr := Below.refl _ _
      go_wp2_with fail
      have lg : g < wr.drew.heap.size := Nat.lt_of_lt_of_le hg2 (Nat.le_trans hhi (hb.trans (bt.mono hz)).size)
      have hx0 : 0 < q + 1 + 1 + 1 + 1 := by omega
      have hx1 : q + 1 + 1 + 1 + 1 ≤ 1099511627776 := by omega
      go_region_held3 (fun w' => (w'.cell? ⟨g, off + j * 5, none⟩ = some (.int .i64 ((q : Int))) ∧ w'.cell? ⟨g, off + j * 5 + 1, none⟩ = some (.int .i64 ((q : Int) + 1)) ∧ w'.cell? ⟨g, off + j * 5 + 2, none⟩ = some (.int .i64 ((q : Int) + 1 + 1)) ∧ w'.cell? ⟨g, off + j * 5 + 3, none⟩ = some (.int .i64 ((q : Int) + 1 + 1 + 1)) ∧ w'.cell? ⟨g, off + j * 5 + 4, none⟩ = some (.string (mtext (q + 1 + 1 + 1 + 1)))) ∧ Below wr.heap.size wr w') (first | exact ⟨⟨c0, c1, c2, c3, c4⟩, bt⟩ | exact ⟨⟨c0, c1, c2, c3, c4⟩, bt.drew⟩ | exact ⟨⟨(hbA.cell lg).trans c0, (hbA.cell lg).trans c1, (hbA.cell lg).trans c2, (hbA.cell lg).trans c3, (hbA.cell lg).trans c4⟩, bt.drew.trans (hbA.mono bt.size)⟩)
        (first | (go_at_call 56; refine (markText_at _ (q + 1 + 1 + 1 + 1) _ (by push_cast; omega) hx0 hx1).mono ?_; rintro e w1 ⟨rfl, hbA⟩))
      rename_i hheld
      clear bt lg hx0 hx1 c0 c1 c2 c3 c4
      obtain ⟨⟨c0, c1, c2, c3, c4⟩, bt⟩ := hheld
      go_wp2_with fail
      go_roundw
      case rel =>
        refine ⟨j + 1, q + 1 + 1 + 1 + 1 + 1, by omega, by go_num, by go_num, ?_, hb.trans (bt.mono hz)⟩
        have := HQ.out; have := hq.out; have hc0 : c.cnt = 1 + 1 + 1 + 1 + 1 := rfl; show _ = _; omega
      case measure => simp [intOf]; omega
    · obtain rfl : j = l.length := by omega
      rw [List.take_length] at hq
      go_wp2_with fail
      go_ret
      exact ⟨by rw [hq.out]; rfl, hb⟩
end Go.Proofs.YtekobbeoaalibaaGreatDoor
end

section
namespace Go.Proofs.YtekobbeoaalibaaGreatDoor
open Go.RowKit
set_option linter.unusedVariables false

set_option maxRecDepth 100000 in
set_option maxHeartbeats 1000000 in
theorem heldEditS_any (l : List EditT) (v : Value) (x : Int) (k : Nat) (w : World) (lo hi : Nat) (hx : x = (k : Int)) (h : LRep w lo hi 2 EditT.dats v (markL EditT.mark EditT.cnt k l)) (hhi : hi ≤ w.heap.size) (hk0 : 0 < k) (hk1 : k + sumOf EditT.cnt l ≤ 1099511627776) :
    Calls Tryz.prog 27 #[v, .int .i64 x] w fun e w' => e = .returned (.int .i64 ((k + sumOf EditT.cnt l : Nat) : Int)) ∧ Below w.heap.size w w' := by
  subst hx
  have hget : ∀ (j : Nat) (c : EditT), l[j]? = some c → (markL EditT.mark EditT.cnt k l)[j]? = some (EditT.mark (k + sumOf EditT.cnt (l.take j)) c) := fun j c hc => markL_get hc
  have hlen := markL_len (mk := EditT.mark) (cnt := EditT.cnt) l k
  obtain ⟨l', hl'⟩ : ∃ l', markL EditT.mark EditT.cnt k l = l' := ⟨_, rfl⟩
  rw [hl'] at h hget hlen
  clear hl'
  obtain ⟨A, cap, rfl, hc1, hc2⟩ := h.shape
  unfold maxLen at hc2
  have HG := Lib.hid hget
  have HR := Lib.hid h
  clear hget h
  rw [hlen] at hc1 ⊢
  clear hlen
  go_enter Tryz.func27, Tryz.ntmps27
  go_wp2_with fail
  go_loopw [1, 5] (fun m i wr => ∃ j q : Nat, j ≤ l.length ∧ i = .int .i64 j ∧ m = .int .i64 q ∧ Hid (q = k + sumOf EditT.cnt (l.take j)) ∧ Below w.heap.size w wr) (fun _ i _ => l.length - (intOf i).toNat)
  case atStart => exact ⟨0, k, Nat.zero_le _, rfl, rfl, by simp [sumOf, Hid], Below.refl _ _⟩
  case round =>
    obtain ⟨j, q, hj, rfl, rfl, hq, hb⟩ := hrel
    by_cases hlt : j < l.length
    · obtain ⟨c, hc⟩ : ∃ c, l[j]? = some c := ⟨_, List.getElem?_eq_getElem hlt⟩
      have hg := HG.out j c hc
      rw [← hq.out] at hg
      obtain ⟨g, off, rfl, hg1, hg2, hmem, hrep, q0, q1⟩ := EditT.at_ (HR.out.below hb hhi) hg
      have hle := sumOf_take_le EditT.cnt l (j + 1)
      rw [sumOf_snoc (b := EditT.cnt) hc] at hle
      have q0' : 0 < q := by have := hq.out; omega
      have q1' : q + c.cnt ≤ 1099511627776 := by have := hq.out; omega
      have hc0 : c.cnt = 1 + 1 := rfl
      rw [hc0] at q1'
      have HQ := Lib.hid (sumOf_snoc (b := EditT.cnt) hc)
      clear hle hc hg hmem hrep hc0
      have c0 : wr.cell? ⟨g, off + j * 2, none⟩ = some (.int .i64 ((q : Int))) := q0
      have c1 : wr.cell? ⟨g, off + j * 2 + 1, none⟩ = some (.int .i64 ((q : Int) + 1)) := q1
      clear q0 q1
      have hz := hb.size
      have bt : Below wr.heap.size wr wr := Below.refl _ _
      go_wp2_with fail
      go_roundw
      case rel =>
        refine ⟨j + 1, q + 1 + 1, by omega, by go_num, by go_num, ?_, hb.trans (bt.mono hz)⟩
        have := HQ.out; have := hq.out; have hc0 : c.cnt = 1 + 1 := rfl; show _ = _; omega
      case measure => simp [intOf]; omega
    · obtain rfl : j = l.length := by omega
      rw [List.take_length] at hq
      go_wp2_with fail
      go_ret
      exact ⟨by rw [hq.out]; rfl, hb⟩
end Go.Proofs.YtekobbeoaalibaaGreatDoor
end

section
namespace Go.Proofs.YtekobbeoaalibaaGreatDoor
open Go.RowKit
set_option linter.unusedVariables false

set_option maxRecDepth 100000 in
set_option maxHeartbeats 1000000 in
theorem heldCode_any (c : CodeT) (v : Value) (x : Int) (k : Nat) (w : World) (lo hi : Nat) (hx : x = (k : Int)) (h : SRep w lo hi CodeT.dats v (c.mark k)) (hhi : hi ≤ w.heap.size) (hk0 : 0 < k) (hk1 : k + c.cnt ≤ 1099511627776) :
    Calls Tryz.prog 32 #[v, .int .i64 x] w fun e w' => e = .returned (.int .i64 ((k + c.cnt : Nat) : Int)) ∧ Below w.heap.size w w' := by
  subst hx
  unfold CodeT.cnt at hk1 ⊢
  obtain ⟨Aroutines, nroutines, Arecords, nrecords, Aglobals, nglobals, Ainstrs, ninstrs, rfl, hroutines, uroutines, mroutines, hrecords, urecords, mrecords, hglobals, uglobals, mglobals, hinstrs, uinstrs, minstrs⟩ := CodeT.form h
  unfold maxLen at mroutines
  unfold maxLen at mrecords
  unfold maxLen at mglobals
  unfold maxLen at minstrs
  have hw0 : Below w.heap.size w (w.alloc (.cells #[Value.slice Aroutines (c.mark k).routines.length nroutines, .slice Arecords (c.mark k).records.length nrecords, .slice Aglobals (c.mark k).globals.length nglobals, .int .i64 (c.mark k).main, .slice Ainstrs (c.mark k).instrs.length ninstrs] 34)) := (Below.refl _ _).alloc (Nat.le_refl _) _
  have a0 := Blk.new w 34 #[Value.slice Aroutines (c.mark k).routines.length nroutines, .slice Arecords (c.mark k).records.length nrecords, .slice Aglobals (c.mark k).globals.length nglobals, .int .i64 (c.mark k).main, .slice Ainstrs (c.mark k).instrs.length ninstrs]
  have ca := a0.cell
  have la := a0.lt
  go_enter Tryz.func32, Tryz.ntmps32
  go_wp2_with fail
  refine (heldCodeRoutineS_any c.routines _ _ (k) _ lo hi (by push_cast; omega) (hroutines.below hw0 hhi) (Nat.le_trans hhi hw0.size) (by omega) (by omega)).mono ?_; rintro e w1 ⟨rfl, hb⟩
  have a1 := a0.later hb
  have hw1 := hw0.trans (hb.mono hw0.size)
  clear ca la hb a0
  have ca := a1.cell
  have la := a1.lt
  go_wp2_with fail
  refine (heldRecordTypeS_any c.records _ _ (k + sumOf CRoT.cnt c.routines) _ lo hi (by push_cast; omega) (hrecords.below hw1 hhi) (Nat.le_trans hhi hw1.size) (by omega) (by omega)).mono ?_; rintro e w2 ⟨rfl, hb⟩
  have a2 := a1.later hb
  have hw2 := hw1.trans (hb.mono hw1.size)
  clear ca la hb a1
  have ca := a2.cell
  have la := a2.lt
  go_wp2_with fail
  refine (heldStrs_any c.globals _ _ (k + sumOf CRoT.cnt c.routines + sumOf RecT.cnt c.records) _ lo hi (by push_cast; omega) (hglobals.below hw2 hhi) (Nat.le_trans hhi hw2.size) (by omega) (by omega)).mono ?_; rintro e w3 ⟨rfl, hb⟩
  have a3 := a2.later hb
  have hw3 := hw2.trans (hb.mono hw2.size)
  clear ca la hb a2
  have ca := a3.cell
  have la := a3.lt
  go_wp2_with fail
  refine (heldInstrS_any c.instrs _ _ (k + sumOf CRoT.cnt c.routines + sumOf RecT.cnt c.records + sumOf strCnt c.globals) _ lo hi (by push_cast; omega) (hinstrs.below hw3 hhi) (Nat.le_trans hhi hw3.size) (by omega) (by omega)).mono ?_; rintro e w4 ⟨rfl, hb⟩
  have a4 := a3.later hb
  have hw4 := hw3.trans (hb.mono hw3.size)
  clear ca la hb a3
  have ca := a4.cell
  have la := a4.lt
  go_wp2_with fail
  go_ret
  exact ⟨ret_int (by push_cast; omega), hw4⟩
end Go.Proofs.YtekobbeoaalibaaGreatDoor
end
