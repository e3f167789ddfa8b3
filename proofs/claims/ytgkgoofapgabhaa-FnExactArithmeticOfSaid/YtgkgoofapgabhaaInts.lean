/- eqIntS, markIntS, heldIntS of the laws: equality of two slices of integers; the marks that are written into a result and looked for again. -/
import Derived.Test.YtgkgoofapgabhaaProg
import Derived.Test.YtgkgoofapgabhaaMem
namespace Go.Proofs.Ytgkgoofapgabhaa
open Go.RowKit

theorem take_snoc_of {α : Type} {l : List α} {k : Nat} {z : α} (h : l[k]? = some z) : l.take (k + 1) = l.take k ++ [z] := by
  obtain ⟨hk, rfl⟩ := List.getElem?_eq_some_iff.1 h
  exact List.take_succ_eq_append_getElem hk
theorem eq_of_take {α : Type} {xs ys : List α} {n : Nat} (hx : xs.length = n) (hy : ys.length = n) (h : xs.take n = ys.take n) : xs = ys := by
  rwa [List.take_of_length_le (by omega), List.take_of_length_le (by omega)] at h
theorem ne_of_get {α : Type} {xs ys : List α} {k : Nat} {x y : α} (hx : xs[k]? = some x) (hy : ys[k]? = some y) (h : x ≠ y) : xs ≠ ys := by
  rintro rfl; rw [hx] at hy; injection hy; contradiction

set_option maxHeartbeats 400000 in
theorem eqIntS_any (v u : Value) (xs ys : List Int) (w : World) {lo hi lo' hi' : Nat} (h : Rds w lo hi 1 v xs.length (xs.map (.int .i64))) (h' : Rds w lo' hi' 1 u ys.length (ys.map (.int .i64))) :
    Calls Try.prog 14 #[v, u] w fun e w' => e = .returned (.bool (decide (xs = ys))) ∧ Same w w' := by
  obtain ⟨A, c, rfl, hc1, hc2, -⟩ := h.shape
  obtain ⟨A', c', rfl, hc1', hc2', -⟩ := h'.shape
  generalize hn : xs.length = n at *
  generalize hm : ys.length = m at *
  have Hn := Lib.hid hn
  have Hm := Lib.hid hm
  clear hn hm
  unfold maxLen at hc2 hc2'
  by_cases hnm : n = m
  · subst hnm
    go_enter Try.func14, Try.ntmps14
    go_wp2
    go_loopw [5] (fun i wr => ∃ k : Nat, k ≤ n ∧ i = .int .i64 k ∧ Hid (xs.take k = ys.take k) ∧ Same w wr) (fun i _ => n - (intOf i).toNat)
    case atStart => exact ⟨0, Nat.zero_le _, rfl, rfl, Same.refl _⟩
    case round =>
      obtain ⟨k, hk, rfl, he, hs⟩ := hrel
      by_cases hlt : k < n
      · obtain ⟨g, off, x, rfl, -, -, hx, hcx⟩ := (h.same hs).atMap hlt
        obtain ⟨g', off', y, rfl, -, -, hy, hcy⟩ := (h'.same hs).atMap hlt
        have Hx := Lib.hid hx
        have Hy := Lib.hid hy
        clear hx hy h h'
        by_cases hxy : x = y
        · subst hxy
          go_wp2
          go_quiet (fail)
          go_wp2
          go_roundw
          case rel => exact ⟨k + 1, by omega, by go_num, by rw [take_snoc_of Hx.out, take_snoc_of Hy.out, he.out]; rfl, hs.drewN _⟩
          case measure => simp [intOf]; omega
        · have hb : (x != y) = true := by simpa using hxy
          go_wp2
          go_quiet (fail)
          go_wp2
          go_ret
          exact ⟨ret_bool (by simpa using ne_of_get Hx.out Hy.out hxy), hs.drewN _⟩
      · go_wp2
        go_ret
        obtain rfl : k = n := by omega
        exact ⟨ret_bool (by simpa using eq_of_take Hn.out Hm.out he.out), hs⟩
  · have hb : ((n : Int) != m) = true := by simp; omega
    go_enter Try.func14, Try.ntmps14
    go_wp2
    go_ret
    exact ⟨ret_bool (by simp; rintro rfl; exact hnm (Hn.out.symm.trans Hm.out)), Same.refl _⟩

set_option maxHeartbeats 400000 in
theorem markIntS_any (v : Value) (n : Nat) (xs : List Value) (k : Int) (w : World) (base : Nat) (h : w.ownsRow base 3 1 v n xs) (hn : n ≤ 1099511627776) (hk0 : 0 ≤ k) (hk1 : k ≤ 1099511627776) :
    Calls Try.prog 15 #[v, .int .i64 k] w fun e w' => e = .returned (.int .i64 (k + n)) ∧ w'.ownsRow base 3 1 v n (marks (.int .i64) k n) ∧ w.grownBy w' v.ownBlock := by
  have hl : xs.length = n := by simpa using h.1
  have Hl := Lib.hid hl
  clear hl
  by_cases hn0 : n = 0
  · subst hn0
    obtain ⟨A, c, rfl, -, -, -⟩ := (Rds.of_own h).shape
    go_enter Try.func15, Try.ntmps15
    go_wp2
    go_loopw [1, 5] (fun m i wr => i = .int .i64 0 ∧ m = .int .i64 k ∧ wr = w) (fun _ i _ => 0)
    case atStart => exact ⟨rfl, rfl, rfl⟩
    case round =>
      obtain ⟨rfl, rfl, rfl⟩ := hrel
      go_wp2
      go_ret
      refine ⟨ret_int (by simp), ?_, World.grownBy.refl _ _⟩
      have : xs = marks (.int .i64) k 0 := List.eq_nil_of_length_eq_zero Hl.out
      rw [← this]; exact h
  · obtain ⟨g, cap, rfl, -⟩ := h.form (by omega)
    go_enter Try.func15, Try.ntmps15
    go_wp2
    go_loopw [1, 5] (fun m i wr => ∃ j : Nat, j ≤ n ∧ i = .int .i64 j ∧ m = .int .i64 (k + j) ∧ wr.ownsRow base 3 1 (.slice (some ⟨g, 0, none⟩) n cap) n (marks (.int .i64) k j ++ xs.drop j) ∧ w.grownBy wr (some g)) (fun _ i _ => n - (intOf i).toNat)
    case atStart => exact ⟨0, Nat.zero_le _, rfl, by simp, h, World.grownBy.refl _ _⟩
    case round =>
      obtain ⟨j, hj, rfl, rfl, ho, hg⟩ := hrel
      by_cases hlt : j < n
      · have hfz := ho.frozenAt j
        have hcell : ∃ u, wr.cell? ⟨g, j, none⟩ = some u := by
          have hx := ho.cellAt j (by omega)
          have hll : j < (marks (.int .i64) k j ++ xs.drop j).length := by rw [List.length_append, marks_len, List.length_drop, Hl.out]; omega
          exact ⟨_, hx.trans (List.getElem?_eq_getElem hll)⟩
        obtain ⟨u, hcell⟩ := hcell
        have hst := ho.stored j (.int .i64 (k + j))
        rw [marks_set _ _ _ _ (by rw [Hl.out]; exact hlt)] at hst
        have H1 := Lib.hid hst
        clear hst
        go_wp2
        go_roundw
        case rel => exact ⟨j + 1, by omega, by go_num, by go_num, H1.out.1, grown_trans2 hg H1.out.2⟩
        case measure => simp [intOf]; omega
      · go_wp2
        go_ret
        obtain rfl : j = n := by omega
        rw [marks_all _ _ _ _ Hl.out] at ho
        exact ⟨rfl, ho, hg⟩

set_option maxHeartbeats 400000 in
theorem heldIntS_any (v : Value) (n : Nat) (k : Int) (w : World) {lo hi : Nat} (h : Rds w lo hi 1 v n (marks (.int .i64) k n)) (hn : n ≤ 1099511627776) (hk0 : 0 ≤ k) (hk1 : k ≤ 1099511627776) :
    Calls Try.prog 16 #[v, .int .i64 k] w fun e w' => e = .returned (.int .i64 (k + n)) ∧ w = w' := by
  obtain ⟨A, c, rfl, -, -, -⟩ := h.shape
  go_enter Try.func16, Try.ntmps16
  go_wp2
  go_loop [1, 5] (fun m i => ∃ j : Nat, j ≤ n ∧ i = .int .i64 j ∧ m = .int .i64 (k + j)) (fun _ i => n - (intOf i).toNat)
  case atStart => exact ⟨0, Nat.zero_le _, rfl, by simp⟩
  case round =>
    obtain ⟨j, hj, rfl, rfl⟩ := hrel
    by_cases hlt : j < n
    · obtain ⟨g, off, u, rfl, -, -, hu, hc⟩ := h.at_ hlt
      rw [marks_get _ _ _ _ hlt] at hu
      injection hu with hu
      subst hu
      go_wp2
      go_round
      case rel => exact ⟨j + 1, by omega, by go_num, by go_num⟩
      case measure => simp [intOf]; omega
    · go_wp2
      go_ret
      obtain rfl : j = n := by omega
      exact ⟨rfl, rfl⟩
end Go.Proofs.Ytgkgoofapgabhaa
