/- EX of the reference. -/
import Derived.Test.YtoddlphekcihgaaGreatDoorQ06
set_option maxRecDepth 100000
set_option maxHeartbeats 8000000
set_option linter.unusedVariables false
set_option linter.unusedSimpArgs false
namespace Go.Proofs.YtoddlphekcihgaaGreatDoor
open Go.RowKit
theorem R9 (n i lo hi : Int) (t : ByteArray) (w : World) :
 Calls Tryz.prog 124 #[.agg #[.int .i64 0, .int .i64 n, .int .i64 i, .string t, .int .i64 lo, .int .i64 hi]] w fun e w' => e = .returned (.bool (wfB ⟨0, n, i, t, ⟨lo, hi⟩⟩)) ∧ Below w.heap.size w w' := by
 by_cases ht : t.size = 0
 have e1 := gY ht
 rotate_left
 have e1 := lW ht
 iterate 2 focus
  go_enter Tryz.func124, Tryz.ntmps124
  go_wp2_with fail
  all_goals go_ret <;> exact ⟨ah (by rw [Bool.eq_iff_iff]; simp [wfB, iK, mE, ql, ht] <;> omega), bA _ _⟩
theorem Sb (n i lo hi : Int) (t : ByteArray) (w : World) :
 Calls Tryz.prog 124 #[.agg #[.int .i64 1, .int .i64 n, .int .i64 i, .string t, .int .i64 lo, .int .i64 hi]] w fun e w' => e = .returned (.bool (wfB ⟨1, n, i, t, ⟨lo, hi⟩⟩)) ∧ Below w.heap.size w w' := by
 by_cases ht : t.size = 0
 have e1 := gY ht
 rotate_left
 have e1 := lW ht
 iterate 2 focus
  go_enter Tryz.func124, Tryz.ntmps124
  go_wp2_with fail
  all_goals go_ret <;> exact ⟨ah (by rw [Bool.eq_iff_iff]; simp [wfB, iK, mE, ql, ht] <;> omega), bA _ _⟩
theorem Sc (n i lo hi : Int) (t : ByteArray) (w : World) :
 Calls Tryz.prog 124 #[.agg #[.int .i64 2, .int .i64 n, .int .i64 i, .string t, .int .i64 lo, .int .i64 hi]] w fun e w' => e = .returned (.bool (wfB ⟨2, n, i, t, ⟨lo, hi⟩⟩)) ∧ Below w.heap.size w w' := by
 by_cases ht : t.size = 0
 have e1 := gY ht
 rotate_left
 have e1 := lW ht
 iterate 2 focus
  go_enter Tryz.func124, Tryz.ntmps124
  go_wp2_with fail
  all_goals go_ret <;> exact ⟨ah (by rw [Bool.eq_iff_iff]; simp [wfB, iK, mE, ql, ht] <;> omega), bA _ _⟩
theorem Sd (n i lo hi : Int) (t : ByteArray) (w : World) :
 Calls Tryz.prog 124 #[.agg #[.int .i64 3, .int .i64 n, .int .i64 i, .string t, .int .i64 lo, .int .i64 hi]] w fun e w' => e = .returned (.bool (wfB ⟨3, n, i, t, ⟨lo, hi⟩⟩)) ∧ Below w.heap.size w w' := by
 by_cases ht : t.size = 0
 have e1 := gY ht
 rotate_left
 have e1 := lW ht
 iterate 2 focus
  go_enter Tryz.func124, Tryz.ntmps124
  go_wp2_with fail
  all_goals go_ret <;> exact ⟨ah (by rw [Bool.eq_iff_iff]; simp [wfB, iK, mE, ql, ht] <;> omega), bA _ _⟩
theorem Se (n i lo hi : Int) (t : ByteArray) (w : World) :
 Calls Tryz.prog 124 #[.agg #[.int .i64 4, .int .i64 n, .int .i64 i, .string t, .int .i64 lo, .int .i64 hi]] w fun e w' => e = .returned (.bool (wfB ⟨4, n, i, t, ⟨lo, hi⟩⟩)) ∧ Below w.heap.size w w' := by
 by_cases ht : t.size = 0
 have e1 := gY ht
 rotate_left
 have e1 := lW ht
 iterate 2 focus
  go_enter Tryz.func124, Tryz.ntmps124
  go_wp2_with fail
  all_goals go_ret <;> exact ⟨ah (by rw [Bool.eq_iff_iff]; simp [wfB, iK, mE, ql, ht] <;> omega), bA _ _⟩
theorem Sf (n i lo hi : Int) (t : ByteArray) (w : World) :
 Calls Tryz.prog 124 #[.agg #[.int .i64 5, .int .i64 n, .int .i64 i, .string t, .int .i64 lo, .int .i64 hi]] w fun e w' => e = .returned (.bool (wfB ⟨5, n, i, t, ⟨lo, hi⟩⟩)) ∧ Below w.heap.size w w' := by
 by_cases ht : t.size = 0
 have e1 := gY ht
 rotate_left
 have e1 := lW ht
 iterate 2 focus
  go_enter Tryz.func124, Tryz.ntmps124
  go_wp2_with fail
  all_goals go_ret <;> exact ⟨ah (by rw [Bool.eq_iff_iff]; simp [wfB, iK, mE, ql, ht] <;> omega), bA _ _⟩
theorem Sg (n i lo hi : Int) (t : ByteArray) (w : World) :
 Calls Tryz.prog 124 #[.agg #[.int .i64 6, .int .i64 n, .int .i64 i, .string t, .int .i64 lo, .int .i64 hi]] w fun e w' => e = .returned (.bool (wfB ⟨6, n, i, t, ⟨lo, hi⟩⟩)) ∧ Below w.heap.size w w' := by
 by_cases ht : t.size = 0
 have e1 := gY ht
 rotate_left
 have e1 := lW ht
 iterate 2 focus
  go_enter Tryz.func124, Tryz.ntmps124
  go_wp2_with fail
  all_goals go_ret <;> exact ⟨ah (by rw [Bool.eq_iff_iff]; simp [wfB, iK, mE, ql, ht] <;> omega), bA _ _⟩
theorem Si (n i lo hi : Int) (t : ByteArray) (w : World) :
 Calls Tryz.prog 124 #[.agg #[.int .i64 7, .int .i64 n, .int .i64 i, .string t, .int .i64 lo, .int .i64 hi]] w fun e w' => e = .returned (.bool (wfB ⟨7, n, i, t, ⟨lo, hi⟩⟩)) ∧ Below w.heap.size w w' := by
 by_cases ht : t.size = 0
 have e1 := gY ht
 rotate_left
 have e1 := lW ht
 iterate 2 focus
  go_enter Tryz.func124, Tryz.ntmps124
  go_wp2_with fail
  all_goals go_ret <;> exact ⟨ah (by rw [Bool.eq_iff_iff]; simp [wfB, iK, mE, ql, ht] <;> omega), bA _ _⟩
theorem Sj (n i lo hi : Int) (t : ByteArray) (w : World) :
 Calls Tryz.prog 124 #[.agg #[.int .i64 8, .int .i64 n, .int .i64 i, .string t, .int .i64 lo, .int .i64 hi]] w fun e w' => e = .returned (.bool (wfB ⟨8, n, i, t, ⟨lo, hi⟩⟩)) ∧ Below w.heap.size w w' := by
 by_cases ht : t.size = 0
 have e1 := gY ht
 rotate_left
 have e1 := lW ht
 iterate 2 focus
  go_enter Tryz.func124, Tryz.ntmps124
  go_wp2_with fail
  all_goals go_ret <;> exact ⟨ah (by rw [Bool.eq_iff_iff]; simp [wfB, iK, mE, ql, ht] <;> omega), bA _ _⟩
theorem Sk (n i lo hi : Int) (t : ByteArray) (w : World) :
 Calls Tryz.prog 124 #[.agg #[.int .i64 9, .int .i64 n, .int .i64 i, .string t, .int .i64 lo, .int .i64 hi]] w fun e w' => e = .returned (.bool (wfB ⟨9, n, i, t, ⟨lo, hi⟩⟩)) ∧ Below w.heap.size w w' := by
 by_cases ht : t.size = 0
 have e1 := gY ht
 rotate_left
 have e1 := lW ht
 iterate 2 focus
  go_enter Tryz.func124, Tryz.ntmps124
  go_wp2_with fail
  all_goals go_ret <;> exact ⟨ah (by rw [Bool.eq_iff_iff]; simp [wfB, iK, mE, ql, ht] <;> omega), bA _ _⟩
theorem PN (n i lo hi : Int) (t : ByteArray) (w : World) :
 Calls Tryz.prog 124 #[.agg #[.int .i64 10, .int .i64 n, .int .i64 i, .string t, .int .i64 lo, .int .i64 hi]] w fun e w' => e = .returned (.bool (wfB ⟨10, n, i, t, ⟨lo, hi⟩⟩)) ∧ Below w.heap.size w w' := by
 by_cases ht : t.size = 0
 have e1 := gY ht
 rotate_left
 have e1 := lW ht
 iterate 2 focus
  go_enter Tryz.func124, Tryz.ntmps124
  go_wp2_with fail
  all_goals go_ret <;> exact ⟨ah (by rw [Bool.eq_iff_iff]; simp [wfB, iK, mE, ql, ht] <;> omega), bA _ _⟩
theorem PO (n i lo hi : Int) (t : ByteArray) (w : World) :
 Calls Tryz.prog 124 #[.agg #[.int .i64 11, .int .i64 n, .int .i64 i, .string t, .int .i64 lo, .int .i64 hi]] w fun e w' => e = .returned (.bool (wfB ⟨11, n, i, t, ⟨lo, hi⟩⟩)) ∧ Below w.heap.size w w' := by
 by_cases ht : t.size = 0
 have e1 := gY ht
 rotate_left
 have e1 := lW ht
 iterate 2 focus
  go_enter Tryz.func124, Tryz.ntmps124
  go_wp2_with fail
  all_goals go_ret <;> exact ⟨ah (by rw [Bool.eq_iff_iff]; simp [wfB, iK, mE, ql, ht] <;> omega), bA _ _⟩
theorem PS (n i lo hi : Int) (t : ByteArray) (w : World) :
 Calls Tryz.prog 124 #[.agg #[.int .i64 12, .int .i64 n, .int .i64 i, .string t, .int .i64 lo, .int .i64 hi]] w fun e w' => e = .returned (.bool (wfB ⟨12, n, i, t, ⟨lo, hi⟩⟩)) ∧ Below w.heap.size w w' := by
 by_cases ht : t.size = 0
 have e1 := gY ht
 rotate_left
 have e1 := lW ht
 iterate 2 focus
  go_enter Tryz.func124, Tryz.ntmps124
  go_wp2_with fail
  all_goals go_ret <;> exact ⟨ah (by rw [Bool.eq_iff_iff]; simp [wfB, iK, mE, ql, ht] <;> omega), bA _ _⟩
theorem PT (n i lo hi : Int) (t : ByteArray) (w : World) :
 Calls Tryz.prog 124 #[.agg #[.int .i64 13, .int .i64 n, .int .i64 i, .string t, .int .i64 lo, .int .i64 hi]] w fun e w' => e = .returned (.bool (wfB ⟨13, n, i, t, ⟨lo, hi⟩⟩)) ∧ Below w.heap.size w w' := by
 by_cases ht : t.size = 0
 have e1 := gY ht
 rotate_left
 have e1 := lW ht
 iterate 2 focus
  go_enter Tryz.func124, Tryz.ntmps124
  go_wp2_with fail
  all_goals go_ret <;> exact ⟨ah (by rw [Bool.eq_iff_iff]; simp [wfB, iK, mE, ql, ht] <;> omega), bA _ _⟩
theorem PU (n i lo hi : Int) (t : ByteArray) (w : World) :
 Calls Tryz.prog 124 #[.agg #[.int .i64 14, .int .i64 n, .int .i64 i, .string t, .int .i64 lo, .int .i64 hi]] w fun e w' => e = .returned (.bool (wfB ⟨14, n, i, t, ⟨lo, hi⟩⟩)) ∧ Below w.heap.size w w' := by
 by_cases ht : t.size = 0
 have e1 := gY ht
 rotate_left
 have e1 := lW ht
 iterate 2 focus
  go_enter Tryz.func124, Tryz.ntmps124
  go_wp2_with fail
  all_goals go_ret <;> exact ⟨ah (by rw [Bool.eq_iff_iff]; simp [wfB, iK, mE, ql, ht] <;> omega), bA _ _⟩
theorem PV (n i lo hi : Int) (t : ByteArray) (w : World) :
 Calls Tryz.prog 124 #[.agg #[.int .i64 15, .int .i64 n, .int .i64 i, .string t, .int .i64 lo, .int .i64 hi]] w fun e w' => e = .returned (.bool (wfB ⟨15, n, i, t, ⟨lo, hi⟩⟩)) ∧ Below w.heap.size w w' := by
 by_cases ht : t.size = 0
 have e1 := gY ht
 rotate_left
 have e1 := lW ht
 iterate 2 focus
  go_enter Tryz.func124, Tryz.ntmps124
  go_wp2_with fail
  all_goals go_ret <;> exact ⟨ah (by rw [Bool.eq_iff_iff]; simp [wfB, iK, mE, ql, ht] <;> omega), bA _ _⟩
theorem PW (n i lo hi : Int) (t : ByteArray) (w : World) :
 Calls Tryz.prog 124 #[.agg #[.int .i64 16, .int .i64 n, .int .i64 i, .string t, .int .i64 lo, .int .i64 hi]] w fun e w' => e = .returned (.bool (wfB ⟨16, n, i, t, ⟨lo, hi⟩⟩)) ∧ Below w.heap.size w w' := by
 by_cases ht : t.size = 0
 have e1 := gY ht
 rotate_left
 have e1 := lW ht
 iterate 2 focus
  go_enter Tryz.func124, Tryz.ntmps124
  go_wp2_with fail
  all_goals go_ret <;> exact ⟨ah (by rw [Bool.eq_iff_iff]; simp [wfB, iK, mE, ql, ht] <;> omega), bA _ _⟩
theorem PX (n i lo hi : Int) (t : ByteArray) (w : World) :
 Calls Tryz.prog 124 #[.agg #[.int .i64 17, .int .i64 n, .int .i64 i, .string t, .int .i64 lo, .int .i64 hi]] w fun e w' => e = .returned (.bool (wfB ⟨17, n, i, t, ⟨lo, hi⟩⟩)) ∧ Below w.heap.size w w' := by
 by_cases ht : t.size = 0
 have e1 := gY ht
 rotate_left
 have e1 := lW ht
 iterate 2 focus
  go_enter Tryz.func124, Tryz.ntmps124
  go_wp2_with fail
  all_goals go_ret <;> exact ⟨ah (by rw [Bool.eq_iff_iff]; simp [wfB, iK, mE, ql, ht] <;> omega), bA _ _⟩
theorem PY (n i lo hi : Int) (t : ByteArray) (w : World) :
 Calls Tryz.prog 124 #[.agg #[.int .i64 18, .int .i64 n, .int .i64 i, .string t, .int .i64 lo, .int .i64 hi]] w fun e w' => e = .returned (.bool (wfB ⟨18, n, i, t, ⟨lo, hi⟩⟩)) ∧ Below w.heap.size w w' := by
 by_cases ht : t.size = 0
 have e1 := gY ht
 rotate_left
 have e1 := lW ht
 iterate 2 focus
  go_enter Tryz.func124, Tryz.ntmps124
  go_wp2_with fail
  all_goals go_ret <;> exact ⟨ah (by rw [Bool.eq_iff_iff]; simp [wfB, iK, mE, ql, ht] <;> omega), bA _ _⟩
theorem PZ (n i lo hi : Int) (t : ByteArray) (w : World) :
 Calls Tryz.prog 124 #[.agg #[.int .i64 19, .int .i64 n, .int .i64 i, .string t, .int .i64 lo, .int .i64 hi]] w fun e w' => e = .returned (.bool (wfB ⟨19, n, i, t, ⟨lo, hi⟩⟩)) ∧ Below w.heap.size w w' := by
 by_cases ht : t.size = 0
 have e1 := gY ht
 rotate_left
 have e1 := lW ht
 iterate 2 focus
  go_enter Tryz.func124, Tryz.ntmps124
  go_wp2_with fail
  all_goals go_ret <;> exact ⟨ah (by rw [Bool.eq_iff_iff]; simp [wfB, iK, mE, ql, ht] <;> omega), bA _ _⟩
theorem P4 (n i lo hi : Int) (t : ByteArray) (w : World) :
 Calls Tryz.prog 124 #[.agg #[.int .i64 20, .int .i64 n, .int .i64 i, .string t, .int .i64 lo, .int .i64 hi]] w fun e w' => e = .returned (.bool (wfB ⟨20, n, i, t, ⟨lo, hi⟩⟩)) ∧ Below w.heap.size w w' := by
 by_cases ht : t.size = 0
 have e1 := gY ht
 rotate_left
 have e1 := lW ht
 iterate 2 focus
  go_enter Tryz.func124, Tryz.ntmps124
  go_wp2_with fail
  all_goals go_ret <;> exact ⟨ah (by rw [Bool.eq_iff_iff]; simp [wfB, iK, mE, ql, ht] <;> omega), bA _ _⟩
theorem P5 (k : Int) (hk : k < 0) (n i lo hi : Int) (t : ByteArray) (w : World) :
 Calls Tryz.prog 124 #[.agg #[.int .i64 k, .int .i64 n, .int .i64 i, .string t, .int .i64 lo, .int .i64 hi]] w fun e w' => e = .returned (.bool (wfB ⟨k, n, i, t, ⟨lo, hi⟩⟩)) ∧ Below w.heap.size w w' := by
 by_cases ht : t.size = 0
 have e1 := gY ht
 rotate_left
 have e1 := lW ht
 iterate 2 focus
  go_enter Tryz.func124, Tryz.ntmps124
  go_wp2_with fail
  all_goals go_ret <;> exact ⟨ah (by rw [Bool.eq_iff_iff]; simp [wfB, iK, mE, ql, ht] <;> omega), bA _ _⟩
theorem P6 (k : Int) (hk : 20 < k) (n i lo hi : Int) (t : ByteArray) (w : World) :
 Calls Tryz.prog 124 #[.agg #[.int .i64 k, .int .i64 n, .int .i64 i, .string t, .int .i64 lo, .int .i64 hi]] w fun e w' => e = .returned (.bool (wfB ⟨k, n, i, t, ⟨lo, hi⟩⟩)) ∧ Below w.heap.size w w' := by
 by_cases ht : t.size = 0
 have e1 := gY ht
 rotate_left
 have e1 := lW ht
 iterate 2 focus
  go_enter Tryz.func124, Tryz.ntmps124
  go_wp2_with fail
  all_goals go_ret <;> exact ⟨ah (by rw [Bool.eq_iff_iff]; simp [wfB, iK, mE, ql, ht] <;> omega), bA _ _⟩
theorem fH (c : aQ) (x : Value) (w : World) (lo hi : Nat) (h : fA w lo hi aQ.ay x c) :
 Calls Tryz.prog 124 #[x] w fun e w' => e = .returned (.bool (wfB c)) ∧ Below w.heap.size w w' := by
 obtain rfl := aQ.form h
 obtain ⟨k, n, i, t, ⟨sl, sh⟩⟩ := c
 by_cases h0 : k < 0
 ·exact P5 k h0 n i sl sh t w
 by_cases h1 : 20 < k
 ·exact P6 k h1 n i sl sh t w
 by_cases k0 : k = 0
 ·subst k0; exact R9 n i sl sh t w
 by_cases k1 : k = 1
 ·subst k1; exact Sb n i sl sh t w
 by_cases k2 : k = 2
 ·subst k2; exact Sc n i sl sh t w
 by_cases k3 : k = 3
 ·subst k3; exact Sd n i sl sh t w
 by_cases k4 : k = 4
 ·subst k4; exact Se n i sl sh t w
 by_cases k5 : k = 5
 ·subst k5; exact Sf n i sl sh t w
 by_cases k6 : k = 6
 ·subst k6; exact Sg n i sl sh t w
 by_cases k7 : k = 7
 ·subst k7; exact Si n i sl sh t w
 by_cases k8 : k = 8
 ·subst k8; exact Sj n i sl sh t w
 by_cases k9 : k = 9
 ·subst k9; exact Sk n i sl sh t w
 by_cases k10 : k = 10
 ·subst k10; exact PN n i sl sh t w
 by_cases k11 : k = 11
 ·subst k11; exact PO n i sl sh t w
 by_cases k12 : k = 12
 ·subst k12; exact PS n i sl sh t w
 by_cases k13 : k = 13
 ·subst k13; exact PT n i sl sh t w
 by_cases k14 : k = 14
 ·subst k14; exact PU n i sl sh t w
 by_cases k15 : k = 15
 ·subst k15; exact PV n i sl sh t w
 by_cases k16 : k = 16
 ·subst k16; exact PW n i sl sh t w
 by_cases k17 : k = 17
 ·subst k17; exact PX n i sl sh t w
 by_cases k18 : k = 18
 ·subst k18; exact PY n i sl sh t w
 by_cases k19 : k = 19
 ·subst k19; exact PZ n i sl sh t w
 obtain rfl : k = 20 := by omega
 exact P4 n i sl sh t w
end Go.Proofs.YtoddlphekcihgaaGreatDoor
