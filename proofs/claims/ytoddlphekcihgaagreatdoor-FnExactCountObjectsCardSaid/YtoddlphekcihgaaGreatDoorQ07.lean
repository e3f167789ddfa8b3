/- EX of the program. -/
import Derived.Test.YtoddlphekcihgaaGreatDoorQ06
set_option maxRecDepth 100000
set_option maxHeartbeats 8000000
set_option linter.unusedVariables false
set_option linter.unusedSimpArgs false
namespace Go.Proofs.YtoddlphekcihgaaGreatDoor
open Go.RowKit
theorem RJ (n i lo hi : Int) (t : ByteArray) (w : World) :
 Calls Tryz.prog 141 #[.agg #[.int .i64 0, .int .i64 n, .int .i64 i, .string t, .int .i64 lo, .int .i64 hi]] w fun e w' => e = .returned (.bool (wfB ⟨0, n, i, t, ⟨lo, hi⟩⟩)) ∧ Below w.heap.size w w' := by
 by_cases ht : t.size = 0
 have e1 := gY ht
 rotate_left
 have e1 := lW ht
 iterate 2 focus
  go_enter Tryz.func141, Tryz.ntmps141
  go_wp2_with fail
  all_goals go_ret <;> exact ⟨ah (by rw [Bool.eq_iff_iff]; simp [wfB, iK, mE, ql, ht] <;> omega), bA _ _⟩
theorem RL (n i lo hi : Int) (t : ByteArray) (w : World) :
 Calls Tryz.prog 141 #[.agg #[.int .i64 1, .int .i64 n, .int .i64 i, .string t, .int .i64 lo, .int .i64 hi]] w fun e w' => e = .returned (.bool (wfB ⟨1, n, i, t, ⟨lo, hi⟩⟩)) ∧ Below w.heap.size w w' := by
 by_cases ht : t.size = 0
 have e1 := gY ht
 rotate_left
 have e1 := lW ht
 iterate 2 focus
  go_enter Tryz.func141, Tryz.ntmps141
  go_wp2_with fail
  all_goals go_ret <;> exact ⟨ah (by rw [Bool.eq_iff_iff]; simp [wfB, iK, mE, ql, ht] <;> omega), bA _ _⟩
theorem RN (n i lo hi : Int) (t : ByteArray) (w : World) :
 Calls Tryz.prog 141 #[.agg #[.int .i64 2, .int .i64 n, .int .i64 i, .string t, .int .i64 lo, .int .i64 hi]] w fun e w' => e = .returned (.bool (wfB ⟨2, n, i, t, ⟨lo, hi⟩⟩)) ∧ Below w.heap.size w w' := by
 by_cases ht : t.size = 0
 have e1 := gY ht
 rotate_left
 have e1 := lW ht
 iterate 2 focus
  go_enter Tryz.func141, Tryz.ntmps141
  go_wp2_with fail
  all_goals go_ret <;> exact ⟨ah (by rw [Bool.eq_iff_iff]; simp [wfB, iK, mE, ql, ht] <;> omega), bA _ _⟩
theorem RO (n i lo hi : Int) (t : ByteArray) (w : World) :
 Calls Tryz.prog 141 #[.agg #[.int .i64 3, .int .i64 n, .int .i64 i, .string t, .int .i64 lo, .int .i64 hi]] w fun e w' => e = .returned (.bool (wfB ⟨3, n, i, t, ⟨lo, hi⟩⟩)) ∧ Below w.heap.size w w' := by
 by_cases ht : t.size = 0
 have e1 := gY ht
 rotate_left
 have e1 := lW ht
 iterate 2 focus
  go_enter Tryz.func141, Tryz.ntmps141
  go_wp2_with fail
  all_goals go_ret <;> exact ⟨ah (by rw [Bool.eq_iff_iff]; simp [wfB, iK, mE, ql, ht] <;> omega), bA _ _⟩
theorem RP (n i lo hi : Int) (t : ByteArray) (w : World) :
 Calls Tryz.prog 141 #[.agg #[.int .i64 4, .int .i64 n, .int .i64 i, .string t, .int .i64 lo, .int .i64 hi]] w fun e w' => e = .returned (.bool (wfB ⟨4, n, i, t, ⟨lo, hi⟩⟩)) ∧ Below w.heap.size w w' := by
 by_cases ht : t.size = 0
 have e1 := gY ht
 rotate_left
 have e1 := lW ht
 iterate 2 focus
  go_enter Tryz.func141, Tryz.ntmps141
  go_wp2_with fail
  all_goals go_ret <;> exact ⟨ah (by rw [Bool.eq_iff_iff]; simp [wfB, iK, mE, ql, ht] <;> omega), bA _ _⟩
theorem RQ (n i lo hi : Int) (t : ByteArray) (w : World) :
 Calls Tryz.prog 141 #[.agg #[.int .i64 5, .int .i64 n, .int .i64 i, .string t, .int .i64 lo, .int .i64 hi]] w fun e w' => e = .returned (.bool (wfB ⟨5, n, i, t, ⟨lo, hi⟩⟩)) ∧ Below w.heap.size w w' := by
 by_cases ht : t.size = 0
 have e1 := gY ht
 rotate_left
 have e1 := lW ht
 iterate 2 focus
  go_enter Tryz.func141, Tryz.ntmps141
  go_wp2_with fail
  all_goals go_ret <;> exact ⟨ah (by rw [Bool.eq_iff_iff]; simp [wfB, iK, mE, ql, ht] <;> omega), bA _ _⟩
theorem RS (n i lo hi : Int) (t : ByteArray) (w : World) :
 Calls Tryz.prog 141 #[.agg #[.int .i64 6, .int .i64 n, .int .i64 i, .string t, .int .i64 lo, .int .i64 hi]] w fun e w' => e = .returned (.bool (wfB ⟨6, n, i, t, ⟨lo, hi⟩⟩)) ∧ Below w.heap.size w w' := by
 by_cases ht : t.size = 0
 have e1 := gY ht
 rotate_left
 have e1 := lW ht
 iterate 2 focus
  go_enter Tryz.func141, Tryz.ntmps141
  go_wp2_with fail
  all_goals go_ret <;> exact ⟨ah (by rw [Bool.eq_iff_iff]; simp [wfB, iK, mE, ql, ht] <;> omega), bA _ _⟩
theorem RU (n i lo hi : Int) (t : ByteArray) (w : World) :
 Calls Tryz.prog 141 #[.agg #[.int .i64 7, .int .i64 n, .int .i64 i, .string t, .int .i64 lo, .int .i64 hi]] w fun e w' => e = .returned (.bool (wfB ⟨7, n, i, t, ⟨lo, hi⟩⟩)) ∧ Below w.heap.size w w' := by
 by_cases ht : t.size = 0
 have e1 := gY ht
 rotate_left
 have e1 := lW ht
 iterate 2 focus
  go_enter Tryz.func141, Tryz.ntmps141
  go_wp2_with fail
  all_goals go_ret <;> exact ⟨ah (by rw [Bool.eq_iff_iff]; simp [wfB, iK, mE, ql, ht] <;> omega), bA _ _⟩
theorem RV (n i lo hi : Int) (t : ByteArray) (w : World) :
 Calls Tryz.prog 141 #[.agg #[.int .i64 8, .int .i64 n, .int .i64 i, .string t, .int .i64 lo, .int .i64 hi]] w fun e w' => e = .returned (.bool (wfB ⟨8, n, i, t, ⟨lo, hi⟩⟩)) ∧ Below w.heap.size w w' := by
 by_cases ht : t.size = 0
 have e1 := gY ht
 rotate_left
 have e1 := lW ht
 iterate 2 focus
  go_enter Tryz.func141, Tryz.ntmps141
  go_wp2_with fail
  all_goals go_ret <;> exact ⟨ah (by rw [Bool.eq_iff_iff]; simp [wfB, iK, mE, ql, ht] <;> omega), bA _ _⟩
theorem RX (n i lo hi : Int) (t : ByteArray) (w : World) :
 Calls Tryz.prog 141 #[.agg #[.int .i64 9, .int .i64 n, .int .i64 i, .string t, .int .i64 lo, .int .i64 hi]] w fun e w' => e = .returned (.bool (wfB ⟨9, n, i, t, ⟨lo, hi⟩⟩)) ∧ Below w.heap.size w w' := by
 by_cases ht : t.size = 0
 have e1 := gY ht
 rotate_left
 have e1 := lW ht
 iterate 2 focus
  go_enter Tryz.func141, Tryz.ntmps141
  go_wp2_with fail
  all_goals go_ret <;> exact ⟨ah (by rw [Bool.eq_iff_iff]; simp [wfB, iK, mE, ql, ht] <;> omega), bA _ _⟩
theorem O7 (n i lo hi : Int) (t : ByteArray) (w : World) :
 Calls Tryz.prog 141 #[.agg #[.int .i64 10, .int .i64 n, .int .i64 i, .string t, .int .i64 lo, .int .i64 hi]] w fun e w' => e = .returned (.bool (wfB ⟨10, n, i, t, ⟨lo, hi⟩⟩)) ∧ Below w.heap.size w w' := by
 by_cases ht : t.size = 0
 have e1 := gY ht
 rotate_left
 have e1 := lW ht
 iterate 2 focus
  go_enter Tryz.func141, Tryz.ntmps141
  go_wp2_with fail
  all_goals go_ret <;> exact ⟨ah (by rw [Bool.eq_iff_iff]; simp [wfB, iK, mE, ql, ht] <;> omega), bA _ _⟩
theorem O8 (n i lo hi : Int) (t : ByteArray) (w : World) :
 Calls Tryz.prog 141 #[.agg #[.int .i64 11, .int .i64 n, .int .i64 i, .string t, .int .i64 lo, .int .i64 hi]] w fun e w' => e = .returned (.bool (wfB ⟨11, n, i, t, ⟨lo, hi⟩⟩)) ∧ Below w.heap.size w w' := by
 by_cases ht : t.size = 0
 have e1 := gY ht
 rotate_left
 have e1 := lW ht
 iterate 2 focus
  go_enter Tryz.func141, Tryz.ntmps141
  go_wp2_with fail
  all_goals go_ret <;> exact ⟨ah (by rw [Bool.eq_iff_iff]; simp [wfB, iK, mE, ql, ht] <;> omega), bA _ _⟩
theorem O9 (n i lo hi : Int) (t : ByteArray) (w : World) :
 Calls Tryz.prog 141 #[.agg #[.int .i64 12, .int .i64 n, .int .i64 i, .string t, .int .i64 lo, .int .i64 hi]] w fun e w' => e = .returned (.bool (wfB ⟨12, n, i, t, ⟨lo, hi⟩⟩)) ∧ Below w.heap.size w w' := by
 by_cases ht : t.size = 0
 have e1 := gY ht
 rotate_left
 have e1 := lW ht
 iterate 2 focus
  go_enter Tryz.func141, Tryz.ntmps141
  go_wp2_with fail
  all_goals go_ret <;> exact ⟨ah (by rw [Bool.eq_iff_iff]; simp [wfB, iK, mE, ql, ht] <;> omega), bA _ _⟩
theorem Pb (n i lo hi : Int) (t : ByteArray) (w : World) :
 Calls Tryz.prog 141 #[.agg #[.int .i64 13, .int .i64 n, .int .i64 i, .string t, .int .i64 lo, .int .i64 hi]] w fun e w' => e = .returned (.bool (wfB ⟨13, n, i, t, ⟨lo, hi⟩⟩)) ∧ Below w.heap.size w w' := by
 by_cases ht : t.size = 0
 have e1 := gY ht
 rotate_left
 have e1 := lW ht
 iterate 2 focus
  go_enter Tryz.func141, Tryz.ntmps141
  go_wp2_with fail
  all_goals go_ret <;> exact ⟨ah (by rw [Bool.eq_iff_iff]; simp [wfB, iK, mE, ql, ht] <;> omega), bA _ _⟩
theorem Pd (n i lo hi : Int) (t : ByteArray) (w : World) :
 Calls Tryz.prog 141 #[.agg #[.int .i64 14, .int .i64 n, .int .i64 i, .string t, .int .i64 lo, .int .i64 hi]] w fun e w' => e = .returned (.bool (wfB ⟨14, n, i, t, ⟨lo, hi⟩⟩)) ∧ Below w.heap.size w w' := by
 by_cases ht : t.size = 0
 have e1 := gY ht
 rotate_left
 have e1 := lW ht
 iterate 2 focus
  go_enter Tryz.func141, Tryz.ntmps141
  go_wp2_with fail
  all_goals go_ret <;> exact ⟨ah (by rw [Bool.eq_iff_iff]; simp [wfB, iK, mE, ql, ht] <;> omega), bA _ _⟩
theorem Pe (n i lo hi : Int) (t : ByteArray) (w : World) :
 Calls Tryz.prog 141 #[.agg #[.int .i64 15, .int .i64 n, .int .i64 i, .string t, .int .i64 lo, .int .i64 hi]] w fun e w' => e = .returned (.bool (wfB ⟨15, n, i, t, ⟨lo, hi⟩⟩)) ∧ Below w.heap.size w w' := by
 by_cases ht : t.size = 0
 have e1 := gY ht
 rotate_left
 have e1 := lW ht
 iterate 2 focus
  go_enter Tryz.func141, Tryz.ntmps141
  go_wp2_with fail
  all_goals go_ret <;> exact ⟨ah (by rw [Bool.eq_iff_iff]; simp [wfB, iK, mE, ql, ht] <;> omega), bA _ _⟩
theorem Pf (n i lo hi : Int) (t : ByteArray) (w : World) :
 Calls Tryz.prog 141 #[.agg #[.int .i64 16, .int .i64 n, .int .i64 i, .string t, .int .i64 lo, .int .i64 hi]] w fun e w' => e = .returned (.bool (wfB ⟨16, n, i, t, ⟨lo, hi⟩⟩)) ∧ Below w.heap.size w w' := by
 by_cases ht : t.size = 0
 have e1 := gY ht
 rotate_left
 have e1 := lW ht
 iterate 2 focus
  go_enter Tryz.func141, Tryz.ntmps141
  go_wp2_with fail
  all_goals go_ret <;> exact ⟨ah (by rw [Bool.eq_iff_iff]; simp [wfB, iK, mE, ql, ht] <;> omega), bA _ _⟩
theorem Pg (n i lo hi : Int) (t : ByteArray) (w : World) :
 Calls Tryz.prog 141 #[.agg #[.int .i64 17, .int .i64 n, .int .i64 i, .string t, .int .i64 lo, .int .i64 hi]] w fun e w' => e = .returned (.bool (wfB ⟨17, n, i, t, ⟨lo, hi⟩⟩)) ∧ Below w.heap.size w w' := by
 by_cases ht : t.size = 0
 have e1 := gY ht
 rotate_left
 have e1 := lW ht
 iterate 2 focus
  go_enter Tryz.func141, Tryz.ntmps141
  go_wp2_with fail
  all_goals go_ret <;> exact ⟨ah (by rw [Bool.eq_iff_iff]; simp [wfB, iK, mE, ql, ht] <;> omega), bA _ _⟩
theorem Ph (n i lo hi : Int) (t : ByteArray) (w : World) :
 Calls Tryz.prog 141 #[.agg #[.int .i64 18, .int .i64 n, .int .i64 i, .string t, .int .i64 lo, .int .i64 hi]] w fun e w' => e = .returned (.bool (wfB ⟨18, n, i, t, ⟨lo, hi⟩⟩)) ∧ Below w.heap.size w w' := by
 by_cases ht : t.size = 0
 have e1 := gY ht
 rotate_left
 have e1 := lW ht
 iterate 2 focus
  go_enter Tryz.func141, Tryz.ntmps141
  go_wp2_with fail
  all_goals go_ret <;> exact ⟨ah (by rw [Bool.eq_iff_iff]; simp [wfB, iK, mE, ql, ht] <;> omega), bA _ _⟩
theorem Pj (n i lo hi : Int) (t : ByteArray) (w : World) :
 Calls Tryz.prog 141 #[.agg #[.int .i64 19, .int .i64 n, .int .i64 i, .string t, .int .i64 lo, .int .i64 hi]] w fun e w' => e = .returned (.bool (wfB ⟨19, n, i, t, ⟨lo, hi⟩⟩)) ∧ Below w.heap.size w w' := by
 by_cases ht : t.size = 0
 have e1 := gY ht
 rotate_left
 have e1 := lW ht
 iterate 2 focus
  go_enter Tryz.func141, Tryz.ntmps141
  go_wp2_with fail
  all_goals go_ret <;> exact ⟨ah (by rw [Bool.eq_iff_iff]; simp [wfB, iK, mE, ql, ht] <;> omega), bA _ _⟩
theorem Pk (n i lo hi : Int) (t : ByteArray) (w : World) :
 Calls Tryz.prog 141 #[.agg #[.int .i64 20, .int .i64 n, .int .i64 i, .string t, .int .i64 lo, .int .i64 hi]] w fun e w' => e = .returned (.bool (wfB ⟨20, n, i, t, ⟨lo, hi⟩⟩)) ∧ Below w.heap.size w w' := by
 by_cases ht : t.size = 0
 have e1 := gY ht
 rotate_left
 have e1 := lW ht
 iterate 2 focus
  go_enter Tryz.func141, Tryz.ntmps141
  go_wp2_with fail
  all_goals go_ret <;> exact ⟨ah (by rw [Bool.eq_iff_iff]; simp [wfB, iK, mE, ql, ht] <;> omega), bA _ _⟩
theorem Pm (k : Int) (hk : k < 0) (n i lo hi : Int) (t : ByteArray) (w : World) :
 Calls Tryz.prog 141 #[.agg #[.int .i64 k, .int .i64 n, .int .i64 i, .string t, .int .i64 lo, .int .i64 hi]] w fun e w' => e = .returned (.bool (wfB ⟨k, n, i, t, ⟨lo, hi⟩⟩)) ∧ Below w.heap.size w w' := by
 by_cases ht : t.size = 0
 have e1 := gY ht
 rotate_left
 have e1 := lW ht
 iterate 2 focus
  go_enter Tryz.func141, Tryz.ntmps141
  go_wp2_with fail
  all_goals go_ret <;> exact ⟨ah (by rw [Bool.eq_iff_iff]; simp [wfB, iK, mE, ql, ht] <;> omega), bA _ _⟩
theorem Pn (k : Int) (hk : 20 < k) (n i lo hi : Int) (t : ByteArray) (w : World) :
 Calls Tryz.prog 141 #[.agg #[.int .i64 k, .int .i64 n, .int .i64 i, .string t, .int .i64 lo, .int .i64 hi]] w fun e w' => e = .returned (.bool (wfB ⟨k, n, i, t, ⟨lo, hi⟩⟩)) ∧ Below w.heap.size w w' := by
 by_cases ht : t.size = 0
 have e1 := gY ht
 rotate_left
 have e1 := lW ht
 iterate 2 focus
  go_enter Tryz.func141, Tryz.ntmps141
  go_wp2_with fail
  all_goals go_ret <;> exact ⟨ah (by rw [Bool.eq_iff_iff]; simp [wfB, iK, mE, ql, ht] <;> omega), bA _ _⟩
theorem fG (c : aQ) (x : Value) (w : World) (lo hi : Nat) (h : fA w lo hi aQ.ay x c) :
 Calls Tryz.prog 141 #[x] w fun e w' => e = .returned (.bool (wfB c)) ∧ Below w.heap.size w w' := by
 obtain rfl := aQ.form h
 obtain ⟨k, n, i, t, ⟨sl, sh⟩⟩ := c
 by_cases h0 : k < 0
 ·exact Pm k h0 n i sl sh t w
 by_cases h1 : 20 < k
 ·exact Pn k h1 n i sl sh t w
 by_cases k0 : k = 0
 ·subst k0; exact RJ n i sl sh t w
 by_cases k1 : k = 1
 ·subst k1; exact RL n i sl sh t w
 by_cases k2 : k = 2
 ·subst k2; exact RN n i sl sh t w
 by_cases k3 : k = 3
 ·subst k3; exact RO n i sl sh t w
 by_cases k4 : k = 4
 ·subst k4; exact RP n i sl sh t w
 by_cases k5 : k = 5
 ·subst k5; exact RQ n i sl sh t w
 by_cases k6 : k = 6
 ·subst k6; exact RS n i sl sh t w
 by_cases k7 : k = 7
 ·subst k7; exact RU n i sl sh t w
 by_cases k8 : k = 8
 ·subst k8; exact RV n i sl sh t w
 by_cases k9 : k = 9
 ·subst k9; exact RX n i sl sh t w
 by_cases k10 : k = 10
 ·subst k10; exact O7 n i sl sh t w
 by_cases k11 : k = 11
 ·subst k11; exact O8 n i sl sh t w
 by_cases k12 : k = 12
 ·subst k12; exact O9 n i sl sh t w
 by_cases k13 : k = 13
 ·subst k13; exact Pb n i sl sh t w
 by_cases k14 : k = 14
 ·subst k14; exact Pd n i sl sh t w
 by_cases k15 : k = 15
 ·subst k15; exact Pe n i sl sh t w
 by_cases k16 : k = 16
 ·subst k16; exact Pf n i sl sh t w
 by_cases k17 : k = 17
 ·subst k17; exact Pg n i sl sh t w
 by_cases k18 : k = 18
 ·subst k18; exact Ph n i sl sh t w
 by_cases k19 : k = 19
 ·subst k19; exact Pj n i sl sh t w
 obtain rfl : k = 20 := by omega
 exact Pk n i sl sh t w
end Go.Proofs.YtoddlphekcihgaaGreatDoor
