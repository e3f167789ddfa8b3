/- coreKids of the program. The slots' names of a routine: the test that IsValidProgram hands to slices.ContainsFunc. OperatorText and OperatorArity of the reference. OperatorArity of the reference. -/
import Derived.Test.YtjeomamdlmoghaaGreatDoorQ00
import Derived.Test.YtjeomamdlmoghaaGreatDoorQ03
import Derived.Test.YtjeomamdlmoghaaGreatDoorQ07
import Derived.Test.YtjeomamdlmoghaaGreatDoorQ10
set_option maxRecDepth 100000
set_option maxHeartbeats 8000000
set_option linter.unusedVariables false
set_option linter.unusedSimpArgs false
section
namespace Go.Proofs.YtjeomamdlmoghaaGreatDoor
open Go.RowKit
theorem impl_11 (x : Value) (c : CoreT) (w : World) (lo hi : Nat) (hr : CRep w lo hi x c) (ht : SpaceTab w) (h : c.kind = 11) : Calls Tryz.prog 78 #[x] w fun e w' => e = .returned (.tuple #[.int .i64 (kidsLo c.kind c.op), .int .i64 (kidsHi c.kind c.op)]) ∧ Below w.heap.size w w' := by
 obtain ⟨A, cap, rfl, -, -, -⟩ := hr.form
 have HV := Lib.hid (kids_op (op := c.op) h)
 have b11 : (c.kind == 11) = true := beq_iff_eq.2 h
 clear h hr
 have ht1 : SpaceTab (w.alloc (.cells #[.int .i64 c.kind, .int .i64 c.op, .int .i64 c.number, .int .i64 c.line, .string c.text, .slice A c.kids.length cap] 45)) := ht.later ((Below.refl _ _).alloc (Nat.le_refl _) _)
 go_enter Tryz.func78, Tryz.ntmps78
 go_wp2_with fail
 refine (impl_OperatorArity c.op _ ht1).mono ?_; rintro e w1 ⟨rfl, hb1⟩
 go_wp2_with fail
 go_ret2
 exact ⟨ret_intsK HV.out.1.symm HV.out.2.symm, ((Below.refl _ _).alloc (Nat.le_refl _) _).trans (hb1.mono (by simp))⟩
theorem impl_12 (x : Value) (c : CoreT) (w : World) (lo hi : Nat) (hr : CRep w lo hi x c) (ht : SpaceTab w) (h : c.kind = 12) : Calls Tryz.prog 78 #[x] w fun e w' => e = .returned (.tuple #[.int .i64 (kidsLo c.kind c.op), .int .i64 (kidsHi c.kind c.op)]) ∧ Below w.heap.size w w' := by
 obtain ⟨A, cap, rfl, -, -, -⟩ := hr.form
 have HV := Lib.hid (kids_12 (op := c.op) h)
 have b11 : (c.kind == 11) = false := beq_eq_false_iff_ne.2 (by omega)
 have b12 : (c.kind == 12) = true := beq_iff_eq.2 h
 clear h hr
 go_enter Tryz.func78, Tryz.ntmps78
 go_wp2_with fail
 go_ret2
 exact ⟨ret_intsK HV.out.1.symm HV.out.2.symm, (Below.refl _ _).alloc (Nat.le_refl _) _⟩
theorem impl_13 (x : Value) (c : CoreT) (w : World) (lo hi : Nat) (hr : CRep w lo hi x c) (ht : SpaceTab w) (h : c.kind = 13) : Calls Tryz.prog 78 #[x] w fun e w' => e = .returned (.tuple #[.int .i64 (kidsLo c.kind c.op), .int .i64 (kidsHi c.kind c.op)]) ∧ Below w.heap.size w w' := by
 obtain ⟨A, cap, rfl, -, -, -⟩ := hr.form
 have HV := Lib.hid (kids_13 (op := c.op) h)
 have b11 : (c.kind == 11) = false := beq_eq_false_iff_ne.2 (by omega)
 have b12 : (c.kind == 12) = false := beq_eq_false_iff_ne.2 (by omega)
 have b13 : (c.kind == 13) = true := beq_iff_eq.2 h
 clear h hr
 go_enter Tryz.func78, Tryz.ntmps78
 go_wp2_with fail
 go_ret2
 exact ⟨ret_intsK HV.out.1.symm HV.out.2.symm, (Below.refl _ _).alloc (Nat.le_refl _) _⟩
theorem impl_15 (x : Value) (c : CoreT) (w : World) (lo hi : Nat) (hr : CRep w lo hi x c) (ht : SpaceTab w) (h : c.kind = 15) : Calls Tryz.prog 78 #[x] w fun e w' => e = .returned (.tuple #[.int .i64 (kidsLo c.kind c.op), .int .i64 (kidsHi c.kind c.op)]) ∧ Below w.heap.size w w' := by
 obtain ⟨A, cap, rfl, -, -, -⟩ := hr.form
 have HV := Lib.hid (kids_15 (op := c.op) h)
 have b11 : (c.kind == 11) = false := beq_eq_false_iff_ne.2 (by omega)
 have b12 : (c.kind == 12) = false := beq_eq_false_iff_ne.2 (by omega)
 have b13 : (c.kind == 13) = false := beq_eq_false_iff_ne.2 (by omega)
 have b15 : (c.kind == 15) = true := beq_iff_eq.2 h
 clear h hr
 go_enter Tryz.func78, Tryz.ntmps78
 go_wp2_with fail
 go_ret2
 exact ⟨ret_intsK HV.out.1.symm HV.out.2.symm, (Below.refl _ _).alloc (Nat.le_refl _) _⟩
theorem impl_18 (x : Value) (c : CoreT) (w : World) (lo hi : Nat) (hr : CRep w lo hi x c) (ht : SpaceTab w) (h : c.kind = 18) : Calls Tryz.prog 78 #[x] w fun e w' => e = .returned (.tuple #[.int .i64 (kidsLo c.kind c.op), .int .i64 (kidsHi c.kind c.op)]) ∧ Below w.heap.size w w' := by
 obtain ⟨A, cap, rfl, -, -, -⟩ := hr.form
 have HV := Lib.hid (kids_18 (op := c.op) h)
 have b11 : (c.kind == 11) = false := beq_eq_false_iff_ne.2 (by omega)
 have b12 : (c.kind == 12) = false := beq_eq_false_iff_ne.2 (by omega)
 have b13 : (c.kind == 13) = false := beq_eq_false_iff_ne.2 (by omega)
 have b15 : (c.kind == 15) = false := beq_eq_false_iff_ne.2 (by omega)
 have b18 : (c.kind == 18) = true := beq_iff_eq.2 h
 clear h hr
 go_enter Tryz.func78, Tryz.ntmps78
 go_wp2_with fail
 go_ret2
 exact ⟨ret_intsK HV.out.1.symm HV.out.2.symm, (Below.refl _ _).alloc (Nat.le_refl _) _⟩
theorem impl_19 (x : Value) (c : CoreT) (w : World) (lo hi : Nat) (hr : CRep w lo hi x c) (ht : SpaceTab w) (h : c.kind = 19) : Calls Tryz.prog 78 #[x] w fun e w' => e = .returned (.tuple #[.int .i64 (kidsLo c.kind c.op), .int .i64 (kidsHi c.kind c.op)]) ∧ Below w.heap.size w w' := by
 obtain ⟨A, cap, rfl, -, -, -⟩ := hr.form
 have HV := Lib.hid (kids_19 (op := c.op) h)
 have b11 : (c.kind == 11) = false := beq_eq_false_iff_ne.2 (by omega)
 have b12 : (c.kind == 12) = false := beq_eq_false_iff_ne.2 (by omega)
 have b13 : (c.kind == 13) = false := beq_eq_false_iff_ne.2 (by omega)
 have b15 : (c.kind == 15) = false := beq_eq_false_iff_ne.2 (by omega)
 have b18 : (c.kind == 18) = false := beq_eq_false_iff_ne.2 (by omega)
 have b19 : (c.kind == 19) = true := beq_iff_eq.2 h
 clear h hr
 go_enter Tryz.func78, Tryz.ntmps78
 go_wp2_with fail
 go_ret2
 exact ⟨ret_intsK HV.out.1.symm HV.out.2.symm, (Below.refl _ _).alloc (Nat.le_refl _) _⟩
theorem impl_22 (x : Value) (c : CoreT) (w : World) (lo hi : Nat) (hr : CRep w lo hi x c) (ht : SpaceTab w) (h : c.kind = 22) : Calls Tryz.prog 78 #[x] w fun e w' => e = .returned (.tuple #[.int .i64 (kidsLo c.kind c.op), .int .i64 (kidsHi c.kind c.op)]) ∧ Below w.heap.size w w' := by
 obtain ⟨A, cap, rfl, -, -, -⟩ := hr.form
 have HV := Lib.hid (kids_22 (op := c.op) h)
 have b11 : (c.kind == 11) = false := beq_eq_false_iff_ne.2 (by omega)
 have b12 : (c.kind == 12) = false := beq_eq_false_iff_ne.2 (by omega)
 have b13 : (c.kind == 13) = false := beq_eq_false_iff_ne.2 (by omega)
 have b15 : (c.kind == 15) = false := beq_eq_false_iff_ne.2 (by omega)
 have b18 : (c.kind == 18) = false := beq_eq_false_iff_ne.2 (by omega)
 have b19 : (c.kind == 19) = false := beq_eq_false_iff_ne.2 (by omega)
 have b22 : (c.kind == 22) = true := beq_iff_eq.2 h
 clear h hr
 go_enter Tryz.func78, Tryz.ntmps78
 go_wp2_with fail
 go_ret2
 exact ⟨ret_intsK HV.out.1.symm HV.out.2.symm, (Below.refl _ _).alloc (Nat.le_refl _) _⟩
theorem impl_25 (x : Value) (c : CoreT) (w : World) (lo hi : Nat) (hr : CRep w lo hi x c) (ht : SpaceTab w) (h : c.kind = 25) : Calls Tryz.prog 78 #[x] w fun e w' => e = .returned (.tuple #[.int .i64 (kidsLo c.kind c.op), .int .i64 (kidsHi c.kind c.op)]) ∧ Below w.heap.size w w' := by
 obtain ⟨A, cap, rfl, -, -, -⟩ := hr.form
 have HV := Lib.hid (kids_25 (op := c.op) h)
 have b11 : (c.kind == 11) = false := beq_eq_false_iff_ne.2 (by omega)
 have b12 : (c.kind == 12) = false := beq_eq_false_iff_ne.2 (by omega)
 have b13 : (c.kind == 13) = false := beq_eq_false_iff_ne.2 (by omega)
 have b15 : (c.kind == 15) = false := beq_eq_false_iff_ne.2 (by omega)
 have b18 : (c.kind == 18) = false := beq_eq_false_iff_ne.2 (by omega)
 have b19 : (c.kind == 19) = false := beq_eq_false_iff_ne.2 (by omega)
 have b22 : (c.kind == 22) = false := beq_eq_false_iff_ne.2 (by omega)
 have b25 : (c.kind == 25) = true := beq_iff_eq.2 h
 clear h hr
 go_enter Tryz.func78, Tryz.ntmps78
 go_wp2_with fail
 go_ret2
 exact ⟨ret_intsK HV.out.1.symm HV.out.2.symm, (Below.refl _ _).alloc (Nat.le_refl _) _⟩
theorem impl_14 (x : Value) (c : CoreT) (w : World) (lo hi : Nat) (hr : CRep w lo hi x c) (ht : SpaceTab w) (h : c.kind = 14) : Calls Tryz.prog 78 #[x] w fun e w' => e = .returned (.tuple #[.int .i64 (kidsLo c.kind c.op), .int .i64 (kidsHi c.kind c.op)]) ∧ Below w.heap.size w w' := by
 obtain ⟨A, cap, rfl, -, -, -⟩ := hr.form
 have HV := Lib.hid (kids_14 (op := c.op) h)
 have b11 : (c.kind == 11) = false := beq_eq_false_iff_ne.2 (by omega)
 have b12 : (c.kind == 12) = false := beq_eq_false_iff_ne.2 (by omega)
 have b13 : (c.kind == 13) = false := beq_eq_false_iff_ne.2 (by omega)
 have b15 : (c.kind == 15) = false := beq_eq_false_iff_ne.2 (by omega)
 have b18 : (c.kind == 18) = false := beq_eq_false_iff_ne.2 (by omega)
 have b19 : (c.kind == 19) = false := beq_eq_false_iff_ne.2 (by omega)
 have b22 : (c.kind == 22) = false := beq_eq_false_iff_ne.2 (by omega)
 have b25 : (c.kind == 25) = false := beq_eq_false_iff_ne.2 (by omega)
 have b14 : (c.kind == 14) = true := beq_iff_eq.2 h
 clear h hr
 go_enter Tryz.func78, Tryz.ntmps78
 go_wp2_with fail
 go_ret2
 exact ⟨ret_intsK HV.out.1.symm HV.out.2.symm, (Below.refl _ _).alloc (Nat.le_refl _) _⟩
theorem impl_20 (x : Value) (c : CoreT) (w : World) (lo hi : Nat) (hr : CRep w lo hi x c) (ht : SpaceTab w) (h : c.kind = 20) : Calls Tryz.prog 78 #[x] w fun e w' => e = .returned (.tuple #[.int .i64 (kidsLo c.kind c.op), .int .i64 (kidsHi c.kind c.op)]) ∧ Below w.heap.size w w' := by
 obtain ⟨A, cap, rfl, -, -, -⟩ := hr.form
 have HV := Lib.hid (kids_20 (op := c.op) h)
 have b11 : (c.kind == 11) = false := beq_eq_false_iff_ne.2 (by omega)
 have b12 : (c.kind == 12) = false := beq_eq_false_iff_ne.2 (by omega)
 have b13 : (c.kind == 13) = false := beq_eq_false_iff_ne.2 (by omega)
 have b15 : (c.kind == 15) = false := beq_eq_false_iff_ne.2 (by omega)
 have b18 : (c.kind == 18) = false := beq_eq_false_iff_ne.2 (by omega)
 have b19 : (c.kind == 19) = false := beq_eq_false_iff_ne.2 (by omega)
 have b22 : (c.kind == 22) = false := beq_eq_false_iff_ne.2 (by omega)
 have b25 : (c.kind == 25) = false := beq_eq_false_iff_ne.2 (by omega)
 have b14 : (c.kind == 14) = false := beq_eq_false_iff_ne.2 (by omega)
 have b20 : (c.kind == 20) = true := beq_iff_eq.2 h
 clear h hr
 go_enter Tryz.func78, Tryz.ntmps78
 go_wp2_with fail
 go_ret2
 exact ⟨ret_intsK HV.out.1.symm HV.out.2.symm, (Below.refl _ _).alloc (Nat.le_refl _) _⟩
theorem impl_23 (x : Value) (c : CoreT) (w : World) (lo hi : Nat) (hr : CRep w lo hi x c) (ht : SpaceTab w) (h : c.kind = 23) : Calls Tryz.prog 78 #[x] w fun e w' => e = .returned (.tuple #[.int .i64 (kidsLo c.kind c.op), .int .i64 (kidsHi c.kind c.op)]) ∧ Below w.heap.size w w' := by
 obtain ⟨A, cap, rfl, -, -, -⟩ := hr.form
 have HV := Lib.hid (kids_23 (op := c.op) h)
 have b11 : (c.kind == 11) = false := beq_eq_false_iff_ne.2 (by omega)
 have b12 : (c.kind == 12) = false := beq_eq_false_iff_ne.2 (by omega)
 have b13 : (c.kind == 13) = false := beq_eq_false_iff_ne.2 (by omega)
 have b15 : (c.kind == 15) = false := beq_eq_false_iff_ne.2 (by omega)
 have b18 : (c.kind == 18) = false := beq_eq_false_iff_ne.2 (by omega)
 have b19 : (c.kind == 19) = false := beq_eq_false_iff_ne.2 (by omega)
 have b22 : (c.kind == 22) = false := beq_eq_false_iff_ne.2 (by omega)
 have b25 : (c.kind == 25) = false := beq_eq_false_iff_ne.2 (by omega)
 have b14 : (c.kind == 14) = false := beq_eq_false_iff_ne.2 (by omega)
 have b20 : (c.kind == 20) = false := beq_eq_false_iff_ne.2 (by omega)
 have b23 : (c.kind == 23) = true := beq_iff_eq.2 h
 clear h hr
 go_enter Tryz.func78, Tryz.ntmps78
 go_wp2_with fail
 go_ret2
 exact ⟨ret_intsK HV.out.1.symm HV.out.2.symm, (Below.refl _ _).alloc (Nat.le_refl _) _⟩
theorem impl_26 (x : Value) (c : CoreT) (w : World) (lo hi : Nat) (hr : CRep w lo hi x c) (ht : SpaceTab w) (h : c.kind = 26) : Calls Tryz.prog 78 #[x] w fun e w' => e = .returned (.tuple #[.int .i64 (kidsLo c.kind c.op), .int .i64 (kidsHi c.kind c.op)]) ∧ Below w.heap.size w w' := by
 obtain ⟨A, cap, rfl, -, -, -⟩ := hr.form
 have HV := Lib.hid (kids_26 (op := c.op) h)
 have b11 : (c.kind == 11) = false := beq_eq_false_iff_ne.2 (by omega)
 have b12 : (c.kind == 12) = false := beq_eq_false_iff_ne.2 (by omega)
 have b13 : (c.kind == 13) = false := beq_eq_false_iff_ne.2 (by omega)
 have b15 : (c.kind == 15) = false := beq_eq_false_iff_ne.2 (by omega)
 have b18 : (c.kind == 18) = false := beq_eq_false_iff_ne.2 (by omega)
 have b19 : (c.kind == 19) = false := beq_eq_false_iff_ne.2 (by omega)
 have b22 : (c.kind == 22) = false := beq_eq_false_iff_ne.2 (by omega)
 have b25 : (c.kind == 25) = false := beq_eq_false_iff_ne.2 (by omega)
 have b14 : (c.kind == 14) = false := beq_eq_false_iff_ne.2 (by omega)
 have b20 : (c.kind == 20) = false := beq_eq_false_iff_ne.2 (by omega)
 have b23 : (c.kind == 23) = false := beq_eq_false_iff_ne.2 (by omega)
 have b26 : (c.kind == 26) = true := beq_iff_eq.2 h
 clear h hr
 go_enter Tryz.func78, Tryz.ntmps78
 go_wp2_with fail
 go_ret2
 exact ⟨ret_intsK HV.out.1.symm HV.out.2.symm, (Below.refl _ _).alloc (Nat.le_refl _) _⟩
theorem impl_27 (x : Value) (c : CoreT) (w : World) (lo hi : Nat) (hr : CRep w lo hi x c) (ht : SpaceTab w) (h : c.kind = 27) : Calls Tryz.prog 78 #[x] w fun e w' => e = .returned (.tuple #[.int .i64 (kidsLo c.kind c.op), .int .i64 (kidsHi c.kind c.op)]) ∧ Below w.heap.size w w' := by
 obtain ⟨A, cap, rfl, -, -, -⟩ := hr.form
 have HV := Lib.hid (kids_27 (op := c.op) h)
 have b11 : (c.kind == 11) = false := beq_eq_false_iff_ne.2 (by omega)
 have b12 : (c.kind == 12) = false := beq_eq_false_iff_ne.2 (by omega)
 have b13 : (c.kind == 13) = false := beq_eq_false_iff_ne.2 (by omega)
 have b15 : (c.kind == 15) = false := beq_eq_false_iff_ne.2 (by omega)
 have b18 : (c.kind == 18) = false := beq_eq_false_iff_ne.2 (by omega)
 have b19 : (c.kind == 19) = false := beq_eq_false_iff_ne.2 (by omega)
 have b22 : (c.kind == 22) = false := beq_eq_false_iff_ne.2 (by omega)
 have b25 : (c.kind == 25) = false := beq_eq_false_iff_ne.2 (by omega)
 have b14 : (c.kind == 14) = false := beq_eq_false_iff_ne.2 (by omega)
 have b20 : (c.kind == 20) = false := beq_eq_false_iff_ne.2 (by omega)
 have b23 : (c.kind == 23) = false := beq_eq_false_iff_ne.2 (by omega)
 have b26 : (c.kind == 26) = false := beq_eq_false_iff_ne.2 (by omega)
 have b27 : (c.kind == 27) = true := beq_iff_eq.2 h
 clear h hr
 go_enter Tryz.func78, Tryz.ntmps78
 go_wp2_with fail
 go_ret2
 exact ⟨ret_intsK HV.out.1.symm HV.out.2.symm, (Below.refl _ _).alloc (Nat.le_refl _) _⟩
theorem impl_16 (x : Value) (c : CoreT) (w : World) (lo hi : Nat) (hr : CRep w lo hi x c) (ht : SpaceTab w) (h : c.kind = 16) : Calls Tryz.prog 78 #[x] w fun e w' => e = .returned (.tuple #[.int .i64 (kidsLo c.kind c.op), .int .i64 (kidsHi c.kind c.op)]) ∧ Below w.heap.size w w' := by
 obtain ⟨A, cap, rfl, -, -, -⟩ := hr.form
 have HV := Lib.hid (kids_16 (op := c.op) h)
 have b11 : (c.kind == 11) = false := beq_eq_false_iff_ne.2 (by omega)
 have b12 : (c.kind == 12) = false := beq_eq_false_iff_ne.2 (by omega)
 have b13 : (c.kind == 13) = false := beq_eq_false_iff_ne.2 (by omega)
 have b15 : (c.kind == 15) = false := beq_eq_false_iff_ne.2 (by omega)
 have b18 : (c.kind == 18) = false := beq_eq_false_iff_ne.2 (by omega)
 have b19 : (c.kind == 19) = false := beq_eq_false_iff_ne.2 (by omega)
 have b22 : (c.kind == 22) = false := beq_eq_false_iff_ne.2 (by omega)
 have b25 : (c.kind == 25) = false := beq_eq_false_iff_ne.2 (by omega)
 have b14 : (c.kind == 14) = false := beq_eq_false_iff_ne.2 (by omega)
 have b20 : (c.kind == 20) = false := beq_eq_false_iff_ne.2 (by omega)
 have b23 : (c.kind == 23) = false := beq_eq_false_iff_ne.2 (by omega)
 have b26 : (c.kind == 26) = false := beq_eq_false_iff_ne.2 (by omega)
 have b27 : (c.kind == 27) = false := beq_eq_false_iff_ne.2 (by omega)
 have b16 : (c.kind == 16) = true := beq_iff_eq.2 h
 clear h hr
 go_enter Tryz.func78, Tryz.ntmps78
 go_wp2_with fail
 go_ret2
 exact ⟨ret_intsK HV.out.1.symm HV.out.2.symm, (Below.refl _ _).alloc (Nat.le_refl _) _⟩
theorem impl_17 (x : Value) (c : CoreT) (w : World) (lo hi : Nat) (hr : CRep w lo hi x c) (ht : SpaceTab w) (h : c.kind = 17) : Calls Tryz.prog 78 #[x] w fun e w' => e = .returned (.tuple #[.int .i64 (kidsLo c.kind c.op), .int .i64 (kidsHi c.kind c.op)]) ∧ Below w.heap.size w w' := by
 obtain ⟨A, cap, rfl, -, -, -⟩ := hr.form
 have HV := Lib.hid (kids_17 (op := c.op) h)
 have b11 : (c.kind == 11) = false := beq_eq_false_iff_ne.2 (by omega)
 have b12 : (c.kind == 12) = false := beq_eq_false_iff_ne.2 (by omega)
 have b13 : (c.kind == 13) = false := beq_eq_false_iff_ne.2 (by omega)
 have b15 : (c.kind == 15) = false := beq_eq_false_iff_ne.2 (by omega)
 have b18 : (c.kind == 18) = false := beq_eq_false_iff_ne.2 (by omega)
 have b19 : (c.kind == 19) = false := beq_eq_false_iff_ne.2 (by omega)
 have b22 : (c.kind == 22) = false := beq_eq_false_iff_ne.2 (by omega)
 have b25 : (c.kind == 25) = false := beq_eq_false_iff_ne.2 (by omega)
 have b14 : (c.kind == 14) = false := beq_eq_false_iff_ne.2 (by omega)
 have b20 : (c.kind == 20) = false := beq_eq_false_iff_ne.2 (by omega)
 have b23 : (c.kind == 23) = false := beq_eq_false_iff_ne.2 (by omega)
 have b26 : (c.kind == 26) = false := beq_eq_false_iff_ne.2 (by omega)
 have b27 : (c.kind == 27) = false := beq_eq_false_iff_ne.2 (by omega)
 have b16 : (c.kind == 16) = false := beq_eq_false_iff_ne.2 (by omega)
 have b17 : (c.kind == 17) = true := beq_iff_eq.2 h
 clear h hr
 go_enter Tryz.func78, Tryz.ntmps78
 go_wp2_with fail
 go_ret2
 exact ⟨ret_intsK HV.out.1.symm HV.out.2.symm, (Below.refl _ _).alloc (Nat.le_refl _) _⟩
theorem impl_no (x : Value) (c : CoreT) (w : World) (lo hi : Nat) (hr : CRep w lo hi x c) (h : ¬ (c.kind = 11 ∨ c.kind = 12 ∨ c.kind = 13 ∨ c.kind = 14 ∨ c.kind = 15 ∨ c.kind = 16 ∨ c.kind = 17 ∨ c.kind = 18 ∨ c.kind = 19 ∨ c.kind = 20 ∨ c.kind = 22 ∨ c.kind = 23 ∨ c.kind = 25 ∨ c.kind = 26 ∨ c.kind = 27)) : Calls Tryz.prog 78 #[x] w fun e w' => e = .returned (.tuple #[.int .i64 (kidsLo c.kind c.op), .int .i64 (kidsHi c.kind c.op)]) ∧ Below w.heap.size w w' := by
 obtain ⟨A, cap, rfl, -, -, -⟩ := hr.form
 have HV := Lib.hid (kids_none (op := c.op) h)
 simp only [not_or] at h
 obtain ⟨h11, h12, h13, h14, h15, h16, h17, h18, h19, h20, h22, h23, h25, h26, h27⟩ := h
 have b11 : (c.kind == 11) = false := beq_eq_false_iff_ne.2 (h11)
 have b12 : (c.kind == 12) = false := beq_eq_false_iff_ne.2 (h12)
 have b13 : (c.kind == 13) = false := beq_eq_false_iff_ne.2 (h13)
 have b15 : (c.kind == 15) = false := beq_eq_false_iff_ne.2 (h15)
 have b18 : (c.kind == 18) = false := beq_eq_false_iff_ne.2 (h18)
 have b19 : (c.kind == 19) = false := beq_eq_false_iff_ne.2 (h19)
 have b22 : (c.kind == 22) = false := beq_eq_false_iff_ne.2 (h22)
 have b25 : (c.kind == 25) = false := beq_eq_false_iff_ne.2 (h25)
 have b14 : (c.kind == 14) = false := beq_eq_false_iff_ne.2 (h14)
 have b20 : (c.kind == 20) = false := beq_eq_false_iff_ne.2 (h20)
 have b23 : (c.kind == 23) = false := beq_eq_false_iff_ne.2 (h23)
 have b26 : (c.kind == 26) = false := beq_eq_false_iff_ne.2 (h26)
 have b27 : (c.kind == 27) = false := beq_eq_false_iff_ne.2 (h27)
 have b16 : (c.kind == 16) = false := beq_eq_false_iff_ne.2 (h16)
 have b17 : (c.kind == 17) = false := beq_eq_false_iff_ne.2 (h17)
 clear h11 h12 h13 h14 h15 h16 h17 h18 h19 h20 h22 h23 h25 h26 h27 hr
 go_enter Tryz.func78, Tryz.ntmps78
 go_wp2_with fail
 go_ret2
 exact ⟨ret_intsK HV.out.1.symm HV.out.2.symm, (Below.refl _ _).alloc (Nat.le_refl _) _⟩
theorem impl_kids (x : Value) (c : CoreT) (w : World) (lo hi : Nat) (hr : CRep w lo hi x c) (ht : SpaceTab w) : Calls Tryz.prog 78 #[x] w fun e w' => e = .returned (.tuple #[.int .i64 (kidsLo c.kind c.op), .int .i64 (kidsHi c.kind c.op)]) ∧ Below w.heap.size w w' := by
 by_cases h11 : c.kind = 11
 ·exact impl_11 x c w lo hi hr ht h11
 by_cases h12 : c.kind = 12
 ·exact impl_12 x c w lo hi hr ht h12
 by_cases h13 : c.kind = 13
 ·exact impl_13 x c w lo hi hr ht h13
 by_cases h15 : c.kind = 15
 ·exact impl_15 x c w lo hi hr ht h15
 by_cases h18 : c.kind = 18
 ·exact impl_18 x c w lo hi hr ht h18
 by_cases h19 : c.kind = 19
 ·exact impl_19 x c w lo hi hr ht h19
 by_cases h22 : c.kind = 22
 ·exact impl_22 x c w lo hi hr ht h22
 by_cases h25 : c.kind = 25
 ·exact impl_25 x c w lo hi hr ht h25
 by_cases h14 : c.kind = 14
 ·exact impl_14 x c w lo hi hr ht h14
 by_cases h20 : c.kind = 20
 ·exact impl_20 x c w lo hi hr ht h20
 by_cases h23 : c.kind = 23
 ·exact impl_23 x c w lo hi hr ht h23
 by_cases h26 : c.kind = 26
 ·exact impl_26 x c w lo hi hr ht h26
 by_cases h27 : c.kind = 27
 ·exact impl_27 x c w lo hi hr ht h27
 by_cases h16 : c.kind = 16
 ·exact impl_16 x c w lo hi hr ht h16
 by_cases h17 : c.kind = 17
 ·exact impl_17 x c w lo hi hr ht h17
 exact impl_no x c w lo hi hr (by rintro (h | h | h | h | h | h | h | h | h | h | h | h | h | h | h) <;> contradiction)
end Go.Proofs.YtjeomamdlmoghaaGreatDoor
end
section
namespace Go.Proofs.YtjeomamdlmoghaaGreatDoor
open Go.RowKit
theorem impl_slotBad (s : ByteArray) (w : World) (ht : SpaceTab w) : Calls Tryz.prog 48 #[.string s] w fun e w' => e = .returned (.bool (!slotOk s)) ∧ Below w.heap.size w w' := by
 have HSO : Hid (slotOk s = (s.toList.isEmpty || isNameB s)) := rfl
 have HC := Lib.hid (impl_IsName s w ht)
 cases e1 : s.toList.isEmpty with
 | true =>
   have h1 : s.toList = [] := by simpa using e1
   have HV : Hid (slotOk s = true) := by show _ = _; rw [HSO.out, e1]; rfl
   clear e1
   go_enter Tryz.func48, Tryz.ntmps48
   go_wp2_with fail
   go_ret
   exact ⟨ret_bool (by rw [HV.out]; rfl), Below.refl _ _⟩
 | false =>
   have h1 : ¬ s.toList = [] := by intro h; rw [h] at e1; cases e1
   have HV : Hid (slotOk s = isNameB s) := by show _ = _; rw [HSO.out, e1]; rfl
   clear e1
   go_enter Tryz.func48, Tryz.ntmps48
   go_wp2_with fail
   refine HC.out.mono ?_; rintro e w1 ⟨rfl, hb⟩
   go_wp2_with fail
   go_ret
   exact ⟨ret_bool (by rw [HV.out]; simp [h1]), hb⟩
theorem impl_slotIndex (l : List ByteArray) (v : Value) (w : World) (lo hi : Nat) (h : LRep w lo hi 1 strDats v l) (hhi : hi ≤ w.heap.size) (hst : SpaceTab w) :
 Calls Tryz.prog 77 #[v, .func (.func 48) #[] #[]] w fun e w' => (∃ i : Int, e = .returned (.int .i64 i) ∧ Hid (decide (0 ≤ i) = !l.all slotOk)) ∧ Below w.heap.size w w' := by
 obtain ⟨A, cap, rfl, hc1, hc2⟩ := h.shape
 unfold maxLen at hc2
 go_enter Tryz.func77, Tryz.ntmps77
 go_wp2_with fail
 go_loopw [5, 8] (fun _ i wr => ∃ k : Nat, k ≤ l.length ∧ i = .int .i64 k ∧ Hid ((l.take k).all slotOk = true) ∧ Below w.heap.size w wr) (fun _ i _ => l.length - (intOf i).toNat)
 case atStart => exact ⟨0, Nat.zero_le _, rfl, by simp [Hid], Below.refl _ _⟩
 case round =>
  obtain ⟨k, hk, rfl, hgo, hb⟩ := hrel
  by_cases hlt : k < l.length
  ·obtain ⟨s, hs⟩ : ∃ s, l[k]? = some s := ⟨_, List.getElem?_eq_getElem hlt⟩
   obtain ⟨g, off, rfl, hg1, hg2, t0⟩ := LRep.text (h.below hb hhi) hs
   have HS := Lib.hid (all_snoc (q := slotOk) hs)
   have HM : Hid (slotOk s = false → l.all slotOk = false) := all_no (List.mem_of_getElem? hs)
   have HC := Lib.hid (impl_slotBad s wr (hst.below hb hst.2))
   clear hs
   cases hv : slotOk s with
   | false =>
     have HV : Hid (l.all slotOk = false) := HM.out hv
     rw [hv] at HC
     clear hv hgo
     go_wp2_with (go_at_call 48; refine HC.out.mono ?_; rintro e w1 ⟨rfl, hb1⟩)
     go_ret
     exact ⟨⟨_, rfl, by rw [HV.out]; simp [Hid]⟩, hb.trans (hb1.mono hb.size)⟩
   | true =>
     have HG : Hid ((l.take (k + 1)).all slotOk = true) := by show _ = _; rw [HS.out, hgo.out, hv]; rfl
     rw [hv] at HC
     clear hv hgo
     go_wp2_with (go_at_call 48; refine HC.out.mono ?_; rintro e w1 ⟨rfl, hb1⟩)
     go_roundw
     case rel => exact ⟨k + 1, by omega, by go_num, HG, hb.trans (hb1.mono hb.size)⟩
     case measure => simp [intOf]; omega
  ·obtain rfl : k = l.length := by omega
   rw [List.take_length] at hgo
   go_wp2_with fail
   go_ret
   exact ⟨⟨_, rfl, by rw [hgo.out]; simp [Hid]⟩, hb⟩
theorem impl_slotsBad (l : List ByteArray) (v : Value) (w : World) (lo hi : Nat) (h : LRep w lo hi 1 strDats v l) (hhi : hi ≤ w.heap.size) (hst : SpaceTab w) :
 Calls Tryz.prog 47 #[v, .func (.func 48) #[] #[]] w fun e w' => e = .returned (.bool (!l.all slotOk)) ∧ Below w.heap.size w w' := by
 have HC := Lib.hid (impl_slotIndex l v w lo hi h hhi hst)
 go_enter Tryz.func47, Tryz.ntmps47
 go_wp2_with fail
 refine HC.out.mono ?_; rintro e w1 ⟨⟨i, rfl, hi⟩, hb⟩
 go_wp2_with fail
 go_ret
 exact ⟨ret_bool (by rw [← hi.out]), hb⟩
end Go.Proofs.YtjeomamdlmoghaaGreatDoor
end
section
namespace Go.Proofs.YtjeomamdlmoghaaGreatDoor
open Go.RowKit
def litsIn : Code → List ByteArray
 | .seq a b => litsIn a ++ litsIn b
 | .region _ ops _ => ops.toList.flatMap fun o => match o.op with
   | .buildSlice _ _ ps => ps.toList.map fun p => match p.2 with
     | .const (.string s) => s
     | _ => ByteArray.empty
   | _ => []
 | .block _ c => litsIn c
 | .scope c => litsIn c
 | _ => []
noncomputable def specOps : List ByteArray := match Tryz.f139.body with
 | some c => litsIn c
 | none => []
noncomputable def specBin : List ByteArray := match Tryz.f140.body with
 | some c => litsIn c
 | none => []
theorem specOps_len : specOps.length = 11 := by kernel_rfl
theorem specBin_len : specBin.length = 44 := by kernel_rfl
theorem specOps_ok : ((List.range 11).all fun j => !(specOps.getD j ByteArray.empty).data.toList.isEmpty && decide ((specOps.getD j ByteArray.empty).size ≤ 20)) = true := by decide +kernel
theorem specBin_ok : ((List.range 44).all fun j => ((specBin.getD j ByteArray.empty).data.toList.isEmpty == !opOk ((j : Int) + 20)) && decide ((specBin.getD j ByteArray.empty).size ≤ 20)) = true := by decide +kernel
theorem spec_l10Ops (w : World) : Calls Tryz.prog 139 #[] w fun e w' => e = .returned (.slice (some ⟨w.heap.size, 0, none⟩) 11 11) ∧ Blk w' w.heap.size 9 (specOps.map Value.string).toArray ∧ Below w.heap.size w w' := by
 have HB : ∀ c : Array Value, c = (specOps.map Value.string).toArray → Blk (w.alloc (.cells c 9)) w.heap.size 9 (specOps.map Value.string).toArray := fun c h => h ▸ Blk.new w _ _
 have H := Lib.hid HB
 clear HB
 go_enter Tryz.func139, Tryz.ntmps139
 go_wp2_with fail
 go_ret
 exact ⟨rfl, H.out _ (by kernel_rfl), (Below.refl _ _).alloc (Nat.le_refl _) _⟩
theorem spec_l10Binary (w : World) : Calls Tryz.prog 140 #[] w fun e w' => e = .returned (.slice (some ⟨w.heap.size, 0, none⟩) 44 44) ∧ Blk w' w.heap.size 9 (specBin.map Value.string).toArray ∧ Below w.heap.size w w' := by
 have HB : ∀ c : Array Value, c = (specBin.map Value.string).toArray → Blk (w.alloc (.cells c 9)) w.heap.size 9 (specBin.map Value.string).toArray := fun c h => h ▸ Blk.new w _ _
 have H := Lib.hid HB
 clear HB
 go_enter Tryz.func140, Tryz.ntmps140
 go_wp2_with fail
 go_ret
 exact ⟨rfl, H.out _ (by kernel_rfl), (Below.refl _ _).alloc (Nat.le_refl _) _⟩
theorem specBin_at (op : Int) (h1 : 20 ≤ op) (h2 : op < 64) : (specBin.getD (op - 20).toNat ByteArray.empty).toList.isEmpty = !opOk op ∧ (specBin.getD (op - 20).toNat ByteArray.empty).size ≤ 20 := by
 have := List.all_eq_true.1 specBin_ok (op - 20).toNat (List.mem_range.2 (by omega))
 simp only [Bool.and_eq_true, beq_iff_eq, decide_eq_true_eq] at this
 rw [show (((op - 20).toNat : Nat) : Int) + 20 = op by omega] at this
 exact ⟨by rw [ByteArray.toList_eq]; exact this.1, this.2⟩
theorem spec_opText0 (op : Int) (w : World) (h1 : 1 ≤ op) (h2 : op ≤ 11) : Calls Tryz.prog 117 #[.int .i64 op] w (OpText op w) := by
 have HO := Lib.hid (ok_yes (op := op) (by omega))
 obtain ⟨j, rfl⟩ : ∃ j : Nat, op = (j : Int) + 1 := ⟨(op - 1).toNat, by omega⟩
 have hall := List.all_eq_true.1 specOps_ok j (List.mem_range.2 (by omega))
 simp only [Bool.and_eq_true, Bool.not_eq_true', decide_eq_true_eq] at hall
 have HM := Lib.hid hall
 have hj : j < 11 := by omega
 clear hall
 go_enter Tryz.func117, Tryz.ntmps117
 go_wp2_with fail
 refine (spec_l10Ops _).mono ?_; rintro e w1 ⟨rfl, hB, hb⟩
 have hc := text_at hB j (by rw [specOps_len]; exact hj)
 clear hB
 generalize specOps.getD j ByteArray.empty = t at *
 go_wp2_with fail
 go_ret
 exact ⟨_, rfl, by rw [HO.out, ByteArray.toList_eq]; exact HM.out.1, by have := HM.out.2; omega, hb⟩
theorem spec_opText1 (op : Int) (w : World) (h1 : 20 ≤ op) (h2 : op < 64) : Calls Tryz.prog 117 #[.int .i64 op] w (OpText op w) := by
 have HM := Lib.hid (specBin_at op h1 h2)
 have hj : (op - 20).toNat < 44 := by omega
 go_enter Tryz.func117, Tryz.ntmps117
 go_wp2_with fail
 refine (spec_l10Binary _).mono ?_; rintro e w1 ⟨rfl, hB, hb⟩
 have hc := text_at hB (op - 20).toNat (by rw [specBin_len]; exact hj)
 clear hB
 generalize specBin.getD (op - 20).toNat ByteArray.empty = t at *
 go_wp2_with fail
 go_ret
 exact ⟨_, rfl, HM.out.1, by have := HM.out.2; omega, hb⟩
theorem spec_opText_70 (w : World) : Calls Tryz.prog 117 #[.int .i64 70] w (OpText 70 w) := by
 go_enter Tryz.func117, Tryz.ntmps117
 go_wp2_with fail
 go_ret
 exact ⟨_, rfl, by decide +kernel, by decide, Below.refl _ _⟩
theorem spec_opText_71 (w : World) : Calls Tryz.prog 117 #[.int .i64 71] w (OpText 71 w) := by
 go_enter Tryz.func117, Tryz.ntmps117
 go_wp2_with fail
 go_ret
 exact ⟨_, rfl, by decide +kernel, by decide, Below.refl _ _⟩
theorem spec_opText_72 (w : World) : Calls Tryz.prog 117 #[.int .i64 72] w (OpText 72 w) := by
 go_enter Tryz.func117, Tryz.ntmps117
 go_wp2_with fail
 go_ret
 exact ⟨_, rfl, by decide +kernel, by decide, Below.refl _ _⟩
theorem spec_opText_73 (w : World) : Calls Tryz.prog 117 #[.int .i64 73] w (OpText 73 w) := by
 go_enter Tryz.func117, Tryz.ntmps117
 go_wp2_with fail
 go_ret
 exact ⟨_, rfl, by decide +kernel, by decide, Below.refl _ _⟩
theorem spec_opText_74 (w : World) : Calls Tryz.prog 117 #[.int .i64 74] w (OpText 74 w) := by
 go_enter Tryz.func117, Tryz.ntmps117
 go_wp2_with fail
 go_ret
 exact ⟨_, rfl, by decide +kernel, by decide, Below.refl _ _⟩
theorem spec_opText_75 (w : World) : Calls Tryz.prog 117 #[.int .i64 75] w (OpText 75 w) := by
 go_enter Tryz.func117, Tryz.ntmps117
 go_wp2_with fail
 go_ret
 exact ⟨_, rfl, by decide +kernel, by decide, Below.refl _ _⟩
theorem spec_opText_76 (w : World) : Calls Tryz.prog 117 #[.int .i64 76] w (OpText 76 w) := by
 go_enter Tryz.func117, Tryz.ntmps117
 go_wp2_with fail
 go_ret
 exact ⟨_, rfl, by decide +kernel, by decide, Below.refl _ _⟩
theorem spec_opText_77 (w : World) : Calls Tryz.prog 117 #[.int .i64 77] w (OpText 77 w) := by
 go_enter Tryz.func117, Tryz.ntmps117
 go_wp2_with fail
 go_ret
 exact ⟨_, rfl, by decide +kernel, by decide, Below.refl _ _⟩
theorem spec_opText_78 (w : World) : Calls Tryz.prog 117 #[.int .i64 78] w (OpText 78 w) := by
 go_enter Tryz.func117, Tryz.ntmps117
 go_wp2_with fail
 go_ret
 exact ⟨_, rfl, by decide +kernel, by decide, Below.refl _ _⟩
theorem spec_opText_79 (w : World) : Calls Tryz.prog 117 #[.int .i64 79] w (OpText 79 w) := by
 go_enter Tryz.func117, Tryz.ntmps117
 go_wp2_with fail
 go_ret
 exact ⟨_, rfl, by decide +kernel, by decide, Below.refl _ _⟩
theorem spec_opText_81 (w : World) : Calls Tryz.prog 117 #[.int .i64 81] w (OpText 81 w) := by
 go_enter Tryz.func117, Tryz.ntmps117
 go_wp2_with fail
 go_ret
 exact ⟨_, rfl, by decide +kernel, by decide, Below.refl _ _⟩
theorem spec_opText2 (op : Int) (w : World) (h1 : 220 ≤ op) (h2 : op ≤ 225) : Calls Tryz.prog 117 #[.int .i64 op] w (OpText op w) := by
 have HO := Lib.hid (ok_yes (op := op) (by omega))
 have hm := specBin_at (op - 200) (by omega) (by omega)
 rw [show op - 200 - 20 = op - 220 by omega] at hm
 have hs := hm.2
 have hj : (op - 220).toNat < 44 := by omega
 clear hm
 have b70 : (op == 70) = false := beq_eq_false_iff_ne.2 (by omega)
 have b71 : (op == 71) = false := beq_eq_false_iff_ne.2 (by omega)
 have b72 : (op == 72) = false := beq_eq_false_iff_ne.2 (by omega)
 have b73 : (op == 73) = false := beq_eq_false_iff_ne.2 (by omega)
 have b74 : (op == 74) = false := beq_eq_false_iff_ne.2 (by omega)
 have b75 : (op == 75) = false := beq_eq_false_iff_ne.2 (by omega)
 have b76 : (op == 76) = false := beq_eq_false_iff_ne.2 (by omega)
 have b77 : (op == 77) = false := beq_eq_false_iff_ne.2 (by omega)
 have b78 : (op == 78) = false := beq_eq_false_iff_ne.2 (by omega)
 have b79 : (op == 79) = false := beq_eq_false_iff_ne.2 (by omega)
 have b81 : (op == 81) = false := beq_eq_false_iff_ne.2 (by omega)
 go_enter Tryz.func117, Tryz.ntmps117
 go_wp2_with fail
 refine (spec_l10Binary _).mono ?_; rintro e w1 ⟨rfl, hB, hb⟩
 have hc := text_at hB (op - 220).toNat (by rw [specBin_len]; exact hj)
 clear hB
 generalize specBin.getD (op - 220).toNat ByteArray.empty = t at *
 go_wp2_with fail
 go_ret
 exact ⟨_, rfl, by rw [HO.out, ByteArray.toList_eq, ByteArray.data_append, Array.toList_append]; simp, by rw [ByteArray.size_append]; have : (⟨#[58, 61]⟩ : ByteArray).size = 2 := rfl; omega, hb⟩
theorem spec_opText3 (op : Int) (w : World) (h1 : 250 ≤ op) (h2 : op ≤ 254) : Calls Tryz.prog 117 #[.int .i64 op] w (OpText op w) := by
 have HO := Lib.hid (ok_yes (op := op) (by omega))
 have hm := specBin_at (op - 200) (by omega) (by omega)
 rw [show op - 200 - 20 = op - 220 by omega] at hm
 have hs := hm.2
 have hj : (op - 220).toNat < 44 := by omega
 clear hm
 have b70 : (op == 70) = false := beq_eq_false_iff_ne.2 (by omega)
 have b71 : (op == 71) = false := beq_eq_false_iff_ne.2 (by omega)
 have b72 : (op == 72) = false := beq_eq_false_iff_ne.2 (by omega)
 have b73 : (op == 73) = false := beq_eq_false_iff_ne.2 (by omega)
 have b74 : (op == 74) = false := beq_eq_false_iff_ne.2 (by omega)
 have b75 : (op == 75) = false := beq_eq_false_iff_ne.2 (by omega)
 have b76 : (op == 76) = false := beq_eq_false_iff_ne.2 (by omega)
 have b77 : (op == 77) = false := beq_eq_false_iff_ne.2 (by omega)
 have b78 : (op == 78) = false := beq_eq_false_iff_ne.2 (by omega)
 have b79 : (op == 79) = false := beq_eq_false_iff_ne.2 (by omega)
 have b81 : (op == 81) = false := beq_eq_false_iff_ne.2 (by omega)
 go_enter Tryz.func117, Tryz.ntmps117
 go_wp2_with fail
 refine (spec_l10Binary _).mono ?_; rintro e w1 ⟨rfl, hB, hb⟩
 have hc := text_at hB (op - 220).toNat (by rw [specBin_len]; exact hj)
 clear hB
 generalize specBin.getD (op - 220).toNat ByteArray.empty = t at *
 go_wp2_with fail
 go_ret
 exact ⟨_, rfl, by rw [HO.out, ByteArray.toList_eq, ByteArray.data_append, Array.toList_append]; simp, by rw [ByteArray.size_append]; have : (⟨#[58, 61]⟩ : ByteArray).size = 2 := rfl; omega, hb⟩
theorem spec_opTextNa (op : Int) (w : World) (g : op < 1) : Calls Tryz.prog 117 #[.int .i64 op] w (OpText op w) := by
 have HO := Lib.hid (ok_no (op := op) (by omega))
 have b70 : (op == 70) = false := beq_eq_false_iff_ne.2 (by omega)
 have b71 : (op == 71) = false := beq_eq_false_iff_ne.2 (by omega)
 have b72 : (op == 72) = false := beq_eq_false_iff_ne.2 (by omega)
 have b73 : (op == 73) = false := beq_eq_false_iff_ne.2 (by omega)
 have b74 : (op == 74) = false := beq_eq_false_iff_ne.2 (by omega)
 have b75 : (op == 75) = false := beq_eq_false_iff_ne.2 (by omega)
 have b76 : (op == 76) = false := beq_eq_false_iff_ne.2 (by omega)
 have b77 : (op == 77) = false := beq_eq_false_iff_ne.2 (by omega)
 have b78 : (op == 78) = false := beq_eq_false_iff_ne.2 (by omega)
 have b79 : (op == 79) = false := beq_eq_false_iff_ne.2 (by omega)
 have b81 : (op == 81) = false := beq_eq_false_iff_ne.2 (by omega)
 go_enter Tryz.func117, Tryz.ntmps117
 go_wp2_with fail
 go_ret
 exact ⟨_, rfl, by rw [HO.out]; decide +kernel, by decide, Below.refl _ _⟩
theorem spec_opTextNb (op : Int) (w : World) (g1 : 11 < op) (g2 : op < 20) : Calls Tryz.prog 117 #[.int .i64 op] w (OpText op w) := by
 have HO := Lib.hid (ok_no (op := op) (by omega))
 have b70 : (op == 70) = false := beq_eq_false_iff_ne.2 (by omega)
 have b71 : (op == 71) = false := beq_eq_false_iff_ne.2 (by omega)
 have b72 : (op == 72) = false := beq_eq_false_iff_ne.2 (by omega)
 have b73 : (op == 73) = false := beq_eq_false_iff_ne.2 (by omega)
 have b74 : (op == 74) = false := beq_eq_false_iff_ne.2 (by omega)
 have b75 : (op == 75) = false := beq_eq_false_iff_ne.2 (by omega)
 have b76 : (op == 76) = false := beq_eq_false_iff_ne.2 (by omega)
 have b77 : (op == 77) = false := beq_eq_false_iff_ne.2 (by omega)
 have b78 : (op == 78) = false := beq_eq_false_iff_ne.2 (by omega)
 have b79 : (op == 79) = false := beq_eq_false_iff_ne.2 (by omega)
 have b81 : (op == 81) = false := beq_eq_false_iff_ne.2 (by omega)
 go_enter Tryz.func117, Tryz.ntmps117
 go_wp2_with fail
 go_ret
 exact ⟨_, rfl, by rw [HO.out]; decide +kernel, by decide, Below.refl _ _⟩
theorem spec_opTextNc (op : Int) (w : World) (g1 : 63 < op) (g2 : op < 70) : Calls Tryz.prog 117 #[.int .i64 op] w (OpText op w) := by
 have HO := Lib.hid (ok_no (op := op) (by omega))
 have b70 : (op == 70) = false := beq_eq_false_iff_ne.2 (by omega)
 have b71 : (op == 71) = false := beq_eq_false_iff_ne.2 (by omega)
 have b72 : (op == 72) = false := beq_eq_false_iff_ne.2 (by omega)
 have b73 : (op == 73) = false := beq_eq_false_iff_ne.2 (by omega)
 have b74 : (op == 74) = false := beq_eq_false_iff_ne.2 (by omega)
 have b75 : (op == 75) = false := beq_eq_false_iff_ne.2 (by omega)
 have b76 : (op == 76) = false := beq_eq_false_iff_ne.2 (by omega)
 have b77 : (op == 77) = false := beq_eq_false_iff_ne.2 (by omega)
 have b78 : (op == 78) = false := beq_eq_false_iff_ne.2 (by omega)
 have b79 : (op == 79) = false := beq_eq_false_iff_ne.2 (by omega)
 have b81 : (op == 81) = false := beq_eq_false_iff_ne.2 (by omega)
 go_enter Tryz.func117, Tryz.ntmps117
 go_wp2_with fail
 go_ret
 exact ⟨_, rfl, by rw [HO.out]; decide +kernel, by decide, Below.refl _ _⟩
theorem spec_opTextNd (op : Int) (w : World) (g1 : 79 < op) (g2 : op < 81) : Calls Tryz.prog 117 #[.int .i64 op] w (OpText op w) := by
 have HO := Lib.hid (ok_no (op := op) (by omega))
 have b70 : (op == 70) = false := beq_eq_false_iff_ne.2 (by omega)
 have b71 : (op == 71) = false := beq_eq_false_iff_ne.2 (by omega)
 have b72 : (op == 72) = false := beq_eq_false_iff_ne.2 (by omega)
 have b73 : (op == 73) = false := beq_eq_false_iff_ne.2 (by omega)
 have b74 : (op == 74) = false := beq_eq_false_iff_ne.2 (by omega)
 have b75 : (op == 75) = false := beq_eq_false_iff_ne.2 (by omega)
 have b76 : (op == 76) = false := beq_eq_false_iff_ne.2 (by omega)
 have b77 : (op == 77) = false := beq_eq_false_iff_ne.2 (by omega)
 have b78 : (op == 78) = false := beq_eq_false_iff_ne.2 (by omega)
 have b79 : (op == 79) = false := beq_eq_false_iff_ne.2 (by omega)
 have b81 : (op == 81) = false := beq_eq_false_iff_ne.2 (by omega)
 go_enter Tryz.func117, Tryz.ntmps117
 go_wp2_with fail
 go_ret
 exact ⟨_, rfl, by rw [HO.out]; decide +kernel, by decide, Below.refl _ _⟩
theorem spec_opTextNe (op : Int) (w : World) (g1 : 81 < op) (g2 : op < 220) : Calls Tryz.prog 117 #[.int .i64 op] w (OpText op w) := by
 have HO := Lib.hid (ok_no (op := op) (by omega))
 have b70 : (op == 70) = false := beq_eq_false_iff_ne.2 (by omega)
 have b71 : (op == 71) = false := beq_eq_false_iff_ne.2 (by omega)
 have b72 : (op == 72) = false := beq_eq_false_iff_ne.2 (by omega)
 have b73 : (op == 73) = false := beq_eq_false_iff_ne.2 (by omega)
 have b74 : (op == 74) = false := beq_eq_false_iff_ne.2 (by omega)
 have b75 : (op == 75) = false := beq_eq_false_iff_ne.2 (by omega)
 have b76 : (op == 76) = false := beq_eq_false_iff_ne.2 (by omega)
 have b77 : (op == 77) = false := beq_eq_false_iff_ne.2 (by omega)
 have b78 : (op == 78) = false := beq_eq_false_iff_ne.2 (by omega)
 have b79 : (op == 79) = false := beq_eq_false_iff_ne.2 (by omega)
 have b81 : (op == 81) = false := beq_eq_false_iff_ne.2 (by omega)
 go_enter Tryz.func117, Tryz.ntmps117
 go_wp2_with fail
 go_ret
 exact ⟨_, rfl, by rw [HO.out]; decide +kernel, by decide, Below.refl _ _⟩
theorem spec_opTextNf (op : Int) (w : World) (g1 : 225 < op) (g2 : op < 250) : Calls Tryz.prog 117 #[.int .i64 op] w (OpText op w) := by
 have HO := Lib.hid (ok_no (op := op) (by omega))
 have b70 : (op == 70) = false := beq_eq_false_iff_ne.2 (by omega)
 have b71 : (op == 71) = false := beq_eq_false_iff_ne.2 (by omega)
 have b72 : (op == 72) = false := beq_eq_false_iff_ne.2 (by omega)
 have b73 : (op == 73) = false := beq_eq_false_iff_ne.2 (by omega)
 have b74 : (op == 74) = false := beq_eq_false_iff_ne.2 (by omega)
 have b75 : (op == 75) = false := beq_eq_false_iff_ne.2 (by omega)
 have b76 : (op == 76) = false := beq_eq_false_iff_ne.2 (by omega)
 have b77 : (op == 77) = false := beq_eq_false_iff_ne.2 (by omega)
 have b78 : (op == 78) = false := beq_eq_false_iff_ne.2 (by omega)
 have b79 : (op == 79) = false := beq_eq_false_iff_ne.2 (by omega)
 have b81 : (op == 81) = false := beq_eq_false_iff_ne.2 (by omega)
 go_enter Tryz.func117, Tryz.ntmps117
 go_wp2_with fail
 go_ret
 exact ⟨_, rfl, by rw [HO.out]; decide +kernel, by decide, Below.refl _ _⟩
theorem spec_opTextNg (op : Int) (w : World) (g : 254 < op) : Calls Tryz.prog 117 #[.int .i64 op] w (OpText op w) := by
 have HO := Lib.hid (ok_no (op := op) (by omega))
 have b70 : (op == 70) = false := beq_eq_false_iff_ne.2 (by omega)
 have b71 : (op == 71) = false := beq_eq_false_iff_ne.2 (by omega)
 have b72 : (op == 72) = false := beq_eq_false_iff_ne.2 (by omega)
 have b73 : (op == 73) = false := beq_eq_false_iff_ne.2 (by omega)
 have b74 : (op == 74) = false := beq_eq_false_iff_ne.2 (by omega)
 have b75 : (op == 75) = false := beq_eq_false_iff_ne.2 (by omega)
 have b76 : (op == 76) = false := beq_eq_false_iff_ne.2 (by omega)
 have b77 : (op == 77) = false := beq_eq_false_iff_ne.2 (by omega)
 have b78 : (op == 78) = false := beq_eq_false_iff_ne.2 (by omega)
 have b79 : (op == 79) = false := beq_eq_false_iff_ne.2 (by omega)
 have b81 : (op == 81) = false := beq_eq_false_iff_ne.2 (by omega)
 go_enter Tryz.func117, Tryz.ntmps117
 go_wp2_with fail
 go_ret
 exact ⟨_, rfl, by rw [HO.out]; decide +kernel, by decide, Below.refl _ _⟩
theorem spec_OperatorText (op : Int) (w : World) : Calls Tryz.prog 117 #[.int .i64 op] w (OpText op w) := by
 by_cases h : op < 1
 ·exact spec_opTextNa op w h
 have g0 := h
 clear h
 by_cases h : op ≤ 11
 ·exact spec_opText0 op w (by omega) h
 have g1 := h
 clear h
 by_cases h : op < 20
 ·exact spec_opTextNb op w (by omega) h
 have g2 := h
 clear h
 by_cases h : op < 64
 ·exact spec_opText1 op w (by omega) h
 have g3 := h
 clear h
 by_cases h : op < 70
 ·exact spec_opTextNc op w (by omega) h
 have g4 := h
 clear h
 by_cases h : op = 70
 ·subst h; exact spec_opText_70 w
 have g5 := h
 clear h
 by_cases h : op = 71
 ·subst h; exact spec_opText_71 w
 have g6 := h
 clear h
 by_cases h : op = 72
 ·subst h; exact spec_opText_72 w
 have g7 := h
 clear h
 by_cases h : op = 73
 ·subst h; exact spec_opText_73 w
 have g8 := h
 clear h
 by_cases h : op = 74
 ·subst h; exact spec_opText_74 w
 have g9 := h
 clear h
 by_cases h : op = 75
 ·subst h; exact spec_opText_75 w
 have g10 := h
 clear h
 by_cases h : op = 76
 ·subst h; exact spec_opText_76 w
 have g11 := h
 clear h
 by_cases h : op = 77
 ·subst h; exact spec_opText_77 w
 have g12 := h
 clear h
 by_cases h : op = 78
 ·subst h; exact spec_opText_78 w
 have g13 := h
 clear h
 by_cases h : op = 79
 ·subst h; exact spec_opText_79 w
 have g14 := h
 clear h
 by_cases h : op < 81
 ·exact spec_opTextNd op w (by omega) h
 have g15 := h
 clear h
 by_cases h : op = 81
 ·subst h; exact spec_opText_81 w
 have g16 := h
 clear h
 by_cases h : op < 220
 ·exact spec_opTextNe op w (by omega) h
 have g17 := h
 clear h
 by_cases h : op ≤ 225
 ·exact spec_opText2 op w (by omega) h
 have g18 := h
 clear h
 by_cases h : op < 250
 ·exact spec_opTextNf op w (by omega) h
 have g19 := h
 clear h
 by_cases h : op ≤ 254
 ·exact spec_opText3 op w (by omega) h
 have g20 := h
 clear h
 exact spec_opTextNg op w (by omega)
end Go.Proofs.YtjeomamdlmoghaaGreatDoor
end
section
namespace Go.Proofs.YtjeomamdlmoghaaGreatDoor
open Go.RowKit
theorem ret_ints_spec {a b c d : Int} (h1 : a = c) (h2 : b = d) : Ending.returned (.tuple #[.int .i64 a, .int .i64 b]) = .returned (.tuple #[.int .i64 c, .int .i64 d]) := by rw [h1, h2]
theorem spec_OperatorArity (op : Int) (w : World) : Calls Tryz.prog 88 #[.int .i64 op] w fun e w' => e = .returned (.tuple #[.int .i64 (arityLo op), .int .i64 (arityHi op)]) ∧ Below w.heap.size w w' := by
 cases hok : opOk op with
 | false =>
   have HL : Hid (arityLo op = 0) := by show _ = _; simp [arityLo, hok]
   have HH : Hid (arityHi op = -1) := by show _ = _; simp [arityHi, hok]
   have HT := Lib.hid (spec_OperatorText op w)
   have HK := Lib.hid hok
   clear hok
   go_enter Tryz.func88, Tryz.ntmps88
   go_wp2_with fail
   refine HT.out.mono ?_; rintro e w1 ⟨t, rfl, h0, hs, hb⟩
   rw [HK.out] at h0
   have h1 : t.toList = [] := by simpa using h0
   go_wp2_with fail
   go_ret2
   exact ⟨ret_ints_spec HL.out.symm HH.out.symm, hb⟩
 | true =>
   have HT := Lib.hid (spec_OperatorText op w)
   have HK := Lib.hid hok
   by_cases h11 : op ≤ 11
   ·have HL : Hid (arityLo op = 1) := by show _ = _; unfold arityLo; rw [if_neg (by rw [hok]; decide)]; rw [if_pos (by omega)]
    have HH : Hid (arityHi op = 1) := by show _ = _; unfold arityHi; rw [if_neg (by rw [hok]; decide)]; rw [if_pos (by omega)]
    clear hok
    go_enter Tryz.func88, Tryz.ntmps88
    go_wp2_with fail
    refine HT.out.mono ?_; rintro e w1 ⟨t, rfl, h0, hs, hb⟩
    rw [HK.out] at h0
    simp only [Bool.not_true] at h0
    have h1 : ¬ t.toList = [] := by intro h; rw [h] at h0; cases h0
    go_wp2_with fail
    go_ret2
    exact ⟨ret_ints_spec HL.out.symm HH.out.symm, hb⟩
   by_cases h81 : op = 81
   ·have HL : Hid (arityLo op = 1) := by show _ = _; unfold arityLo; rw [if_neg (by rw [hok]; decide)]; rw [if_pos (by omega)]
    have HH : Hid (arityHi op = 1) := by show _ = _; unfold arityHi; rw [if_neg (by rw [hok]; decide)]; rw [if_pos (by omega)]
    have b81 : (op == 81) = true := beq_iff_eq.2 (by omega)
    clear hok h81
    go_enter Tryz.func88, Tryz.ntmps88
    go_wp2_with fail
    refine HT.out.mono ?_; rintro e w1 ⟨t, rfl, h0, hs, hb⟩
    rw [HK.out] at h0
    simp only [Bool.not_true] at h0
    have h1 : ¬ t.toList = [] := by intro h; rw [h] at h0; cases h0
    go_wp2_with fail
    go_ret2
    exact ⟨ret_ints_spec HL.out.symm HH.out.symm, hb⟩
   by_cases h71 : op = 71
   ·have HL : Hid (arityLo op = 3) := by show _ = _; unfold arityLo; rw [if_neg (by rw [hok]; decide)]; rw [if_neg (by omega)]; rw [if_pos (by omega)]
    have HH : Hid (arityHi op = 3) := by show _ = _; unfold arityHi; rw [if_neg (by rw [hok]; decide)]; rw [if_neg (by omega)]; rw [if_pos (by omega)]
    have b81 : (op == 81) = false := beq_eq_false_iff_ne.2 (by omega)
    have b71 : (op == 71) = true := beq_iff_eq.2 (by omega)
    clear hok h71
    go_enter Tryz.func88, Tryz.ntmps88
    go_wp2_with fail
    refine HT.out.mono ?_; rintro e w1 ⟨t, rfl, h0, hs, hb⟩
    rw [HK.out] at h0
    simp only [Bool.not_true] at h0
    have h1 : ¬ t.toList = [] := by intro h; rw [h] at h0; cases h0
    go_wp2_with fail
    go_ret2
    exact ⟨ret_ints_spec HL.out.symm HH.out.symm, hb⟩
   by_cases h72 : op = 72
   ·have HL : Hid (arityLo op = 3) := by show _ = _; unfold arityLo; rw [if_neg (by rw [hok]; decide)]; rw [if_neg (by omega)]; rw [if_pos (by omega)]
    have HH : Hid (arityHi op = 3) := by show _ = _; unfold arityHi; rw [if_neg (by rw [hok]; decide)]; rw [if_neg (by omega)]; rw [if_pos (by omega)]
    have b81 : (op == 81) = false := beq_eq_false_iff_ne.2 (by omega)
    have b71 : (op == 71) = false := beq_eq_false_iff_ne.2 (by omega)
    have b72 : (op == 72) = true := beq_iff_eq.2 (by omega)
    clear hok h72
    go_enter Tryz.func88, Tryz.ntmps88
    go_wp2_with fail
    refine HT.out.mono ?_; rintro e w1 ⟨t, rfl, h0, hs, hb⟩
    rw [HK.out] at h0
    simp only [Bool.not_true] at h0
    have h1 : ¬ t.toList = [] := by intro h; rw [h] at h0; cases h0
    go_wp2_with fail
    go_ret2
    exact ⟨ret_ints_spec HL.out.symm HH.out.symm, hb⟩
   by_cases h73 : op = 73
   ·have HL : Hid (arityLo op = 2) := by show _ = _; unfold arityLo; rw [if_neg (by rw [hok]; decide)]; rw [if_neg (by omega)]; rw [if_neg (by omega)]; rw [if_pos (by omega)]
    have HH : Hid (arityHi op = 8) := by show _ = _; unfold arityHi; rw [if_neg (by rw [hok]; decide)]; rw [if_neg (by omega)]; rw [if_neg (by omega)]; rw [if_pos (by omega)]
    have b81 : (op == 81) = false := beq_eq_false_iff_ne.2 (by omega)
    have b71 : (op == 71) = false := beq_eq_false_iff_ne.2 (by omega)
    have b72 : (op == 72) = false := beq_eq_false_iff_ne.2 (by omega)
    have b73 : (op == 73) = true := beq_iff_eq.2 (by omega)
    clear hok h73
    go_enter Tryz.func88, Tryz.ntmps88
    go_wp2_with fail
    refine HT.out.mono ?_; rintro e w1 ⟨t, rfl, h0, hs, hb⟩
    rw [HK.out] at h0
    simp only [Bool.not_true] at h0
    have h1 : ¬ t.toList = [] := by intro h; rw [h] at h0; cases h0
    go_wp2_with fail
    go_ret2
    exact ⟨ret_ints_spec HL.out.symm HH.out.symm, hb⟩
   by_cases h74 : op = 74
   ·have HL : Hid (arityLo op = 0) := by show _ = _; unfold arityLo; rw [if_neg (by rw [hok]; decide)]; rw [if_neg (by omega)]; rw [if_neg (by omega)]; rw [if_neg (by omega)]; rw [if_pos (by omega)]
    have HH : Hid (arityHi op = 8) := by show _ = _; unfold arityHi; rw [if_neg (by rw [hok]; decide)]; rw [if_neg (by omega)]; rw [if_neg (by omega)]; rw [if_neg (by omega)]; rw [if_pos (by omega)]
    have b81 : (op == 81) = false := beq_eq_false_iff_ne.2 (by omega)
    have b71 : (op == 71) = false := beq_eq_false_iff_ne.2 (by omega)
    have b72 : (op == 72) = false := beq_eq_false_iff_ne.2 (by omega)
    have b73 : (op == 73) = false := beq_eq_false_iff_ne.2 (by omega)
    have b74 : (op == 74) = true := beq_iff_eq.2 (by omega)
    clear hok h74
    go_enter Tryz.func88, Tryz.ntmps88
    go_wp2_with fail
    refine HT.out.mono ?_; rintro e w1 ⟨t, rfl, h0, hs, hb⟩
    rw [HK.out] at h0
    simp only [Bool.not_true] at h0
    have h1 : ¬ t.toList = [] := by intro h; rw [h] at h0; cases h0
    go_wp2_with fail
    go_ret2
    exact ⟨ret_ints_spec HL.out.symm HH.out.symm, hb⟩
   ·have HL : Hid (arityLo op = 2) := by show _ = _; unfold arityLo; rw [if_neg (by rw [hok]; decide)]; rw [if_neg (by omega)]; rw [if_neg (by omega)]; rw [if_neg (by omega)]; rw [if_neg (by omega)]
    have HH : Hid (arityHi op = 2) := by show _ = _; unfold arityHi; rw [if_neg (by rw [hok]; decide)]; rw [if_neg (by omega)]; rw [if_neg (by omega)]; rw [if_neg (by omega)]; rw [if_neg (by omega)]
    have b81 : (op == 81) = false := beq_eq_false_iff_ne.2 (by omega)
    have b71 : (op == 71) = false := beq_eq_false_iff_ne.2 (by omega)
    have b72 : (op == 72) = false := beq_eq_false_iff_ne.2 (by omega)
    have b73 : (op == 73) = false := beq_eq_false_iff_ne.2 (by omega)
    have b74 : (op == 74) = false := beq_eq_false_iff_ne.2 (by omega)
    clear hok
    go_enter Tryz.func88, Tryz.ntmps88
    go_wp2_with fail
    refine HT.out.mono ?_; rintro e w1 ⟨t, rfl, h0, hs, hb⟩
    rw [HK.out] at h0
    simp only [Bool.not_true] at h0
    have h1 : ¬ t.toList = [] := by intro h; rw [h] at h0; cases h0
    go_wp2_with fail
    go_ret2
    exact ⟨ret_ints_spec HL.out.symm HH.out.symm, hb⟩
end Go.Proofs.YtjeomamdlmoghaaGreatDoor
end
