/- l10Counts of the reference. For the walks on literal values. Values of literals in the reference: texts, numbers, sets. FormatInt of the program. Sets of characters of the program: withByte, HasByte, NewCset, CsetText. NewCset, CsetText of the program. Values of literals in the program: texts, numbers, sets. Comparisons and sets of the program. -/
import Derived.Test.YtjeomamdlmoghaaGreatDoorQ00
import Derived.Test.YtjeomamdlmoghaaGreatDoorQSq
import Derived.Test.YtjeomamdlmoghaaGreatDoorQ02
import Derived.Test.YtjeomamdlmoghaaGreatDoorQ03
import Derived.Test.YtjeomamdlmoghaaGreatDoorQ07
import Derived.Test.YtjeomamdlmoghaaGreatDoorQ13
import Derived.Test.YtjeomamdlmoghaaGreatDoorProg
import Derived.Test.YtjeomamdlmoghaaGreatDoorShelf
import Derived.Lib.LaidTab
import Derived.Deep.RegionHeld3
import Derived.Deep.QuietTactic
set_option maxRecDepth 100000
set_option maxHeartbeats 8000000
set_option linter.unusedVariables false
set_option linter.unusedSimpArgs false
section
namespace Go.Proofs.YtjeomamdlmoghaaGreatDoor
open Go.RowKit
theorem spec_11 (x : Value) (c : CoreT) (w : World) (lo hi : Nat) (hr : CRep w lo hi x c) (h : c.kind = 11) : Calls Tryz.prog 65 #[x] w fun e w' => e = .returned (.tuple #[.int .i64 (kidsLo c.kind c.op), .int .i64 (kidsHi c.kind c.op)]) ∧ Below w.heap.size w w' := by
 obtain ⟨A, cap, rfl, -, -, -⟩ := hr.form
 have HV := Lib.hid (kids_op (op := c.op) h)
 have b11 : (c.kind == 11) = true := beq_iff_eq.2 h
 clear h hr
 go_enter Tryz.func65, Tryz.ntmps65
 go_wp2_with fail
 refine (spec_OperatorArity c.op _).mono ?_; rintro e w1 ⟨rfl, hb1⟩
 go_wp2_with fail
 go_ret2
 exact ⟨ret_intsK HV.out.1.symm HV.out.2.symm, ((Below.refl _ _).alloc (Nat.le_refl _) _).trans (hb1.mono (by simp))⟩
theorem spec_12 (x : Value) (c : CoreT) (w : World) (lo hi : Nat) (hr : CRep w lo hi x c) (h : c.kind = 12) : Calls Tryz.prog 65 #[x] w fun e w' => e = .returned (.tuple #[.int .i64 (kidsLo c.kind c.op), .int .i64 (kidsHi c.kind c.op)]) ∧ Below w.heap.size w w' := by
 obtain ⟨A, cap, rfl, -, -, -⟩ := hr.form
 have HV := Lib.hid (kids_12 (op := c.op) h)
 have b11 : (c.kind == 11) = false := beq_eq_false_iff_ne.2 (by omega)
 have b12 : (c.kind == 12) = true := beq_iff_eq.2 h
 clear h hr
 go_enter Tryz.func65, Tryz.ntmps65
 go_wp2_with fail
 go_ret2
 exact ⟨ret_intsK HV.out.1.symm HV.out.2.symm, (Below.refl _ _).alloc (Nat.le_refl _) _⟩
theorem spec_16 (x : Value) (c : CoreT) (w : World) (lo hi : Nat) (hr : CRep w lo hi x c) (h : c.kind = 16) : Calls Tryz.prog 65 #[x] w fun e w' => e = .returned (.tuple #[.int .i64 (kidsLo c.kind c.op), .int .i64 (kidsHi c.kind c.op)]) ∧ Below w.heap.size w w' := by
 obtain ⟨A, cap, rfl, -, -, -⟩ := hr.form
 have HV := Lib.hid (kids_16 (op := c.op) h)
 have b11 : (c.kind == 11) = false := beq_eq_false_iff_ne.2 (by omega)
 have b12 : (c.kind == 12) = false := beq_eq_false_iff_ne.2 (by omega)
 have b16 : (c.kind == 16) = true := beq_iff_eq.2 h
 clear h hr
 go_enter Tryz.func65, Tryz.ntmps65
 go_wp2_with fail
 go_ret2
 exact ⟨ret_intsK HV.out.1.symm HV.out.2.symm, (Below.refl _ _).alloc (Nat.le_refl _) _⟩
theorem spec_14 (x : Value) (c : CoreT) (w : World) (lo hi : Nat) (hr : CRep w lo hi x c) (h : c.kind = 14) : Calls Tryz.prog 65 #[x] w fun e w' => e = .returned (.tuple #[.int .i64 (kidsLo c.kind c.op), .int .i64 (kidsHi c.kind c.op)]) ∧ Below w.heap.size w w' := by
 obtain ⟨A, cap, rfl, -, -, -⟩ := hr.form
 have HV := Lib.hid (kids_14 (op := c.op) h)
 have b11 : (c.kind == 11) = false := beq_eq_false_iff_ne.2 (by omega)
 have b12 : (c.kind == 12) = false := beq_eq_false_iff_ne.2 (by omega)
 have b16 : (c.kind == 16) = false := beq_eq_false_iff_ne.2 (by omega)
 have b14 : (c.kind == 14) = true := beq_iff_eq.2 h
 clear h hr
 go_enter Tryz.func65, Tryz.ntmps65
 go_wp2_with fail
 go_ret2
 exact ⟨ret_intsK HV.out.1.symm HV.out.2.symm, (Below.refl _ _).alloc (Nat.le_refl _) _⟩
theorem spec_20 (x : Value) (c : CoreT) (w : World) (lo hi : Nat) (hr : CRep w lo hi x c) (h : c.kind = 20) : Calls Tryz.prog 65 #[x] w fun e w' => e = .returned (.tuple #[.int .i64 (kidsLo c.kind c.op), .int .i64 (kidsHi c.kind c.op)]) ∧ Below w.heap.size w w' := by
 obtain ⟨A, cap, rfl, -, -, -⟩ := hr.form
 have HV := Lib.hid (kids_20 (op := c.op) h)
 have b11 : (c.kind == 11) = false := beq_eq_false_iff_ne.2 (by omega)
 have b12 : (c.kind == 12) = false := beq_eq_false_iff_ne.2 (by omega)
 have b16 : (c.kind == 16) = false := beq_eq_false_iff_ne.2 (by omega)
 have b14 : (c.kind == 14) = false := beq_eq_false_iff_ne.2 (by omega)
 have b20 : (c.kind == 20) = true := beq_iff_eq.2 h
 clear h hr
 go_enter Tryz.func65, Tryz.ntmps65
 go_wp2_with fail
 go_ret2
 exact ⟨ret_intsK HV.out.1.symm HV.out.2.symm, (Below.refl _ _).alloc (Nat.le_refl _) _⟩
theorem spec_23 (x : Value) (c : CoreT) (w : World) (lo hi : Nat) (hr : CRep w lo hi x c) (h : c.kind = 23) : Calls Tryz.prog 65 #[x] w fun e w' => e = .returned (.tuple #[.int .i64 (kidsLo c.kind c.op), .int .i64 (kidsHi c.kind c.op)]) ∧ Below w.heap.size w w' := by
 obtain ⟨A, cap, rfl, -, -, -⟩ := hr.form
 have HV := Lib.hid (kids_23 (op := c.op) h)
 have b11 : (c.kind == 11) = false := beq_eq_false_iff_ne.2 (by omega)
 have b12 : (c.kind == 12) = false := beq_eq_false_iff_ne.2 (by omega)
 have b16 : (c.kind == 16) = false := beq_eq_false_iff_ne.2 (by omega)
 have b14 : (c.kind == 14) = false := beq_eq_false_iff_ne.2 (by omega)
 have b20 : (c.kind == 20) = false := beq_eq_false_iff_ne.2 (by omega)
 have b23 : (c.kind == 23) = true := beq_iff_eq.2 h
 clear h hr
 go_enter Tryz.func65, Tryz.ntmps65
 go_wp2_with fail
 go_ret2
 exact ⟨ret_intsK HV.out.1.symm HV.out.2.symm, (Below.refl _ _).alloc (Nat.le_refl _) _⟩
theorem spec_26 (x : Value) (c : CoreT) (w : World) (lo hi : Nat) (hr : CRep w lo hi x c) (h : c.kind = 26) : Calls Tryz.prog 65 #[x] w fun e w' => e = .returned (.tuple #[.int .i64 (kidsLo c.kind c.op), .int .i64 (kidsHi c.kind c.op)]) ∧ Below w.heap.size w w' := by
 obtain ⟨A, cap, rfl, -, -, -⟩ := hr.form
 have HV := Lib.hid (kids_26 (op := c.op) h)
 have b11 : (c.kind == 11) = false := beq_eq_false_iff_ne.2 (by omega)
 have b12 : (c.kind == 12) = false := beq_eq_false_iff_ne.2 (by omega)
 have b16 : (c.kind == 16) = false := beq_eq_false_iff_ne.2 (by omega)
 have b14 : (c.kind == 14) = false := beq_eq_false_iff_ne.2 (by omega)
 have b20 : (c.kind == 20) = false := beq_eq_false_iff_ne.2 (by omega)
 have b23 : (c.kind == 23) = false := beq_eq_false_iff_ne.2 (by omega)
 have b26 : (c.kind == 26) = true := beq_iff_eq.2 h
 clear h hr
 go_enter Tryz.func65, Tryz.ntmps65
 go_wp2_with fail
 go_ret2
 exact ⟨ret_intsK HV.out.1.symm HV.out.2.symm, (Below.refl _ _).alloc (Nat.le_refl _) _⟩
theorem spec_27 (x : Value) (c : CoreT) (w : World) (lo hi : Nat) (hr : CRep w lo hi x c) (h : c.kind = 27) : Calls Tryz.prog 65 #[x] w fun e w' => e = .returned (.tuple #[.int .i64 (kidsLo c.kind c.op), .int .i64 (kidsHi c.kind c.op)]) ∧ Below w.heap.size w w' := by
 obtain ⟨A, cap, rfl, -, -, -⟩ := hr.form
 have HV := Lib.hid (kids_27 (op := c.op) h)
 have b11 : (c.kind == 11) = false := beq_eq_false_iff_ne.2 (by omega)
 have b12 : (c.kind == 12) = false := beq_eq_false_iff_ne.2 (by omega)
 have b16 : (c.kind == 16) = false := beq_eq_false_iff_ne.2 (by omega)
 have b14 : (c.kind == 14) = false := beq_eq_false_iff_ne.2 (by omega)
 have b20 : (c.kind == 20) = false := beq_eq_false_iff_ne.2 (by omega)
 have b23 : (c.kind == 23) = false := beq_eq_false_iff_ne.2 (by omega)
 have b26 : (c.kind == 26) = false := beq_eq_false_iff_ne.2 (by omega)
 have b27 : (c.kind == 27) = true := beq_iff_eq.2 h
 clear h hr
 go_enter Tryz.func65, Tryz.ntmps65
 go_wp2_with fail
 go_ret2
 exact ⟨ret_intsK HV.out.1.symm HV.out.2.symm, (Below.refl _ _).alloc (Nat.le_refl _) _⟩
theorem spec_13 (x : Value) (c : CoreT) (w : World) (lo hi : Nat) (hr : CRep w lo hi x c) (h : c.kind = 13) : Calls Tryz.prog 65 #[x] w fun e w' => e = .returned (.tuple #[.int .i64 (kidsLo c.kind c.op), .int .i64 (kidsHi c.kind c.op)]) ∧ Below w.heap.size w w' := by
 obtain ⟨A, cap, rfl, -, -, -⟩ := hr.form
 have HV := Lib.hid (kids_13 (op := c.op) h)
 have b11 : (c.kind == 11) = false := beq_eq_false_iff_ne.2 (by omega)
 have b12 : (c.kind == 12) = false := beq_eq_false_iff_ne.2 (by omega)
 have b16 : (c.kind == 16) = false := beq_eq_false_iff_ne.2 (by omega)
 have b14 : (c.kind == 14) = false := beq_eq_false_iff_ne.2 (by omega)
 have b20 : (c.kind == 20) = false := beq_eq_false_iff_ne.2 (by omega)
 have b23 : (c.kind == 23) = false := beq_eq_false_iff_ne.2 (by omega)
 have b26 : (c.kind == 26) = false := beq_eq_false_iff_ne.2 (by omega)
 have b27 : (c.kind == 27) = false := beq_eq_false_iff_ne.2 (by omega)
 have b13 : (c.kind == 13) = true := beq_iff_eq.2 h
 clear h hr
 go_enter Tryz.func65, Tryz.ntmps65
 go_wp2_with fail
 go_ret2
 exact ⟨ret_intsK HV.out.1.symm HV.out.2.symm, (Below.refl _ _).alloc (Nat.le_refl _) _⟩
theorem spec_15 (x : Value) (c : CoreT) (w : World) (lo hi : Nat) (hr : CRep w lo hi x c) (h : c.kind = 15) : Calls Tryz.prog 65 #[x] w fun e w' => e = .returned (.tuple #[.int .i64 (kidsLo c.kind c.op), .int .i64 (kidsHi c.kind c.op)]) ∧ Below w.heap.size w w' := by
 obtain ⟨A, cap, rfl, -, -, -⟩ := hr.form
 have HV := Lib.hid (kids_15 (op := c.op) h)
 have b11 : (c.kind == 11) = false := beq_eq_false_iff_ne.2 (by omega)
 have b12 : (c.kind == 12) = false := beq_eq_false_iff_ne.2 (by omega)
 have b16 : (c.kind == 16) = false := beq_eq_false_iff_ne.2 (by omega)
 have b14 : (c.kind == 14) = false := beq_eq_false_iff_ne.2 (by omega)
 have b20 : (c.kind == 20) = false := beq_eq_false_iff_ne.2 (by omega)
 have b23 : (c.kind == 23) = false := beq_eq_false_iff_ne.2 (by omega)
 have b26 : (c.kind == 26) = false := beq_eq_false_iff_ne.2 (by omega)
 have b27 : (c.kind == 27) = false := beq_eq_false_iff_ne.2 (by omega)
 have b13 : (c.kind == 13) = false := beq_eq_false_iff_ne.2 (by omega)
 have b15 : (c.kind == 15) = true := beq_iff_eq.2 h
 clear h hr
 go_enter Tryz.func65, Tryz.ntmps65
 go_wp2_with fail
 go_ret2
 exact ⟨ret_intsK HV.out.1.symm HV.out.2.symm, (Below.refl _ _).alloc (Nat.le_refl _) _⟩
theorem spec_18 (x : Value) (c : CoreT) (w : World) (lo hi : Nat) (hr : CRep w lo hi x c) (h : c.kind = 18) : Calls Tryz.prog 65 #[x] w fun e w' => e = .returned (.tuple #[.int .i64 (kidsLo c.kind c.op), .int .i64 (kidsHi c.kind c.op)]) ∧ Below w.heap.size w w' := by
 obtain ⟨A, cap, rfl, -, -, -⟩ := hr.form
 have HV := Lib.hid (kids_18 (op := c.op) h)
 have b11 : (c.kind == 11) = false := beq_eq_false_iff_ne.2 (by omega)
 have b12 : (c.kind == 12) = false := beq_eq_false_iff_ne.2 (by omega)
 have b16 : (c.kind == 16) = false := beq_eq_false_iff_ne.2 (by omega)
 have b14 : (c.kind == 14) = false := beq_eq_false_iff_ne.2 (by omega)
 have b20 : (c.kind == 20) = false := beq_eq_false_iff_ne.2 (by omega)
 have b23 : (c.kind == 23) = false := beq_eq_false_iff_ne.2 (by omega)
 have b26 : (c.kind == 26) = false := beq_eq_false_iff_ne.2 (by omega)
 have b27 : (c.kind == 27) = false := beq_eq_false_iff_ne.2 (by omega)
 have b13 : (c.kind == 13) = false := beq_eq_false_iff_ne.2 (by omega)
 have b15 : (c.kind == 15) = false := beq_eq_false_iff_ne.2 (by omega)
 have b18 : (c.kind == 18) = true := beq_iff_eq.2 h
 clear h hr
 go_enter Tryz.func65, Tryz.ntmps65
 go_wp2_with fail
 go_ret2
 exact ⟨ret_intsK HV.out.1.symm HV.out.2.symm, (Below.refl _ _).alloc (Nat.le_refl _) _⟩
theorem spec_19 (x : Value) (c : CoreT) (w : World) (lo hi : Nat) (hr : CRep w lo hi x c) (h : c.kind = 19) : Calls Tryz.prog 65 #[x] w fun e w' => e = .returned (.tuple #[.int .i64 (kidsLo c.kind c.op), .int .i64 (kidsHi c.kind c.op)]) ∧ Below w.heap.size w w' := by
 obtain ⟨A, cap, rfl, -, -, -⟩ := hr.form
 have HV := Lib.hid (kids_19 (op := c.op) h)
 have b11 : (c.kind == 11) = false := beq_eq_false_iff_ne.2 (by omega)
 have b12 : (c.kind == 12) = false := beq_eq_false_iff_ne.2 (by omega)
 have b16 : (c.kind == 16) = false := beq_eq_false_iff_ne.2 (by omega)
 have b14 : (c.kind == 14) = false := beq_eq_false_iff_ne.2 (by omega)
 have b20 : (c.kind == 20) = false := beq_eq_false_iff_ne.2 (by omega)
 have b23 : (c.kind == 23) = false := beq_eq_false_iff_ne.2 (by omega)
 have b26 : (c.kind == 26) = false := beq_eq_false_iff_ne.2 (by omega)
 have b27 : (c.kind == 27) = false := beq_eq_false_iff_ne.2 (by omega)
 have b13 : (c.kind == 13) = false := beq_eq_false_iff_ne.2 (by omega)
 have b15 : (c.kind == 15) = false := beq_eq_false_iff_ne.2 (by omega)
 have b18 : (c.kind == 18) = false := beq_eq_false_iff_ne.2 (by omega)
 have b19 : (c.kind == 19) = true := beq_iff_eq.2 h
 clear h hr
 go_enter Tryz.func65, Tryz.ntmps65
 go_wp2_with fail
 go_ret2
 exact ⟨ret_intsK HV.out.1.symm HV.out.2.symm, (Below.refl _ _).alloc (Nat.le_refl _) _⟩
theorem spec_22 (x : Value) (c : CoreT) (w : World) (lo hi : Nat) (hr : CRep w lo hi x c) (h : c.kind = 22) : Calls Tryz.prog 65 #[x] w fun e w' => e = .returned (.tuple #[.int .i64 (kidsLo c.kind c.op), .int .i64 (kidsHi c.kind c.op)]) ∧ Below w.heap.size w w' := by
 obtain ⟨A, cap, rfl, -, -, -⟩ := hr.form
 have HV := Lib.hid (kids_22 (op := c.op) h)
 have b11 : (c.kind == 11) = false := beq_eq_false_iff_ne.2 (by omega)
 have b12 : (c.kind == 12) = false := beq_eq_false_iff_ne.2 (by omega)
 have b16 : (c.kind == 16) = false := beq_eq_false_iff_ne.2 (by omega)
 have b14 : (c.kind == 14) = false := beq_eq_false_iff_ne.2 (by omega)
 have b20 : (c.kind == 20) = false := beq_eq_false_iff_ne.2 (by omega)
 have b23 : (c.kind == 23) = false := beq_eq_false_iff_ne.2 (by omega)
 have b26 : (c.kind == 26) = false := beq_eq_false_iff_ne.2 (by omega)
 have b27 : (c.kind == 27) = false := beq_eq_false_iff_ne.2 (by omega)
 have b13 : (c.kind == 13) = false := beq_eq_false_iff_ne.2 (by omega)
 have b15 : (c.kind == 15) = false := beq_eq_false_iff_ne.2 (by omega)
 have b18 : (c.kind == 18) = false := beq_eq_false_iff_ne.2 (by omega)
 have b19 : (c.kind == 19) = false := beq_eq_false_iff_ne.2 (by omega)
 have b22 : (c.kind == 22) = true := beq_iff_eq.2 h
 clear h hr
 go_enter Tryz.func65, Tryz.ntmps65
 go_wp2_with fail
 go_ret2
 exact ⟨ret_intsK HV.out.1.symm HV.out.2.symm, (Below.refl _ _).alloc (Nat.le_refl _) _⟩
theorem spec_25 (x : Value) (c : CoreT) (w : World) (lo hi : Nat) (hr : CRep w lo hi x c) (h : c.kind = 25) : Calls Tryz.prog 65 #[x] w fun e w' => e = .returned (.tuple #[.int .i64 (kidsLo c.kind c.op), .int .i64 (kidsHi c.kind c.op)]) ∧ Below w.heap.size w w' := by
 obtain ⟨A, cap, rfl, -, -, -⟩ := hr.form
 have HV := Lib.hid (kids_25 (op := c.op) h)
 have b11 : (c.kind == 11) = false := beq_eq_false_iff_ne.2 (by omega)
 have b12 : (c.kind == 12) = false := beq_eq_false_iff_ne.2 (by omega)
 have b16 : (c.kind == 16) = false := beq_eq_false_iff_ne.2 (by omega)
 have b14 : (c.kind == 14) = false := beq_eq_false_iff_ne.2 (by omega)
 have b20 : (c.kind == 20) = false := beq_eq_false_iff_ne.2 (by omega)
 have b23 : (c.kind == 23) = false := beq_eq_false_iff_ne.2 (by omega)
 have b26 : (c.kind == 26) = false := beq_eq_false_iff_ne.2 (by omega)
 have b27 : (c.kind == 27) = false := beq_eq_false_iff_ne.2 (by omega)
 have b13 : (c.kind == 13) = false := beq_eq_false_iff_ne.2 (by omega)
 have b15 : (c.kind == 15) = false := beq_eq_false_iff_ne.2 (by omega)
 have b18 : (c.kind == 18) = false := beq_eq_false_iff_ne.2 (by omega)
 have b19 : (c.kind == 19) = false := beq_eq_false_iff_ne.2 (by omega)
 have b22 : (c.kind == 22) = false := beq_eq_false_iff_ne.2 (by omega)
 have b25 : (c.kind == 25) = true := beq_iff_eq.2 h
 clear h hr
 go_enter Tryz.func65, Tryz.ntmps65
 go_wp2_with fail
 go_ret2
 exact ⟨ret_intsK HV.out.1.symm HV.out.2.symm, (Below.refl _ _).alloc (Nat.le_refl _) _⟩
theorem spec_17 (x : Value) (c : CoreT) (w : World) (lo hi : Nat) (hr : CRep w lo hi x c) (h : c.kind = 17) : Calls Tryz.prog 65 #[x] w fun e w' => e = .returned (.tuple #[.int .i64 (kidsLo c.kind c.op), .int .i64 (kidsHi c.kind c.op)]) ∧ Below w.heap.size w w' := by
 obtain ⟨A, cap, rfl, -, -, -⟩ := hr.form
 have HV := Lib.hid (kids_17 (op := c.op) h)
 have b11 : (c.kind == 11) = false := beq_eq_false_iff_ne.2 (by omega)
 have b12 : (c.kind == 12) = false := beq_eq_false_iff_ne.2 (by omega)
 have b16 : (c.kind == 16) = false := beq_eq_false_iff_ne.2 (by omega)
 have b14 : (c.kind == 14) = false := beq_eq_false_iff_ne.2 (by omega)
 have b20 : (c.kind == 20) = false := beq_eq_false_iff_ne.2 (by omega)
 have b23 : (c.kind == 23) = false := beq_eq_false_iff_ne.2 (by omega)
 have b26 : (c.kind == 26) = false := beq_eq_false_iff_ne.2 (by omega)
 have b27 : (c.kind == 27) = false := beq_eq_false_iff_ne.2 (by omega)
 have b13 : (c.kind == 13) = false := beq_eq_false_iff_ne.2 (by omega)
 have b15 : (c.kind == 15) = false := beq_eq_false_iff_ne.2 (by omega)
 have b18 : (c.kind == 18) = false := beq_eq_false_iff_ne.2 (by omega)
 have b19 : (c.kind == 19) = false := beq_eq_false_iff_ne.2 (by omega)
 have b22 : (c.kind == 22) = false := beq_eq_false_iff_ne.2 (by omega)
 have b25 : (c.kind == 25) = false := beq_eq_false_iff_ne.2 (by omega)
 have b17 : (c.kind == 17) = true := beq_iff_eq.2 h
 clear h hr
 go_enter Tryz.func65, Tryz.ntmps65
 go_wp2_with fail
 go_ret2
 exact ⟨ret_intsK HV.out.1.symm HV.out.2.symm, (Below.refl _ _).alloc (Nat.le_refl _) _⟩
theorem spec_no (x : Value) (c : CoreT) (w : World) (lo hi : Nat) (hr : CRep w lo hi x c) (h : ¬ (c.kind = 11 ∨ c.kind = 12 ∨ c.kind = 13 ∨ c.kind = 14 ∨ c.kind = 15 ∨ c.kind = 16 ∨ c.kind = 17 ∨ c.kind = 18 ∨ c.kind = 19 ∨ c.kind = 20 ∨ c.kind = 22 ∨ c.kind = 23 ∨ c.kind = 25 ∨ c.kind = 26 ∨ c.kind = 27)) : Calls Tryz.prog 65 #[x] w fun e w' => e = .returned (.tuple #[.int .i64 (kidsLo c.kind c.op), .int .i64 (kidsHi c.kind c.op)]) ∧ Below w.heap.size w w' := by
 obtain ⟨A, cap, rfl, -, -, -⟩ := hr.form
 have HV := Lib.hid (kids_none (op := c.op) h)
 simp only [not_or] at h
 obtain ⟨h11, h12, h13, h14, h15, h16, h17, h18, h19, h20, h22, h23, h25, h26, h27⟩ := h
 have b11 : (c.kind == 11) = false := beq_eq_false_iff_ne.2 (h11)
 have b12 : (c.kind == 12) = false := beq_eq_false_iff_ne.2 (h12)
 have b16 : (c.kind == 16) = false := beq_eq_false_iff_ne.2 (h16)
 have b14 : (c.kind == 14) = false := beq_eq_false_iff_ne.2 (h14)
 have b20 : (c.kind == 20) = false := beq_eq_false_iff_ne.2 (h20)
 have b23 : (c.kind == 23) = false := beq_eq_false_iff_ne.2 (h23)
 have b26 : (c.kind == 26) = false := beq_eq_false_iff_ne.2 (h26)
 have b27 : (c.kind == 27) = false := beq_eq_false_iff_ne.2 (h27)
 have b13 : (c.kind == 13) = false := beq_eq_false_iff_ne.2 (h13)
 have b15 : (c.kind == 15) = false := beq_eq_false_iff_ne.2 (h15)
 have b18 : (c.kind == 18) = false := beq_eq_false_iff_ne.2 (h18)
 have b19 : (c.kind == 19) = false := beq_eq_false_iff_ne.2 (h19)
 have b22 : (c.kind == 22) = false := beq_eq_false_iff_ne.2 (h22)
 have b25 : (c.kind == 25) = false := beq_eq_false_iff_ne.2 (h25)
 have b17 : (c.kind == 17) = false := beq_eq_false_iff_ne.2 (h17)
 clear h11 h12 h13 h14 h15 h16 h17 h18 h19 h20 h22 h23 h25 h26 h27 hr
 go_enter Tryz.func65, Tryz.ntmps65
 go_wp2_with fail
 go_ret2
 exact ⟨ret_intsK HV.out.1.symm HV.out.2.symm, (Below.refl _ _).alloc (Nat.le_refl _) _⟩
theorem spec_kids (x : Value) (c : CoreT) (w : World) (lo hi : Nat) (hr : CRep w lo hi x c) : Calls Tryz.prog 65 #[x] w fun e w' => e = .returned (.tuple #[.int .i64 (kidsLo c.kind c.op), .int .i64 (kidsHi c.kind c.op)]) ∧ Below w.heap.size w w' := by
 by_cases h11 : c.kind = 11
 ·exact spec_11 x c w lo hi hr h11
 by_cases h12 : c.kind = 12
 ·exact spec_12 x c w lo hi hr h12
 by_cases h16 : c.kind = 16
 ·exact spec_16 x c w lo hi hr h16
 by_cases h14 : c.kind = 14
 ·exact spec_14 x c w lo hi hr h14
 by_cases h20 : c.kind = 20
 ·exact spec_20 x c w lo hi hr h20
 by_cases h23 : c.kind = 23
 ·exact spec_23 x c w lo hi hr h23
 by_cases h26 : c.kind = 26
 ·exact spec_26 x c w lo hi hr h26
 by_cases h27 : c.kind = 27
 ·exact spec_27 x c w lo hi hr h27
 by_cases h13 : c.kind = 13
 ·exact spec_13 x c w lo hi hr h13
 by_cases h15 : c.kind = 15
 ·exact spec_15 x c w lo hi hr h15
 by_cases h18 : c.kind = 18
 ·exact spec_18 x c w lo hi hr h18
 by_cases h19 : c.kind = 19
 ·exact spec_19 x c w lo hi hr h19
 by_cases h22 : c.kind = 22
 ·exact spec_22 x c w lo hi hr h22
 by_cases h25 : c.kind = 25
 ·exact spec_25 x c w lo hi hr h25
 by_cases h17 : c.kind = 17
 ·exact spec_17 x c w lo hi hr h17
 exact spec_no x c w lo hi hr (by rintro (h | h | h | h | h | h | h | h | h | h | h | h | h | h | h) <;> contradiction)
end Go.Proofs.YtjeomamdlmoghaaGreatDoor
end
section
namespace Go.Proofs.YtjeomamdlmoghaaGreatDoor
open Go.RowKit
theorem cmpD {a b : ByteArray} {k : Nat} (ha : k < a.size) (hb : k < b.size) : Lib.compareBytes (a.data.toList.drop k) (b.data.toList.drop k) =
 if byteAt a k < byteAt b k then -1 else if byteAt b k < byteAt a k then 1 else Lib.compareBytes (a.data.toList.drop (k + 1)) (b.data.toList.drop (k + 1)) := by
 have ha' : k < a.data.toList.length := ha
 have hb' : k < b.data.toList.length := hb
 rw [List.drop_eq_getElem_cons ha', List.drop_eq_getElem_cons hb', Lib.compareBytes]
 have e1 : byteAt a k = (a.data.toList[k]).toNat := by unfold byteAt; rw [List.getD_eq_getElem?_getD, List.getElem?_eq_getElem ha']; rfl
 have e2 : byteAt b k = (b.data.toList[k]).toNat := by unfold byteAt; rw [List.getD_eq_getElem?_getD, List.getElem?_eq_getElem hb']; rfl
 rw [e1, e2]
 simp only [UInt8.lt_iff_toNat_lt]
theorem cmpE {a b : ByteArray} {k : Nat} (hk : k ≤ a.size) (hk' : k ≤ b.size) (h : k = a.size ∨ k = b.size) : Lib.compareBytes (a.data.toList.drop k) (b.data.toList.drop k) = if a.size < b.size then -1 else if b.size < a.size then 1 else 0 := by
 have la : a.data.toList.length = a.size := rfl
 have lb : b.data.toList.length = b.size := rfl
 rcases h with h | h
 ·rw [show a.data.toList.drop k = [] from List.drop_eq_nil_of_le (by omega)]
  by_cases e : k < b.size
  ·rw [List.drop_eq_getElem_cons (by omega : k < b.data.toList.length), if_pos (by omega)]; rfl
  ·rw [List.drop_eq_nil_of_le (by omega), if_neg (by omega), if_neg (by omega)]; rfl
 ·rw [show b.data.toList.drop k = [] from List.drop_eq_nil_of_le (by omega)]
  by_cases e : k < a.size
  ·rw [List.drop_eq_getElem_cons (by omega : k < a.data.toList.length), if_neg (by omega), if_pos (by omega)]; rfl
  ·rw [List.drop_eq_nil_of_le (by omega), if_neg (by omega), if_neg (by omega)]; rfl
end Go.Proofs.YtjeomamdlmoghaaGreatDoor
end
section
namespace Go.Proofs.YtjeomamdlmoghaaGreatDoor
open Go.RowKit
theorem spec_ToText (v : LitT) (hv : v.Ok) (w : World) : Calls Tryz.prog 118 #[v.val] w (Gives (textV v.toText) w) := by
 cases v with
 | null =>
   unfold LitT.val
   go_enter Tryz.func118, Tryz.ntmps118
   go_wp2_with fail
   go_ret2
   first | exact ⟨rfl, Below.refl _ _⟩ | exact ⟨rfl, (Below.refl _ _).alloc (Nat.le_refl _) _⟩
 | text s =>
   unfold LitT.val
   go_enter Tryz.func118, Tryz.ntmps118
   go_wp2_with fail
   go_ret2
   first | exact ⟨rfl, Below.refl _ _⟩ | exact ⟨rfl, (Below.refl _ _).alloc (Nat.le_refl _) _⟩
 | int n =>
   have h0 : -9223372036854775808 ≤ n := by have := hv.1; omega
   have h1 : n ≤ 9223372036854775807 := by have := hv.2; omega
   unfold LitT.val
   have hb0 : Below w.heap.size w (w.alloc (.cells #[.int .i64 1, .int .i64 n, .int .i64 0, .string ⟨#[]⟩, .int .i64 0, .int .i64 0] 76)) := (Below.refl _ _).alloc (Nat.le_refl _) _
   have b0 := Blk.new w 76 #[.int .i64 1, .int .i64 n, .int .i64 0, .string ⟨#[]⟩, .int .i64 0, .int .i64 0]
   go_enter Tryz.func118, Tryz.ntmps118
   go_wp2_with fail
   refine (spec_FormatInt n _ h0 h1).mono ?_; rintro e w1 ⟨rfl, hb⟩
   have hb1 := hb0.trans (hb.mono (by simp))
   go_wp2_with fail
   go_ret2
   exact ⟨rfl, hb1⟩
 | set c =>
   unfold LitT.val
   have hb0 : Below w.heap.size w (w.alloc (.cells #[.int .i64 3, .int .i64 0, .int .i64 0, .string ⟨#[]⟩, .int .i64 c.lo.toInt, .int .i64 c.hi.toInt] 76)) := (Below.refl _ _).alloc (Nat.le_refl _) _
   have b0 := Blk.new w 76 #[.int .i64 3, .int .i64 0, .int .i64 0, .string ⟨#[]⟩, .int .i64 c.lo.toInt, .int .i64 c.hi.toInt]
   have hsz := csetText_size c
   by_cases h : (csetText c).size ≤ 120
   ·have HR : Hid ((LitT.set c).toText = some (csetText c)) := by show _ = _; simp only [LitT.toText]; rw [if_pos h]
    go_enter Tryz.func118, Tryz.ntmps118
    go_wp2_with fail
    refine (spec_CsetText c _).mono ?_; rintro e w1 ⟨rfl, hb⟩
    have hb1 := hb0.trans (hb.mono (by simp))
    go_wp2_with fail
    go_ret2
    exact ⟨by rw [HR.out]; rfl, hb1⟩
   ·have HR : Hid ((LitT.set c).toText = none) := by show _ = _; simp only [LitT.toText]; rw [if_neg h]
    go_enter Tryz.func118, Tryz.ntmps118
    go_wp2_with fail
    refine (spec_CsetText c _).mono ?_; rintro e w1 ⟨rfl, hb⟩
    have hb1 := hb0.trans (hb.mono (by simp))
    go_wp2_with fail
    go_ret2
    exact ⟨by rw [HR.out]; rfl, hb1⟩
theorem spec_ToInteger (v : LitT) (hv : v.Ok) (w : World) : Calls Tryz.prog 96 #[v.val] w (Gives (pairOf v.toInt) w) := by
 cases v with
 | int n =>
   unfold LitT.val
   go_enter Tryz.func96, Tryz.ntmps96
   go_wp2_with fail
   go_ret2
   first | exact ⟨rfl, Below.refl _ _⟩ | exact ⟨rfl, (Below.refl _ _).alloc (Nat.le_refl _) _⟩
 | null =>
   have HC : Hid (∀ W : World, Below w.heap.size w W → Calls Tryz.prog 118 #[LitT.null.val] W (Gives (textV LitT.null.toText) W)) := fun W hW => spec_ToText LitT.null hv W
   unfold LitT.val at HC ⊢
   have hb0 : Below w.heap.size w (w.alloc (.cells #[.int .i64 0, .int .i64 0, .int .i64 0, .string ⟨#[]⟩, .int .i64 0, .int .i64 0] 76)) := (Below.refl _ _).alloc (Nat.le_refl _) _
   go_enter Tryz.func96, Tryz.ntmps96
   go_wp2_with fail
   refine (HC.out _ hb0).mono ?_; rintro e w1 ⟨rfl, hb⟩
   have hb1 := hb0.trans (hb.mono (by simp))
   unfold textV
   go_wp2_with fail
   go_ret2
   exact ⟨rfl, hb1⟩
 | text s =>
   have HC : Hid (∀ W : World, Below w.heap.size w W → Calls Tryz.prog 118 #[(LitT.text s).val] W (Gives (textV (LitT.text s).toText) W)) := fun W hW => spec_ToText (LitT.text s) hv W
   have hsz : s.size ≤ 120 := hv
   unfold LitT.val at HC ⊢
   have hb0 : Below w.heap.size w (w.alloc (.cells #[.int .i64 2, .int .i64 0, .int .i64 0, .string s, .int .i64 0, .int .i64 0] 76)) := (Below.refl _ _).alloc (Nat.le_refl _) _
   go_enter Tryz.func96, Tryz.ntmps96
   go_wp2_with fail
   refine (HC.out _ hb0).mono ?_; rintro e w1 ⟨rfl, hb⟩
   have hb1 := hb0.trans (hb.mono (by simp))
   unfold textV
   go_wp2_with fail
   refine (spec_IntegerOfText s _ (by omega)).mono ?_; rintro e w2 ⟨rfl, rfl⟩
   unfold pairOf
   go_wp2_with fail
   go_ret2
   exact ⟨rfl, hb1⟩
 | set c =>
   have hsz := csetText_size c
   by_cases h : (csetText c).size ≤ 120
   ·have HT : Hid ((LitT.set c).toText = some (csetText c)) := by show _ = _; simp only [LitT.toText]; rw [if_pos h]
    have HI : Hid ((LitT.set c).toInt = integerOfText (csetText c)) := by show _ = _; simp only [LitT.toInt]; rw [if_pos h]
    have HC : Hid (∀ W : World, Below w.heap.size w W → Calls Tryz.prog 118 #[(LitT.set c).val] W (Gives (textV (LitT.set c).toText) W)) := fun W hW => spec_ToText (LitT.set c) hv W
    rw [HT.out] at HC
    unfold LitT.val at HC ⊢
    have hb0 : Below w.heap.size w (w.alloc (.cells #[.int .i64 3, .int .i64 0, .int .i64 0, .string ⟨#[]⟩, .int .i64 c.lo.toInt, .int .i64 c.hi.toInt] 76)) := (Below.refl _ _).alloc (Nat.le_refl _) _
    go_enter Tryz.func96, Tryz.ntmps96
    go_wp2_with fail
    refine (HC.out _ hb0).mono ?_; rintro e w1 ⟨rfl, hb⟩
    have hb1 := hb0.trans (hb.mono (by simp))
    unfold textV
    go_wp2_with fail
    refine (spec_IntegerOfText (csetText c) _ (by omega)).mono ?_; rintro e w2 ⟨rfl, rfl⟩
    unfold pairOf
    go_wp2_with fail
    go_ret2
    exact ⟨by rw [HI.out]; rfl, hb1⟩
   ·have HT : Hid ((LitT.set c).toText = none) := by show _ = _; simp only [LitT.toText]; rw [if_neg h]
    have HI : Hid ((LitT.set c).toInt = none) := by show _ = _; simp only [LitT.toInt]; rw [if_neg h]
    have HC : Hid (∀ W : World, Below w.heap.size w W → Calls Tryz.prog 118 #[(LitT.set c).val] W (Gives (textV (LitT.set c).toText) W)) := fun W hW => spec_ToText (LitT.set c) hv W
    rw [HT.out] at HC
    unfold LitT.val at HC ⊢
    have hb0 : Below w.heap.size w (w.alloc (.cells #[.int .i64 3, .int .i64 0, .int .i64 0, .string ⟨#[]⟩, .int .i64 c.lo.toInt, .int .i64 c.hi.toInt] 76)) := (Below.refl _ _).alloc (Nat.le_refl _) _
    go_enter Tryz.func96, Tryz.ntmps96
    go_wp2_with fail
    refine (HC.out _ hb0).mono ?_; rintro e w1 ⟨rfl, hb⟩
    have hb1 := hb0.trans (hb.mono (by simp))
    unfold textV
    go_wp2_with fail
    go_ret2
    exact ⟨by rw [HI.out]; rfl, hb1⟩
end Go.Proofs.YtjeomamdlmoghaaGreatDoor
end
section
namespace Go.Proofs.YtjeomamdlmoghaaGreatDoor
open Go.RowKit Go.Sort
theorem gPow : Tryz.prog.globalNamed "internal/strconv.uint64pow10" = some 3 := by kernel_rfl
def PowTab (w : World) : Prop := Lib.TabIs Tryz.prog w "internal/strconv.uint64pow10" .u64 Lib.pow10Tab ∧ 3 < w.heap.size
theorem PowTab.below {w w' : World} {B : Nat} (h : PowTab w) (hb : Below B w w') (hB : 3 < B) : PowTab w' :=
 ⟨var?_below hb gPow hB h.1, Nat.lt_of_lt_of_le h.2 hb.size⟩
theorem PowTab.later {w w' : World} (h : PowTab w) (hb : Below w.heap.size w w') : PowTab w' := h.below hb h.2
theorem below_grow (w : World) (k : Nat) (os : Array Obj) : Below w.heap.size w (grow (w.drewN k) os) :=
 ⟨rfl, rfl, rfl, by simp [grow, World.drewN], fun i hi => by
  show (w.heap ++ os)[i]? = w.heap[i]?
  rw [Array.getElem?_append_left hi]⟩
theorem impl_FormatInt (n : Int) (w : World) (h0 : -9223372036854775808 ≤ n) (h1 : n ≤ 9223372036854775807) (ht : PowTab w) :
 Calls Tryz.prog 146 #[.int .i64 n] w fun e w' => e = .returned (.string (formatInt n)) ∧ Below w.heap.size w w' := by
 have HC := Lib.hid (Tryz.strconv_Itoa n h0 h1 w ht.1)
 clear ht
 go_enter Tryz.func146, Tryz.ntmps146
 go_wp2_with fail
 refine HC.out.mono ?_
 rintro e w1 ⟨rfl, k, os, hw⟩
 have hb : Below w.heap.size w w1 := hw ▸ below_grow w k os
 clear hw
 go_wp2_with fail
 go_ret
 exact ⟨rfl, hb⟩
end Go.Proofs.YtjeomamdlmoghaaGreatDoor
end
section
namespace Go.Proofs.YtjeomamdlmoghaaGreatDoor
open Go.RowKit
theorem u_wrap (x : BitVec 64) : IntKind.u64.wrap x.toInt = (x.toNat : Int) := by
 rw [IntKind.wrap_u64, BitVec.toInt_eq_toNat_cond]
 have := x.isLt
 split <;> omega
theorem u_pow (b : Nat) (h : b ≤ 63) : IntKind.u64.wrap (2 ^ b) = ((BitVec.twoPow 64 b).toNat : Int) := by
 have h1 : (2 : Nat) ^ b < 2 ^ 64 := Nat.pow_lt_pow_right (by decide) (by omega)
 rw [BitVec.toNat_twoPow, Nat.mod_eq_of_lt h1, IntKind.wrap_u64]
 have e : ((2 : Int) ^ b) = ((2 ^ b : Nat) : Int) := by simp
 rw [e]
 generalize (2 : Nat) ^ b = m at *
 omega
theorem of_nat_bv (x : BitVec 64) : BitVec.ofInt 64 (x.toNat : Int) = x := by
 apply BitVec.eq_of_toNat_eq
 rw [BitVec.ofInt_natCast, BitVec.toNat_ofNat]
 exact Nat.mod_eq_of_lt x.isLt
theorem bits_or_u (x y : BitVec 64) : bits .or .u64 (x.toNat : Int) (y.toNat : Int) = ((x ||| y).toNat : Int) := by
 have e : IntKind.u64.wrap ((x ||| y).toNat : Int) = ((x ||| y).toNat : Int) := by
  rw [IntKind.wrap_u64]
  have := (x ||| y).isLt
  omega
 rw [← e]
 simp only [bits, IntKind.bits]
 rw [of_nat_bv, of_nat_bv]
 rfl
theorem bits_and_u (x y : BitVec 64) : bits .and .u64 (x.toNat : Int) (y.toNat : Int) = ((x &&& y).toNat : Int) := by
 have e : IntKind.u64.wrap ((x &&& y).toNat : Int) = ((x &&& y).toNat : Int) := by
  rw [IntKind.wrap_u64]
  have := (x &&& y).isLt
  omega
 rw [← e]
 simp only [bits, IntKind.bits]
 rw [of_nat_bv, of_nat_bv]
 rfl
theorem w64_bv (v : BitVec 64) : wrap64 (v.toNat : Int) = v.toInt := by
 have := wrap_bv v
 rw [IntKind.wrap_i64] at this
 simpa only [wrap64] using this
theorem with_eq (x : BitVec 64) (b : Nat) (h : b ≤ 63) : wrap64 (bits .or .u64 (IntKind.u64.wrap x.toInt) (IntKind.u64.wrap (2 ^ b))) = (x ||| BitVec.twoPow 64 b).toInt := by
 rw [u_wrap, u_pow b h, bits_or_u, w64_bv]
theorem has_eq (x : BitVec 64) (b : Nat) (h : b ≤ 63) : (bits .and .u64 (IntKind.u64.wrap x.toInt / 2 ^ b) 1 == 1) = x.getLsbD b := by
 rw [u_wrap]
 have e : (x.toNat : Int) / 2 ^ b = ((x >>> b).toNat : Int) := by
  rw [BitVec.toNat_ushiftRight, Nat.shiftRight_eq_div_pow]
  simp
 have e1 : (1 : Int) = ((1#64).toNat : Int) := rfl
 rw [e, e1, bits_and_u]
 have h3 : (x >>> b &&& 1#64).toNat = (x.getLsbD b).toNat := by
  rw [BitVec.toNat_and, BitVec.toNat_ushiftRight]
  show (x.toNat >>> b) &&& 1 = _
  rw [Nat.and_one_is_mod, BitVec.getLsbD, Nat.testBit, Nat.one_and_eq_mod_two]
  have := Nat.mod_two_eq_zero_or_one (x.toNat >>> b)
  rcases this with h | h <;> simp [h]
 rw [h3]
 cases x.getLsbD b <;> rfl
theorem impl_withByte (c : CsetT) (b : Nat) (w : World) (hb : b ≤ 127) :
 Calls Tryz.prog 129 #[c.val, .int .u8 b] w fun e w' => e = .returned (c.add b).val ∧ Below w.heap.size w w' := by
 by_cases h : b ≤ 63
 ·have HE := Lib.hid (with_eq c.lo b h)
  have HA : Hid ((c.add b).val = .agg #[.int .i64 (c.lo ||| BitVec.twoPow 64 b).toInt, .int .i64 c.hi.toInt]) := by show _ = _; rw [CsetT.add, if_pos h]; rfl
  rw [HA.out]
  unfold CsetT.val
  go_enter Tryz.func129, Tryz.ntmps129
  go_wp2_with fail
  refine bodyPost_ret (v := .agg #[.int .i64 (wrap64 (bits .or .u64 (IntKind.u64.wrap c.lo.toInt) (IntKind.u64.wrap (2 ^ b)))), .int .i64 c.hi.toInt]) ?_ rfl ⟨?_, ((Below.refl _ _).alloc (Nat.le_refl _) _).alloc (by simp) _⟩
  ·simp [results, Tryz.results129, go_sem]
  ·rw [HE.out]
 ·obtain ⟨d, rfl⟩ : ∃ d : Nat, b = d + 64 := ⟨b - 64, by omega⟩
  have HE := Lib.hid (with_eq c.hi d (by omega))
  have HA : Hid ((c.add (d + 64)).val = .agg #[.int .i64 c.lo.toInt, .int .i64 (c.hi ||| BitVec.twoPow 64 d).toInt]) := by show _ = _; rw [CsetT.add, if_neg h, Nat.add_sub_cancel]; rfl
  rw [HA.out]
  unfold CsetT.val
  go_enter Tryz.func129, Tryz.ntmps129
  go_wp2_with fail
  refine bodyPost_ret (v := .agg #[.int .i64 c.lo.toInt, .int .i64 (wrap64 (bits .or .u64 (IntKind.u64.wrap c.hi.toInt) (IntKind.u64.wrap (2 ^ d))))]) ?_ rfl ⟨?_, ((Below.refl _ _).alloc (Nat.le_refl _) _).alloc (by simp) _⟩
  ·simp [results, Tryz.results129, go_sem]
  ·rw [HE.out]
theorem impl_HasByte (c : CsetT) (b : Nat) (w : World) (hb : b ≤ 127) :
 Calls Tryz.prog 138 #[c.val, .int .u8 b] w fun e w' => e = .returned (.bool (c.has b)) ∧ Below w.heap.size w w' := by
 by_cases h : b ≤ 63
 ·have HE : Hid ((bits .and .u64 (IntKind.u64.wrap c.lo.toInt / 2 ^ b) 1 == 1) = c.has b) := by show _ = _; rw [has_eq _ b h, CsetT.has, if_pos h]
  unfold CsetT.val
  go_enter Tryz.func138, Tryz.ntmps138
  go_wp2_with fail
  go_ret
  exact ⟨ret_bool HE.out, (Below.refl _ _).alloc (Nat.le_refl _) _⟩
 ·obtain ⟨d, rfl⟩ : ∃ d : Nat, b = d + 64 := ⟨b - 64, by omega⟩
  have HE : Hid ((bits .and .u64 (IntKind.u64.wrap c.hi.toInt / 2 ^ d) 1 == 1) = c.has (d + 64)) := by show _ = _; rw [has_eq _ d (by omega), CsetT.has, if_neg h, Nat.add_sub_cancel]
  unfold CsetT.val
  go_enter Tryz.func138, Tryz.ntmps138
  go_wp2_with fail
  go_ret
  exact ⟨ret_bool HE.out, (Below.refl _ _).alloc (Nat.le_refl _) _⟩
end Go.Proofs.YtjeomamdlmoghaaGreatDoor
end
section
namespace Go.Proofs.YtjeomamdlmoghaaGreatDoor
open Go.RowKit
theorem impl_NewCset (s : ByteArray) (w : World) (hs : s.size ≤ 1048576) :
 Calls Tryz.prog 112 #[.string s] w (CsetPair (newCset s) (asciiB s) w) := by
 go_enter Tryz.func112, Tryz.ntmps112
 go_wp2_with fail
 go_loopw [5] (fun i wr => ∃ k : Nat, k ≤ s.size ∧ i = .int .i64 k ∧ Hid (∀ j, j < k → byteAt s j ≤ 127) ∧ Blk wr w.heap.size 74 #[.int .i64 0, .int .i64 0] ∧ Blk wr (w.heap.size + 1) 74 #[.int .i64 (csetTo s k).lo.toInt, .int .i64 (csetTo s k).hi.toInt] ∧ Below w.heap.size w wr) (fun i _ => s.size - (intOf i).toNat)
 case atStart => exact ⟨0, Nat.zero_le _, rfl, (fun j hj => by omega), (Blk.new w _ _).alloc _, Blk.newAt _ _ _ _ (by simp), ((Below.refl _ _).alloc (Nat.le_refl _) _).alloc (by simp) _⟩
 case round =>
  obtain ⟨k, hk, rfl, hgo, hr, hc, hb⟩ := hrel
  obtain ⟨wo, rfl⟩ : ∃ wo : World, wo = wr := ⟨_, rfl⟩
  have hz := hb.size
  by_cases hlt : k < s.size
  ·have HK := Lib.hid (byteAt_eq s k hlt)
   by_cases h7 : 127 < s[k].toNat
   ·have HN := Lib.hid (ascii_no hlt (by rw [HK.out]; exact h7))
    have cr := hr.cell
    have fr := hr.frozen
    go_wp2_with fail
    refine bodyPost_ret (v := .tuple #[.agg #[.int .i64 0, .int .i64 0], .bool false]) ?_ rfl ⟨?_, ?_⟩
    ·simp [results, Tryz.results112, go_sem, cr]
    ·rw [newCset_no HN.out, HN.out]; rfl
    ·exact (hb.setCell (p := ⟨w.heap.size, 0, none⟩) (Nat.le_refl _) _).setCell (p := ⟨w.heap.size, 1, none⟩) (Nat.le_refl _) _
   ·have hb7 : s[k].toNat ≤ 127 := by omega
    have HG : Hid (∀ j, j < k + 1 → byteAt s j ≤ 127) := by
     intro j hj
     by_cases e : j = k
     ·rw [e, HK.out]; exact hb7
     ·exact hgo.out j (by omega)
    have HS := Lib.hid (csetTo_succ s k)
    have cc := hc.cell
    have e0 : (0 : Int) ≤ (k : Int) := by omega
    have e8 : (k : Int) < (s.size : Int) := by omega
    clear hgo
    go_wp2_with fail
    go_region_with (first
     | (go_at_call 129; refine (impl_withByte (csetTo s k) s[k].toNat _ hb7).mono ?_; rintro e w1 ⟨rfl, hb1⟩; unfold CsetT.val; have cc1 := (hc.drew.later hb1).cell; have fc1 := (hc.drew.later hb1).frozen))
    all_goals
     have hr1 := hr.drew.later hb1
     have hc1 := hc.drew.later hb1
     have hb2 : Below w.heap.size w w1 := hb.drew.trans (hb1.mono hz)
     clear cc cc1 fc1
     go_wp2_with fail
     go_roundw
     case rel =>
      refine ⟨k + 1, by omega, by go_num, HG, (hr1.far (p := ⟨w.heap.size + 1, 0, none⟩) (by simp) _).far (p := ⟨w.heap.size + 1, 1, none⟩) (by simp) _, ?_, (hb2.setCell (p := ⟨w.heap.size + 1, 0, none⟩) (by simp) _).setCell (p := ⟨w.heap.size + 1, 1, none⟩) (by simp) _⟩
      rw [HS.out, HK.out]
      exact (hc1.set_ 0 _).set_ 1 _
     case measure => simp [intOf]; omega
  ·obtain rfl : k = s.size := by omega
   have HY := Lib.hid (ascii_yes hgo.out)
   have cc := hc.cell
   have cr := hr.cell
   have fr := hr.frozen
   clear hgo
   go_wp2_with fail
   refine bodyPost_ret (v := .tuple #[(csetTo s s.size).val, .bool true]) ?_ rfl ⟨?_, ?_⟩
   ·simp [results, Tryz.results112, go_sem, cr, CsetT.val]
   ·rw [newCset_yes HY.out, HY.out]
   ·exact (hb.setCell (p := ⟨w.heap.size, 0, none⟩) (Nat.le_refl _) _).setCell (p := ⟨w.heap.size, 1, none⟩) (Nat.le_refl _) _
theorem impl_CsetText (c : CsetT) (w : World) :
 Calls Tryz.prog 115 #[c.val] w fun e w' => e = .returned (.string (csetText c)) ∧ Below w.heap.size w w' := by
 have hcv := fun (W : World) (g cap n : Nat) (xs : List Int) (hl : xs.length = n) (hc : ∀ i, i < n → W.cell? ⟨g, 0 + i, none⟩ = some (.int .u8 (xs.getD i 0))) => run_convert_bytes_arg (P := Tryz.prog) W 119 5 Tryz.underlying119 Tryz.underlying5 g 0 n cap xs hl hc 9 Tryz.underlying9
 have HCV := Lib.hid hcv
 clear hcv
 unfold CsetT.val
 go_enter Tryz.func115, Tryz.ntmps115
 go_wp2_with fail
 go_loopw [3, 4] (fun v i wr => ∃ k : Nat, k ≤ 128 ∧ i = .int .i64 k ∧ wr.ownsRow w.heap.size 5 1 v (csetNums c k).length ((csetNums c k).map fun (j : Nat) => Value.int .u8 (j : Int)) ∧ IsSl v (csetNums c k).length ∧ Blk wr w.heap.size 74 #[.int .i64 c.lo.toInt, .int .i64 c.hi.toInt] ∧ v.ownBlock ≠ some w.heap.size ∧ Below w.heap.size w wr) (fun _ i _ => 128 - (intOf i).toNat)
 case atStart =>
  have h0 := World.ownsRow_lit (w.alloc (.cells #[.int .i64 c.lo.toInt, .int .i64 c.hi.toInt] 74)) #[] 0 (e := 5) (size := 1) (Nat.le_refl _) (by decide) rfl
  have h1 := own_base' h0 (base' := w.heap.size) (by simp)
  refine ⟨0, Nat.zero_le _, rfl, ?_, ⟨w.heap.size + 1, 0, rfl⟩, (Blk.new w _ _).alloc _, (by simp [Value.ownBlock]), ((Below.refl _ _).alloc (Nat.le_refl _) _).alloc (by simp) _⟩
  simpa [csetNums] using h1
 case round =>
  obtain ⟨k, hk, rfl, hown, hsl, ha, hne, hb⟩ := hrel
  obtain ⟨wo, rfl⟩ : ∃ wo : World, wo = wr := ⟨_, rfl⟩
  obtain ⟨v, hv⟩ : ∃ v, v = u3 := ⟨_, rfl⟩
  subst hv
  have hz := hb.size
  have hln := csetNums_len c k
  by_cases hlt : k < 128
  ·have ca := ha.cell
   have HC := Lib.hid (fun w => impl_HasByte c k w (by omega))
   cases hh : c.has k with
   | true =>
     rw [hh] at HC
     have HS := Lib.hid (csetNums_yes hh)
     clear hh
     go_wp2_with fail
     refine (HC.out _).mono ?_; rintro e w1 ⟨rfl, hb1⟩
     have hown1 := own_later hown hb1
     have ha1 := ha.later hb1
     have hb2 := hb.trans (hb1.mono hz)
     clear hown ca ha hb1 hsl
     go_wp2_with (first | (at_builtin; refine wpList_push rfl (.tmp 14) (.tmp 17) 119 rfl 5 _ 1 1 info_u8 Tryz.underlying119 rfl (by decide) (by decide) w.heap.size v _ _ rfl hown1 #[.int .u8 k] 1 _ rfl rfl (by simp [Value.oneCell']) (by omega) hb2.size ?_))
     rintro v' w2 hown2 hgrow hat
     have hb3 := below_push hb2 hb2.size hown1 hgrow
     have ha3 := ha1.grown hgrow (fun e => hne e.symm)
     have hne3 : v'.ownBlock ≠ some w.heap.size := by
      rcases hat with e | e
      ·rw [e]; exact hne
      ·rw [e]; intro h; injection h with h; have := hb2.size; omega
     obtain ⟨g, cap, hv', -⟩ := hown2.form (by omega)
     have ho3 : w2.ownsRow w.heap.size 5 1 v' (csetNums c (k + 1)).length ((csetNums c (k + 1)).map fun (j : Nat) => Value.int .u8 (j : Int)) := by rw [HS.out]; simpa using hown2
     have hs3 : IsSl v' (csetNums c (k + 1)).length := ⟨g, cap, by rw [HS.out, hv']; simp⟩
     clear hown2 hgrow hat hown1 hv' ha1 hne
     go_wp2_with fail
     go_roundw
     case rel => exact ⟨k + 1, by omega, by go_num, ho3, hs3, ha3, hne3, hb3⟩
     case measure => simp [intOf]; omega
   | false =>
     rw [hh] at HC
     have HS := Lib.hid (csetNums_no hh)
     clear hh
     go_wp2_with fail
     refine (HC.out _).mono ?_; rintro e w1 ⟨rfl, hb1⟩
     have hown1 := own_later hown hb1
     have ha1 := ha.later hb1
     have hb2 := hb.trans (hb1.mono hz)
     clear hown ca ha hb1
     go_wp2_with fail
     go_roundw
     case rel => exact ⟨k + 1, by omega, by go_num, by rw [HS.out]; exact hown1, by rw [HS.out]; exact hsl, ha1, hne, hb2⟩
     case measure => simp [intOf]; omega
  ·obtain rfl : k = 128 := by omega
   obtain ⟨g, cap, rfl⟩ := hsl
   have hcv := HCV.out wo g cap (csetNums c 128).length ((csetNums c 128).map fun (j : Nat) => (j : Int)) (by simp) (fun i hi => by
    have := hown.cellAt i (by omega)
    rw [Nat.zero_add, this, List.getElem?_map, List.getElem?_eq_getElem hi, List.getD, List.getElem?_map, List.getElem?_eq_getElem hi]
    rfl)
   clear hown HCV
   go_wp2_with fail
   go_ret
   exact ⟨rfl, hb⟩
end Go.Proofs.YtjeomamdlmoghaaGreatDoor
end
section
namespace Go.Proofs.YtjeomamdlmoghaaGreatDoor
open Go.RowKit
theorem impl_ToText (v : LitT) (hv : v.Ok) (w : World) (ht : PowTab w) : Calls Tryz.prog 127 #[v.val] w (Gives (textV v.toText) w) := by
 cases v with
 | null =>
   unfold LitT.val
   go_enter Tryz.func127, Tryz.ntmps127
   go_wp2_with fail
   go_ret2
   first | exact ⟨rfl, Below.refl _ _⟩ | exact ⟨rfl, (Below.refl _ _).alloc (Nat.le_refl _) _⟩
 | text s =>
   unfold LitT.val
   go_enter Tryz.func127, Tryz.ntmps127
   go_wp2_with fail
   go_ret2
   first | exact ⟨rfl, Below.refl _ _⟩ | exact ⟨rfl, (Below.refl _ _).alloc (Nat.le_refl _) _⟩
 | int n =>
   have h0 : -9223372036854775808 ≤ n := by have := hv.1; omega
   have h1 : n ≤ 9223372036854775807 := by have := hv.2; omega
   unfold LitT.val
   have hb0 : Below w.heap.size w (w.alloc (.cells #[.int .i64 1, .int .i64 n, .int .i64 0, .string ⟨#[]⟩, .int .i64 0, .int .i64 0] 76)) := (Below.refl _ _).alloc (Nat.le_refl _) _
   have b0 := Blk.new w 76 #[.int .i64 1, .int .i64 n, .int .i64 0, .string ⟨#[]⟩, .int .i64 0, .int .i64 0]
   go_enter Tryz.func127, Tryz.ntmps127
   go_wp2_with fail
   refine (impl_FormatInt n _ h0 h1 (ht.later hb0)).mono ?_; rintro e w1 ⟨rfl, hb⟩
   have hb1 := hb0.trans (hb.mono (by simp))
   go_wp2_with fail
   go_ret2
   exact ⟨rfl, hb1⟩
 | set c =>
   unfold LitT.val
   have hb0 : Below w.heap.size w (w.alloc (.cells #[.int .i64 3, .int .i64 0, .int .i64 0, .string ⟨#[]⟩, .int .i64 c.lo.toInt, .int .i64 c.hi.toInt] 76)) := (Below.refl _ _).alloc (Nat.le_refl _) _
   have b0 := Blk.new w 76 #[.int .i64 3, .int .i64 0, .int .i64 0, .string ⟨#[]⟩, .int .i64 c.lo.toInt, .int .i64 c.hi.toInt]
   have hsz := csetText_size c
   by_cases h : (csetText c).size ≤ 120
   ·have HR : Hid ((LitT.set c).toText = some (csetText c)) := by show _ = _; simp only [LitT.toText]; rw [if_pos h]
    go_enter Tryz.func127, Tryz.ntmps127
    go_wp2_with fail
    refine (impl_CsetText c _).mono ?_; rintro e w1 ⟨rfl, hb⟩
    have hb1 := hb0.trans (hb.mono (by simp))
    go_wp2_with fail
    go_ret2
    exact ⟨by rw [HR.out]; rfl, hb1⟩
   ·have HR : Hid ((LitT.set c).toText = none) := by show _ = _; simp only [LitT.toText]; rw [if_neg h]
    go_enter Tryz.func127, Tryz.ntmps127
    go_wp2_with fail
    refine (impl_CsetText c _).mono ?_; rintro e w1 ⟨rfl, hb⟩
    have hb1 := hb0.trans (hb.mono (by simp))
    go_wp2_with fail
    go_ret2
    exact ⟨by rw [HR.out]; rfl, hb1⟩
theorem impl_ToInteger (v : LitT) (hv : v.Ok) (w : World) (ht : PowTab w) : Calls Tryz.prog 109 #[v.val] w (Gives (pairOf v.toInt) w) := by
 cases v with
 | int n =>
   unfold LitT.val
   go_enter Tryz.func109, Tryz.ntmps109
   go_wp2_with fail
   go_ret2
   first | exact ⟨rfl, Below.refl _ _⟩ | exact ⟨rfl, (Below.refl _ _).alloc (Nat.le_refl _) _⟩
 | null =>
   have HC : Hid (∀ W : World, Below w.heap.size w W → Calls Tryz.prog 127 #[LitT.null.val] W (Gives (textV LitT.null.toText) W)) := fun W hW => impl_ToText LitT.null hv W (ht.later hW)
   unfold LitT.val at HC ⊢
   have hb0 : Below w.heap.size w (w.alloc (.cells #[.int .i64 0, .int .i64 0, .int .i64 0, .string ⟨#[]⟩, .int .i64 0, .int .i64 0] 76)) := (Below.refl _ _).alloc (Nat.le_refl _) _
   go_enter Tryz.func109, Tryz.ntmps109
   go_wp2_with fail
   refine (HC.out _ hb0).mono ?_; rintro e w1 ⟨rfl, hb⟩
   have hb1 := hb0.trans (hb.mono (by simp))
   unfold textV
   go_wp2_with fail
   go_ret2
   exact ⟨rfl, hb1⟩
 | text s =>
   have HC : Hid (∀ W : World, Below w.heap.size w W → Calls Tryz.prog 127 #[(LitT.text s).val] W (Gives (textV (LitT.text s).toText) W)) := fun W hW => impl_ToText (LitT.text s) hv W (ht.later hW)
   have hsz : s.size ≤ 120 := hv
   unfold LitT.val at HC ⊢
   have hb0 : Below w.heap.size w (w.alloc (.cells #[.int .i64 2, .int .i64 0, .int .i64 0, .string s, .int .i64 0, .int .i64 0] 76)) := (Below.refl _ _).alloc (Nat.le_refl _) _
   go_enter Tryz.func109, Tryz.ntmps109
   go_wp2_with fail
   refine (HC.out _ hb0).mono ?_; rintro e w1 ⟨rfl, hb⟩
   have hb1 := hb0.trans (hb.mono (by simp))
   unfold textV
   go_wp2_with fail
   refine (impl_IntegerOfText s _ (by omega)).mono ?_; rintro e w2 ⟨rfl, rfl⟩
   unfold pairOf
   go_wp2_with fail
   go_ret2
   exact ⟨rfl, hb1⟩
 | set c =>
   have hsz := csetText_size c
   by_cases h : (csetText c).size ≤ 120
   ·have HT : Hid ((LitT.set c).toText = some (csetText c)) := by show _ = _; simp only [LitT.toText]; rw [if_pos h]
    have HI : Hid ((LitT.set c).toInt = integerOfText (csetText c)) := by show _ = _; simp only [LitT.toInt]; rw [if_pos h]
    have HC : Hid (∀ W : World, Below w.heap.size w W → Calls Tryz.prog 127 #[(LitT.set c).val] W (Gives (textV (LitT.set c).toText) W)) := fun W hW => impl_ToText (LitT.set c) hv W (ht.later hW)
    rw [HT.out] at HC
    unfold LitT.val at HC ⊢
    have hb0 : Below w.heap.size w (w.alloc (.cells #[.int .i64 3, .int .i64 0, .int .i64 0, .string ⟨#[]⟩, .int .i64 c.lo.toInt, .int .i64 c.hi.toInt] 76)) := (Below.refl _ _).alloc (Nat.le_refl _) _
    go_enter Tryz.func109, Tryz.ntmps109
    go_wp2_with fail
    refine (HC.out _ hb0).mono ?_; rintro e w1 ⟨rfl, hb⟩
    have hb1 := hb0.trans (hb.mono (by simp))
    unfold textV
    go_wp2_with fail
    refine (impl_IntegerOfText (csetText c) _ (by omega)).mono ?_; rintro e w2 ⟨rfl, rfl⟩
    unfold pairOf
    go_wp2_with fail
    go_ret2
    exact ⟨by rw [HI.out]; rfl, hb1⟩
   ·have HT : Hid ((LitT.set c).toText = none) := by show _ = _; simp only [LitT.toText]; rw [if_neg h]
    have HI : Hid ((LitT.set c).toInt = none) := by show _ = _; simp only [LitT.toInt]; rw [if_neg h]
    have HC : Hid (∀ W : World, Below w.heap.size w W → Calls Tryz.prog 127 #[(LitT.set c).val] W (Gives (textV (LitT.set c).toText) W)) := fun W hW => impl_ToText (LitT.set c) hv W (ht.later hW)
    rw [HT.out] at HC
    unfold LitT.val at HC ⊢
    have hb0 : Below w.heap.size w (w.alloc (.cells #[.int .i64 3, .int .i64 0, .int .i64 0, .string ⟨#[]⟩, .int .i64 c.lo.toInt, .int .i64 c.hi.toInt] 76)) := (Below.refl _ _).alloc (Nat.le_refl _) _
    go_enter Tryz.func109, Tryz.ntmps109
    go_wp2_with fail
    refine (HC.out _ hb0).mono ?_; rintro e w1 ⟨rfl, hb⟩
    have hb1 := hb0.trans (hb.mono (by simp))
    unfold textV
    go_wp2_with fail
    go_ret2
    exact ⟨by rw [HI.out]; rfl, hb1⟩
end Go.Proofs.YtjeomamdlmoghaaGreatDoor
end
section
namespace Go.Proofs.YtjeomamdlmoghaaGreatDoor
open Go.RowKit
theorem bits_sub_bv (u v : BitVec 64) : bits .andNot .i64 u.toInt v.toInt = (u &&& ~~~ v).toInt := by
 rw [← wrap_bv (u &&& ~~~ v)]
 simp only [bits, IntKind.bits, BitVec.ofInt_toInt]
 rfl
theorem bits_not_bv (v : BitVec 64) : bits .xor .i64 (-1) v.toInt = (~~~ v).toInt := by
 have e : BitVec.ofInt 64 (-1) ^^^ v = ~~~ v := by rw [show BitVec.ofInt 64 (-1) = BitVec.allOnes 64 from rfl, BitVec.allOnes_xor]
 rw [← e, ← wrap_bv (BitVec.ofInt 64 (-1) ^^^ v)]
 simp only [bits, IntKind.bits, BitVec.ofInt_toInt]
 rfl
theorem impl_UnionCsets (c d : CsetT) (w : World) : Calls Tryz.prog 135 #[c.val, d.val] w (Gives (c.or_ d).val w) := by
 unfold CsetT.val
 obtain ⟨bc, bd, br, B0⟩ := boxes3 w 74 #[.int .i64 c.lo.toInt, .int .i64 c.hi.toInt] 74 #[.int .i64 d.lo.toInt, .int .i64 d.hi.toInt] 74 #[.int .i64 0, .int .i64 0]
 go_enter Tryz.func135, Tryz.ntmps135
 go_wp2_with fail
 refine bodyPost_ret (v := .agg #[.int .i64 (bits .or .i64 c.lo.toInt d.lo.toInt), .int .i64 (bits .or .i64 c.hi.toInt d.hi.toInt)]) ?_ rfl ⟨?_, ?_⟩
 ·simp [results, Tryz.results135, go_sem]
 ·rw [bits_or_bv, bits_or_bv]; rfl
 ·repeat' first | exact B0 | exact ((((Below.refl w.heap.size w).alloc (Nat.le_refl _) _).alloc (by simp <;> omega) _).alloc (by simp <;> omega) _) | refine Below.setCell ?_ (by have hs := B0.size; first | omega | (simp; omega) | simp) _ | refine Below.alloc ?_ (by have hs := B0.size; first | omega | (simp; omega) | simp) _
theorem impl_IntersectCsets (c d : CsetT) (w : World) : Calls Tryz.prog 137 #[c.val, d.val] w (Gives (c.and_ d).val w) := by
 unfold CsetT.val
 obtain ⟨bc, bd, br, B0⟩ := boxes3 w 74 #[.int .i64 c.lo.toInt, .int .i64 c.hi.toInt] 74 #[.int .i64 d.lo.toInt, .int .i64 d.hi.toInt] 74 #[.int .i64 0, .int .i64 0]
 go_enter Tryz.func137, Tryz.ntmps137
 go_wp2_with fail
 refine bodyPost_ret (v := .agg #[.int .i64 (bits .and .i64 c.lo.toInt d.lo.toInt), .int .i64 (bits .and .i64 c.hi.toInt d.hi.toInt)]) ?_ rfl ⟨?_, ?_⟩
 ·simp [results, Tryz.results137, go_sem]
 ·rw [bits_and_bv, bits_and_bv]; rfl
 ·repeat' first | exact B0 | exact ((((Below.refl w.heap.size w).alloc (Nat.le_refl _) _).alloc (by simp <;> omega) _).alloc (by simp <;> omega) _) | refine Below.setCell ?_ (by have hs := B0.size; first | omega | (simp; omega) | simp) _ | refine Below.alloc ?_ (by have hs := B0.size; first | omega | (simp; omega) | simp) _
theorem impl_SubtractCsets (c d : CsetT) (w : World) : Calls Tryz.prog 136 #[c.val, d.val] w (Gives (c.sub_ d).val w) := by
 unfold CsetT.val
 obtain ⟨bc, bd, br, B0⟩ := boxes3 w 74 #[.int .i64 c.lo.toInt, .int .i64 c.hi.toInt] 74 #[.int .i64 d.lo.toInt, .int .i64 d.hi.toInt] 74 #[.int .i64 0, .int .i64 0]
 go_enter Tryz.func136, Tryz.ntmps136
 go_wp2_with fail
 refine bodyPost_ret (v := .agg #[.int .i64 (bits .andNot .i64 c.lo.toInt d.lo.toInt), .int .i64 (bits .andNot .i64 c.hi.toInt d.hi.toInt)]) ?_ rfl ⟨?_, ?_⟩
 ·simp [results, Tryz.results136, go_sem]
 ·rw [bits_sub_bv, bits_sub_bv]; rfl
 ·repeat' first | exact B0 | exact ((((Below.refl w.heap.size w).alloc (Nat.le_refl _) _).alloc (by simp <;> omega) _).alloc (by simp <;> omega) _) | refine Below.setCell ?_ (by have hs := B0.size; first | omega | (simp; omega) | simp) _ | refine Below.alloc ?_ (by have hs := B0.size; first | omega | (simp; omega) | simp) _
theorem impl_ComplementCset (c : CsetT) (w : World) : Calls Tryz.prog 108 #[c.val] w (Gives (c.not_).val w) := by
 unfold CsetT.val
 obtain ⟨bc, br, B0⟩ := boxes2 w 74 #[.int .i64 c.lo.toInt, .int .i64 c.hi.toInt] 74 #[.int .i64 0, .int .i64 0]
 go_enter Tryz.func108, Tryz.ntmps108
 go_wp2_with fail
 refine bodyPost_ret (v := .agg #[.int .i64 (bits .xor .i64 (-1) c.lo.toInt), .int .i64 (bits .xor .i64 (-1) c.hi.toInt)]) ?_ rfl ⟨?_, ?_⟩
 ·simp [results, Tryz.results108, go_sem]
 ·rw [bits_not_bv, bits_not_bv]; rfl
 ·repeat' first | exact B0 | exact (((Below.refl w.heap.size w).alloc (Nat.le_refl _) _).alloc (by simp <;> omega) _) | refine Below.setCell ?_ (by have hs := B0.size; first | omega | (simp; omega) | simp) _ | refine Below.alloc ?_ (by have hs := B0.size; first | omega | (simp; omega) | simp) _
theorem impl_ConcatTexts (a b : ByteArray) (w : World) (ha : a.size ≤ 120) (hb : b.size ≤ 120) :
 Calls Tryz.prog 133 #[.string a, .string b] w fun e w' => e = .returned (.tuple #[.string (if a.size + b.size ≤ 120 then a ++ b else ⟨#[]⟩), .bool (decide (a.size + b.size ≤ 120))]) ∧ w = w' := by
 by_cases h : a.size + b.size ≤ 120
 ·rw [if_pos h, decide_eq_true h]
  go_enter Tryz.func133, Tryz.ntmps133
  go_wp2_with fail
  go_ret2
  exact ⟨rfl, rfl⟩
 ·rw [if_neg h, decide_eq_false h]
  go_enter Tryz.func133, Tryz.ntmps133
  go_wp2_with fail
  go_ret2
  exact ⟨rfl, rfl⟩
theorem belN {B : Nat} {w w' : World} {n : Nat} (h : Below B w w') : Below B w (w'.drewN n) := ⟨h.os, h.tape, h.output, h.size, h.block⟩
theorem impl_CompareTexts (a b : ByteArray) (w : World) (ha : a.size ≤ 1048576) (hb : b.size ≤ 1048576) :
 Calls Tryz.prog 134 #[.string a, .string b] w fun e w' => e = .returned (.int .i64 (cmpS a b)) ∧ Below w.heap.size w w' := by
 go_enter Tryz.func134, Tryz.ntmps134
 go_wp2_with fail
 refine (Tryz.strings_Compare _ _ _).mono ?_; rintro e w' ⟨rfl, rfl⟩
 go_wp2_with fail
 go_ret
 exact ⟨rfl, Below.refl _ _⟩
theorem impl_sign (a b : Int) (w : World) : Calls Tryz.prog 132 #[.int .i64 a, .int .i64 b] w fun e w' => e = .returned (.int .i64 (signI a b)) ∧ w = w' := by
 by_cases h1 : a < b
 ·have HR : Hid (signI a b = -1) := by show _ = _; rw [signI, if_pos h1]
  go_enter Tryz.func132, Tryz.ntmps132
  go_wp2_with fail
  go_ret
  exact ⟨ret_int HR.out.symm, rfl⟩
 by_cases h2 : b < a
 ·have HR : Hid (signI a b = 1) := by show _ = _; rw [signI, if_neg h1, if_pos h2]
  go_enter Tryz.func132, Tryz.ntmps132
  go_wp2_with fail
  go_ret
  exact ⟨ret_int HR.out.symm, rfl⟩
 ·have HR : Hid (signI a b = 0) := by show _ = _; rw [signI, if_neg h1, if_neg h2]
  go_enter Tryz.func132, Tryz.ntmps132
  go_wp2_with fail
  go_ret
  exact ⟨ret_int HR.out.symm, rfl⟩
theorem impl_holds (k s : Int) (w : World) (h0 : 0 ≤ k) (h1 : k ≤ 5) : Calls Tryz.prog 131 #[.int .i64 k, .int .i64 s] w fun e w' => e = .returned (.bool (holdsB k s)) ∧ w = w' := by
 obtain rfl | rfl | rfl | rfl | rfl | rfl : k = 0 ∨ k = 1 ∨ k = 2 ∨ k = 3 ∨ k = 4 ∨ k = 5 := by omega
 all_goals
  go_enter Tryz.func131, Tryz.ntmps131
  go_wp2_with fail
  go_ret
  refine ⟨ret_bool ?_, rfl⟩
  rw [Bool.eq_iff_iff]
  simp [holdsB]
end Go.Proofs.YtjeomamdlmoghaaGreatDoor
end
