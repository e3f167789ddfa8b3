/- coreKids of the program. -/
import Derived.Test.YtppdelelgkepaaaDoorKidDefs
import Derived.Test.YtppdelelgkepaaaDoorArI
namespace Go.Proofs.YtppdelelgkepaaaDoor
open Go.RowKit
set_option linter.unusedVariables false

set_option maxRecDepth 100000 in
theorem impl_11 (x : Value) (c : CoreT) (w : World) (lo hi : Nat) (hr : CRep w lo hi x c) (ht : SpaceTab w) (h : c.kind = 11) : Calls Tryd.prog 38 #[x] w fun e w' => e = .returned (.tuple #[.int .i64 (kidsLo c.kind c.op), .int .i64 (kidsHi c.kind c.op)]) ∧ Below w.heap.size w w' := by
  obtain ⟨A, cap, rfl, -, -, -⟩ := hr.form
  have HV := Lib.hid (kids_op (op := c.op) h)
  have b11 : (c.kind == 11) = true := beq_iff_eq.2 h
  clear h hr
  have ht1 : SpaceTab (w.alloc (.cells #[.int .i64 c.kind, .int .i64 c.op, .int .i64 c.number, .int .i64 c.line, .string c.text, .slice A c.kids.length cap] 29)) := ht.later ((Below.refl _ _).alloc (Nat.le_refl _) _)
  go_enter Tryd.func38, Tryd.ntmps38
  go_wp2_with fail
  refine (impl_OperatorArity c.op _ ht1).mono ?_; rintro e w1 ⟨rfl, hb1⟩
  go_wp2_with fail
  go_ret2
  exact ⟨ret_intsK HV.out.1.symm HV.out.2.symm, ((Below.refl _ _).alloc (Nat.le_refl _) _).trans (hb1.mono (by simp))⟩
set_option maxRecDepth 100000 in
theorem impl_12 (x : Value) (c : CoreT) (w : World) (lo hi : Nat) (hr : CRep w lo hi x c) (ht : SpaceTab w) (h : c.kind = 12) : Calls Tryd.prog 38 #[x] w fun e w' => e = .returned (.tuple #[.int .i64 (kidsLo c.kind c.op), .int .i64 (kidsHi c.kind c.op)]) ∧ Below w.heap.size w w' := by
  obtain ⟨A, cap, rfl, -, -, -⟩ := hr.form
  have HV := Lib.hid (kids_12 (op := c.op) h)
  have b11 : (c.kind == 11) = false := beq_eq_false_iff_ne.2 (by omega)
  have b12 : (c.kind == 12) = true := beq_iff_eq.2 h
  clear h hr
  go_enter Tryd.func38, Tryd.ntmps38
  go_wp2_with fail
  go_ret2
  exact ⟨ret_intsK HV.out.1.symm HV.out.2.symm, (Below.refl _ _).alloc (Nat.le_refl _) _⟩
set_option maxRecDepth 100000 in
theorem impl_13 (x : Value) (c : CoreT) (w : World) (lo hi : Nat) (hr : CRep w lo hi x c) (ht : SpaceTab w) (h : c.kind = 13) : Calls Tryd.prog 38 #[x] w fun e w' => e = .returned (.tuple #[.int .i64 (kidsLo c.kind c.op), .int .i64 (kidsHi c.kind c.op)]) ∧ Below w.heap.size w w' := by
  obtain ⟨A, cap, rfl, -, -, -⟩ := hr.form
  have HV := Lib.hid (kids_13 (op := c.op) h)
  have b11 : (c.kind == 11) = false := beq_eq_false_iff_ne.2 (by omega)
  have b12 : (c.kind == 12) = false := beq_eq_false_iff_ne.2 (by omega)
  have b13 : (c.kind == 13) = true := beq_iff_eq.2 h
  clear h hr
  go_enter Tryd.func38, Tryd.ntmps38
  go_wp2_with fail
  go_ret2
  exact ⟨ret_intsK HV.out.1.symm HV.out.2.symm, (Below.refl _ _).alloc (Nat.le_refl _) _⟩
set_option maxRecDepth 100000 in
theorem impl_15 (x : Value) (c : CoreT) (w : World) (lo hi : Nat) (hr : CRep w lo hi x c) (ht : SpaceTab w) (h : c.kind = 15) : Calls Tryd.prog 38 #[x] w fun e w' => e = .returned (.tuple #[.int .i64 (kidsLo c.kind c.op), .int .i64 (kidsHi c.kind c.op)]) ∧ Below w.heap.size w w' := by
  obtain ⟨A, cap, rfl, -, -, -⟩ := hr.form
  have HV := Lib.hid (kids_15 (op := c.op) h)
  have b11 : (c.kind == 11) = false := beq_eq_false_iff_ne.2 (by omega)
  have b12 : (c.kind == 12) = false := beq_eq_false_iff_ne.2 (by omega)
  have b13 : (c.kind == 13) = false := beq_eq_false_iff_ne.2 (by omega)
  have b15 : (c.kind == 15) = true := beq_iff_eq.2 h
  clear h hr
  go_enter Tryd.func38, Tryd.ntmps38
  go_wp2_with fail
  go_ret2
  exact ⟨ret_intsK HV.out.1.symm HV.out.2.symm, (Below.refl _ _).alloc (Nat.le_refl _) _⟩
set_option maxRecDepth 100000 in
theorem impl_18 (x : Value) (c : CoreT) (w : World) (lo hi : Nat) (hr : CRep w lo hi x c) (ht : SpaceTab w) (h : c.kind = 18) : Calls Tryd.prog 38 #[x] w fun e w' => e = .returned (.tuple #[.int .i64 (kidsLo c.kind c.op), .int .i64 (kidsHi c.kind c.op)]) ∧ Below w.heap.size w w' := by
  obtain ⟨A, cap, rfl, -, -, -⟩ := hr.form
  have HV := Lib.hid (kids_18 (op := c.op) h)
  have b11 : (c.kind == 11) = false := beq_eq_false_iff_ne.2 (by omega)
  have b12 : (c.kind == 12) = false := beq_eq_false_iff_ne.2 (by omega)
  have b13 : (c.kind == 13) = false := beq_eq_false_iff_ne.2 (by omega)
  have b15 : (c.kind == 15) = false := beq_eq_false_iff_ne.2 (by omega)
  have b18 : (c.kind == 18) = true := beq_iff_eq.2 h
  clear h hr
  go_enter Tryd.func38, Tryd.ntmps38
  go_wp2_with fail
  go_ret2
  exact ⟨ret_intsK HV.out.1.symm HV.out.2.symm, (Below.refl _ _).alloc (Nat.le_refl _) _⟩
set_option maxRecDepth 100000 in
theorem impl_19 (x : Value) (c : CoreT) (w : World) (lo hi : Nat) (hr : CRep w lo hi x c) (ht : SpaceTab w) (h : c.kind = 19) : Calls Tryd.prog 38 #[x] w fun e w' => e = .returned (.tuple #[.int .i64 (kidsLo c.kind c.op), .int .i64 (kidsHi c.kind c.op)]) ∧ Below w.heap.size w w' := by
  obtain ⟨A, cap, rfl, -, -, -⟩ := hr.form
  have HV := Lib.hid (kids_19 (op := c.op) h)
  have b11 : (c.kind == 11) = false := beq_eq_false_iff_ne.2 (by omega)
  have b12 : (c.kind == 12) = false := beq_eq_false_iff_ne.2 (by omega)
  have b13 : (c.kind == 13) = false := beq_eq_false_iff_ne.2 (by omega)
  have b15 : (c.kind == 15) = false := beq_eq_false_iff_ne.2 (by omega)
  have b18 : (c.kind == 18) = false := beq_eq_false_iff_ne.2 (by omega)
  have b19 : (c.kind == 19) = true := beq_iff_eq.2 h
  clear h hr
  go_enter Tryd.func38, Tryd.ntmps38
  go_wp2_with fail
  go_ret2
  exact ⟨ret_intsK HV.out.1.symm HV.out.2.symm, (Below.refl _ _).alloc (Nat.le_refl _) _⟩
set_option maxRecDepth 100000 in
theorem impl_22 (x : Value) (c : CoreT) (w : World) (lo hi : Nat) (hr : CRep w lo hi x c) (ht : SpaceTab w) (h : c.kind = 22) : Calls Tryd.prog 38 #[x] w fun e w' => e = .returned (.tuple #[.int .i64 (kidsLo c.kind c.op), .int .i64 (kidsHi c.kind c.op)]) ∧ Below w.heap.size w w' := by
  obtain ⟨A, cap, rfl, -, -, -⟩ := hr.form
  have HV := Lib.hid (kids_22 (op := c.op) h)
  have b11 : (c.kind == 11) = false := beq_eq_false_iff_ne.2 (by omega)
  have b12 : (c.kind == 12) = false := beq_eq_false_iff_ne.2 (by omega)
  have b13 : (c.kind == 13) = false := beq_eq_false_iff_ne.2 (by omega)
  have b15 : (c.kind == 15) = false := beq_eq_false_iff_ne.2 (by omega)
  have b18 : (c.kind == 18) = false := beq_eq_false_iff_ne.2 (by omega)
  have b19 : (c.kind == 19) = false := beq_eq_false_iff_ne.2 (by omega)
  have b22 : (c.kind == 22) = true := beq_iff_eq.2 h
  clear h hr
  go_enter Tryd.func38, Tryd.ntmps38
  go_wp2_with fail
  go_ret2
  exact ⟨ret_intsK HV.out.1.symm HV.out.2.symm, (Below.refl _ _).alloc (Nat.le_refl _) _⟩
set_option maxRecDepth 100000 in
theorem impl_25 (x : Value) (c : CoreT) (w : World) (lo hi : Nat) (hr : CRep w lo hi x c) (ht : SpaceTab w) (h : c.kind = 25) : Calls Tryd.prog 38 #[x] w fun e w' => e = .returned (.tuple #[.int .i64 (kidsLo c.kind c.op), .int .i64 (kidsHi c.kind c.op)]) ∧ Below w.heap.size w w' := by
  obtain ⟨A, cap, rfl, -, -, -⟩ := hr.form
  have HV := Lib.hid (kids_25 (op := c.op) h)
  have b11 : (c.kind == 11) = false := beq_eq_false_iff_ne.2 (by omega)
  have b12 : (c.kind == 12) = false := beq_eq_false_iff_ne.2 (by omega)
  have b13 : (c.kind == 13) = false := beq_eq_false_iff_ne.2 (by omega)
  have b15 : (c.kind == 15) = false := beq_eq_false_iff_ne.2 (by omega)
  have b18 : (c.kind == 18) = false := beq_eq_false_iff_ne.2 (by omega)
  have b19 : (c.kind == 19) = false := beq_eq_false_iff_ne.2 (by omega)
  have b22 : (c.kind == 22) = false := beq_eq_false_iff_ne.2 (by omega)
  have b25 : (c.kind == 25) = true := beq_iff_eq.2 h
  clear h hr
  go_enter Tryd.func38, Tryd.ntmps38
  go_wp2_with fail
  go_ret2
  exact ⟨ret_intsK HV.out.1.symm HV.out.2.symm, (Below.refl _ _).alloc (Nat.le_refl _) _⟩
set_option maxRecDepth 100000 in
theorem impl_14 (x : Value) (c : CoreT) (w : World) (lo hi : Nat) (hr : CRep w lo hi x c) (ht : SpaceTab w) (h : c.kind = 14) : Calls Tryd.prog 38 #[x] w fun e w' => e = .returned (.tuple #[.int .i64 (kidsLo c.kind c.op), .int .i64 (kidsHi c.kind c.op)]) ∧ Below w.heap.size w w' := by
  obtain ⟨A, cap, rfl, -, -, -⟩ := hr.form
  have HV := Lib.hid (kids_14 (op := c.op) h)
  have b11 : (c.kind == 11) = false := beq_eq_false_iff_ne.2 (by omega)
  have b12 : (c.kind == 12) = false := beq_eq_false_iff_ne.2 (by omega)
  have b13 : (c.kind == 13) = false := beq_eq_false_iff_ne.2 (by omega)
  have b15 : (c.kind == 15) = false := beq_eq_false_iff_ne.2 (by omega)
  have b18 : (c.kind == 18) = false := beq_eq_false_iff_ne.2 (by omega)
  have b19 : (c.kind == 19) = false := beq_eq_false_iff_ne.2 (by omega)
  have b22 : (c.kind == 22) = false := beq_eq_false_iff_ne.2 (by omega)
  have b25 : (c.kind == 25) = false := beq_eq_false_iff_ne.2 (by omega)
  have b14 : (c.kind == 14) = true := beq_iff_eq.2 h
  clear h hr
  go_enter Tryd.func38, Tryd.ntmps38
  go_wp2_with fail
  go_ret2
  exact ⟨ret_intsK HV.out.1.symm HV.out.2.symm, (Below.refl _ _).alloc (Nat.le_refl _) _⟩
set_option maxRecDepth 100000 in
theorem impl_20 (x : Value) (c : CoreT) (w : World) (lo hi : Nat) (hr : CRep w lo hi x c) (ht : SpaceTab w) (h : c.kind = 20) : Calls Tryd.prog 38 #[x] w fun e w' => e = .returned (.tuple #[.int .i64 (kidsLo c.kind c.op), .int .i64 (kidsHi c.kind c.op)]) ∧ Below w.heap.size w w' := by
  obtain ⟨A, cap, rfl, -, -, -⟩ := hr.form
  have HV := Lib.hid (kids_20 (op := c.op) h)
  have b11 : (c.kind == 11) = false := beq_eq_false_iff_ne.2 (by omega)
  have b12 : (c.kind == 12) = false := beq_eq_false_iff_ne.2 (by omega)
  have b13 : (c.kind == 13) = false := beq_eq_false_iff_ne.2 (by omega)
  have b15 : (c.kind == 15) = false := beq_eq_false_iff_ne.2 (by omega)
  have b18 : (c.kind == 18) = false := beq_eq_false_iff_ne.2 (by omega)
  have b19 : (c.kind == 19) = false := beq_eq_false_iff_ne.2 (by omega)
  have b22 : (c.kind == 22) = false := beq_eq_false_iff_ne.2 (by omega)
  have b25 : (c.kind == 25) = false := beq_eq_false_iff_ne.2 (by omega)
  have b14 : (c.kind == 14) = false := beq_eq_false_iff_ne.2 (by omega)
  have b20 : (c.kind == 20) = true := beq_iff_eq.2 h
  clear h hr
  go_enter Tryd.func38, Tryd.ntmps38
  go_wp2_with fail
  go_ret2
  exact ⟨ret_intsK HV.out.1.symm HV.out.2.symm, (Below.refl _ _).alloc (Nat.le_refl _) _⟩
set_option maxRecDepth 100000 in
theorem impl_23 (x : Value) (c : CoreT) (w : World) (lo hi : Nat) (hr : CRep w lo hi x c) (ht : SpaceTab w) (h : c.kind = 23) : Calls Tryd.prog 38 #[x] w fun e w' => e = .returned (.tuple #[.int .i64 (kidsLo c.kind c.op), .int .i64 (kidsHi c.kind c.op)]) ∧ Below w.heap.size w w' := by
  obtain ⟨A, cap, rfl, -, -, -⟩ := hr.form
  have HV := Lib.hid (kids_23 (op := c.op) h)
  have b11 : (c.kind == 11) = false := beq_eq_false_iff_ne.2 (by omega)
  have b12 : (c.kind == 12) = false := beq_eq_false_iff_ne.2 (by omega)
  have b13 : (c.kind == 13) = false := beq_eq_false_iff_ne.2 (by omega)
  have b15 : (c.kind == 15) = false := beq_eq_false_iff_ne.2 (by omega)
  have b18 : (c.kind == 18) = false := beq_eq_false_iff_ne.2 (by omega)
  have b19 : (c.kind == 19) = false := beq_eq_false_iff_ne.2 (by omega)
  have b22 : (c.kind == 22) = false := beq_eq_false_iff_ne.2 (by omega)
  have b25 : (c.kind == 25) = false := beq_eq_false_iff_ne.2 (by omega)
  have b14 : (c.kind == 14) = false := beq_eq_false_iff_ne.2 (by omega)
  have b20 : (c.kind == 20) = false := beq_eq_false_iff_ne.2 (by omega)
  have b23 : (c.kind == 23) = true := beq_iff_eq.2 h
  clear h hr
  go_enter Tryd.func38, Tryd.ntmps38
  go_wp2_with fail
  go_ret2
  exact ⟨ret_intsK HV.out.1.symm HV.out.2.symm, (Below.refl _ _).alloc (Nat.le_refl _) _⟩
set_option maxRecDepth 100000 in
theorem impl_26 (x : Value) (c : CoreT) (w : World) (lo hi : Nat) (hr : CRep w lo hi x c) (ht : SpaceTab w) (h : c.kind = 26) : Calls Tryd.prog 38 #[x] w fun e w' => e = .returned (.tuple #[.int .i64 (kidsLo c.kind c.op), .int .i64 (kidsHi c.kind c.op)]) ∧ Below w.heap.size w w' := by
  obtain ⟨A, cap, rfl, -, -, -⟩ := hr.form
  have HV := Lib.hid (kids_26 (op := c.op) h)
  have b11 : (c.kind == 11) = false := beq_eq_false_iff_ne.2 (by omega)
  have b12 : (c.kind == 12) = false := beq_eq_false_iff_ne.2 (by omega)
  have b13 : (c.kind == 13) = false := beq_eq_false_iff_ne.2 (by omega)
  have b15 : (c.kind == 15) = false := beq_eq_false_iff_ne.2 (by omega)
  have b18 : (c.kind == 18) = false := beq_eq_false_iff_ne.2 (by omega)
  have b19 : (c.kind == 19) = false := beq_eq_false_iff_ne.2 (by omega)
  have b22 : (c.kind == 22) = false := beq_eq_false_iff_ne.2 (by omega)
  have b25 : (c.kind == 25) = false := beq_eq_false_iff_ne.2 (by omega)
  have b14 : (c.kind == 14) = false := beq_eq_false_iff_ne.2 (by omega)
  have b20 : (c.kind == 20) = false := beq_eq_false_iff_ne.2 (by omega)
  have b23 : (c.kind == 23) = false := beq_eq_false_iff_ne.2 (by omega)
  have b26 : (c.kind == 26) = true := beq_iff_eq.2 h
  clear h hr
  go_enter Tryd.func38, Tryd.ntmps38
  go_wp2_with fail
  go_ret2
  exact ⟨ret_intsK HV.out.1.symm HV.out.2.symm, (Below.refl _ _).alloc (Nat.le_refl _) _⟩
set_option maxRecDepth 100000 in
theorem impl_27 (x : Value) (c : CoreT) (w : World) (lo hi : Nat) (hr : CRep w lo hi x c) (ht : SpaceTab w) (h : c.kind = 27) : Calls Tryd.prog 38 #[x] w fun e w' => e = .returned (.tuple #[.int .i64 (kidsLo c.kind c.op), .int .i64 (kidsHi c.kind c.op)]) ∧ Below w.heap.size w w' := by
  obtain ⟨A, cap, rfl, -, -, -⟩ := hr.form
  have HV := Lib.hid (kids_27 (op := c.op) h)
  have b11 : (c.kind == 11) = false := beq_eq_false_iff_ne.2 (by omega)
  have b12 : (c.kind == 12) = false := beq_eq_false_iff_ne.2 (by omega)
  have b13 : (c.kind == 13) = false := beq_eq_false_iff_ne.2 (by omega)
  have b15 : (c.kind == 15) = false := beq_eq_false_iff_ne.2 (by omega)
  have b18 : (c.kind == 18) = false := beq_eq_false_iff_ne.2 (by omega)
  have b19 : (c.kind == 19) = false := beq_eq_false_iff_ne.2 (by omega)
  have b22 : (c.kind == 22) = false := beq_eq_false_iff_ne.2 (by omega)
  have b25 : (c.kind == 25) = false := beq_eq_false_iff_ne.2 (by omega)
  have b14 : (c.kind == 14) = false := beq_eq_false_iff_ne.2 (by omega)
  have b20 : (c.kind == 20) = false := beq_eq_false_iff_ne.2 (by omega)
  have b23 : (c.kind == 23) = false := beq_eq_false_iff_ne.2 (by omega)
  have b26 : (c.kind == 26) = false := beq_eq_false_iff_ne.2 (by omega)
  have b27 : (c.kind == 27) = true := beq_iff_eq.2 h
  clear h hr
  go_enter Tryd.func38, Tryd.ntmps38
  go_wp2_with fail
  go_ret2
  exact ⟨ret_intsK HV.out.1.symm HV.out.2.symm, (Below.refl _ _).alloc (Nat.le_refl _) _⟩
set_option maxRecDepth 100000 in
theorem impl_16 (x : Value) (c : CoreT) (w : World) (lo hi : Nat) (hr : CRep w lo hi x c) (ht : SpaceTab w) (h : c.kind = 16) : Calls Tryd.prog 38 #[x] w fun e w' => e = .returned (.tuple #[.int .i64 (kidsLo c.kind c.op), .int .i64 (kidsHi c.kind c.op)]) ∧ Below w.heap.size w w' := by
  obtain ⟨A, cap, rfl, -, -, -⟩ := hr.form
  have HV := Lib.hid (kids_16 (op := c.op) h)
  have b11 : (c.kind == 11) = false := beq_eq_false_iff_ne.2 (by omega)
  have b12 : (c.kind == 12) = false := beq_eq_false_iff_ne.2 (by omega)
  have b13 : (c.kind == 13) = false := beq_eq_false_iff_ne.2 (by omega)
  have b15 : (c.kind == 15) = false := beq_eq_false_iff_ne.2 (by omega)
  have b18 : (c.kind == 18) = false := beq_eq_false_iff_ne.2 (by omega)
  have b19 : (c.kind == 19) = false := beq_eq_false_iff_ne.2 (by omega)
  have b22 : (c.kind == 22) = false := beq_eq_false_iff_ne.2 (by omega)
  have b25 : (c.kind == 25) = false := beq_eq_false_iff_ne.2 (by omega)
  have b14 : (c.kind == 14) = false := beq_eq_false_iff_ne.2 (by omega)
  have b20 : (c.kind == 20) = false := beq_eq_false_iff_ne.2 (by omega)
  have b23 : (c.kind == 23) = false := beq_eq_false_iff_ne.2 (by omega)
  have b26 : (c.kind == 26) = false := beq_eq_false_iff_ne.2 (by omega)
  have b27 : (c.kind == 27) = false := beq_eq_false_iff_ne.2 (by omega)
  have b16 : (c.kind == 16) = true := beq_iff_eq.2 h
  clear h hr
  go_enter Tryd.func38, Tryd.ntmps38
  go_wp2_with fail
  go_ret2
  exact ⟨ret_intsK HV.out.1.symm HV.out.2.symm, (Below.refl _ _).alloc (Nat.le_refl _) _⟩
set_option maxRecDepth 100000 in
theorem impl_17 (x : Value) (c : CoreT) (w : World) (lo hi : Nat) (hr : CRep w lo hi x c) (ht : SpaceTab w) (h : c.kind = 17) : Calls Tryd.prog 38 #[x] w fun e w' => e = .returned (.tuple #[.int .i64 (kidsLo c.kind c.op), .int .i64 (kidsHi c.kind c.op)]) ∧ Below w.heap.size w w' := by
  obtain ⟨A, cap, rfl, -, -, -⟩ := hr.form
  have HV := Lib.hid (kids_17 (op := c.op) h)
  have b11 : (c.kind == 11) = false := beq_eq_false_iff_ne.2 (by omega)
  have b12 : (c.kind == 12) = false := beq_eq_false_iff_ne.2 (by omega)
  have b13 : (c.kind == 13) = false := beq_eq_false_iff_ne.2 (by omega)
  have b15 : (c.kind == 15) = false := beq_eq_false_iff_ne.2 (by omega)
  have b18 : (c.kind == 18) = false := beq_eq_false_iff_ne.2 (by omega)
  have b19 : (c.kind == 19) = false := beq_eq_false_iff_ne.2 (by omega)
  have b22 : (c.kind == 22) = false := beq_eq_false_iff_ne.2 (by omega)
  have b25 : (c.kind == 25) = false := beq_eq_false_iff_ne.2 (by omega)
  have b14 : (c.kind == 14) = false := beq_eq_false_iff_ne.2 (by omega)
  have b20 : (c.kind == 20) = false := beq_eq_false_iff_ne.2 (by omega)
  have b23 : (c.kind == 23) = false := beq_eq_false_iff_ne.2 (by omega)
  have b26 : (c.kind == 26) = false := beq_eq_false_iff_ne.2 (by omega)
  have b27 : (c.kind == 27) = false := beq_eq_false_iff_ne.2 (by omega)
  have b16 : (c.kind == 16) = false := beq_eq_false_iff_ne.2 (by omega)
  have b17 : (c.kind == 17) = true := beq_iff_eq.2 h
  clear h hr
  go_enter Tryd.func38, Tryd.ntmps38
  go_wp2_with fail
  go_ret2
  exact ⟨ret_intsK HV.out.1.symm HV.out.2.symm, (Below.refl _ _).alloc (Nat.le_refl _) _⟩
set_option maxRecDepth 100000 in
theorem impl_no (x : Value) (c : CoreT) (w : World) (lo hi : Nat) (hr : CRep w lo hi x c) (h : ¬ (c.kind = 11 ∨ c.kind = 12 ∨ c.kind = 13 ∨ c.kind = 14 ∨ c.kind = 15 ∨ c.kind = 16 ∨ c.kind = 17 ∨ c.kind = 18 ∨ c.kind = 19 ∨ c.kind = 20 ∨ c.kind = 22 ∨ c.kind = 23 ∨ c.kind = 25 ∨ c.kind = 26 ∨ c.kind = 27)) : Calls Tryd.prog 38 #[x] w fun e w' => e = .returned (.tuple #[.int .i64 (kidsLo c.kind c.op), .int .i64 (kidsHi c.kind c.op)]) ∧ Below w.heap.size w w' := by
  obtain ⟨A, cap, rfl, -, -, -⟩ := hr.form
  have HV := Lib.hid (kids_none (op := c.op) h)
  simp only [not_or] at h
  obtain ⟨h11, h12, h13, h14, h15, h16, h17, h18, h19, h20, h22, h23, h25, h26, h27⟩ := h
  have b11 : (c.kind == 11) = false := beq_eq_false_iff_ne.2 (h11)
  have b12 : (c.kind == 12) = false := beq_eq_false_iff_ne.2 (h12)
  have b13 : (c.kind == 13) = false := beq_eq_false_iff_ne.2 (h13)
  have b15 : (c.kind == 15) = false := beq_eq_false_iff_ne.2 (h15)
  have b18 : (c.kind == 18) = false := beq_eq_false_iff_ne.2 (h18)
  have b19 : (c.kind == 19) = false := beq_eq_false_iff_ne.2 (h19)
  have b22 : (c.kind == 22) = false := beq_eq_false_iff_ne.2 (h22)
  have b25 : (c.kind == 25) = false := beq_eq_false_iff_ne.2 (h25)
  have b14 : (c.kind == 14) = false := beq_eq_false_iff_ne.2 (h14)
  have b20 : (c.kind == 20) = false := beq_eq_false_iff_ne.2 (h20)
  have b23 : (c.kind == 23) = false := beq_eq_false_iff_ne.2 (h23)
  have b26 : (c.kind == 26) = false := beq_eq_false_iff_ne.2 (h26)
  have b27 : (c.kind == 27) = false := beq_eq_false_iff_ne.2 (h27)
  have b16 : (c.kind == 16) = false := beq_eq_false_iff_ne.2 (h16)
  have b17 : (c.kind == 17) = false := beq_eq_false_iff_ne.2 (h17)
  clear h11 h12 h13 h14 h15 h16 h17 h18 h19 h20 h22 h23 h25 h26 h27 hr
  go_enter Tryd.func38, Tryd.ntmps38
  go_wp2_with fail
  go_ret2
  exact ⟨ret_intsK HV.out.1.symm HV.out.2.symm, (Below.refl _ _).alloc (Nat.le_refl _) _⟩
theorem impl_kids (x : Value) (c : CoreT) (w : World) (lo hi : Nat) (hr : CRep w lo hi x c) (ht : SpaceTab w) : Calls Tryd.prog 38 #[x] w fun e w' => e = .returned (.tuple #[.int .i64 (kidsLo c.kind c.op), .int .i64 (kidsHi c.kind c.op)]) ∧ Below w.heap.size w w' := by
  by_cases h11 : c.kind = 11
  · exact impl_11 x c w lo hi hr ht h11
  by_cases h12 : c.kind = 12
  · exact impl_12 x c w lo hi hr ht h12
  by_cases h13 : c.kind = 13
  · exact impl_13 x c w lo hi hr ht h13
  by_cases h15 : c.kind = 15
  · exact impl_15 x c w lo hi hr ht h15
  by_cases h18 : c.kind = 18
  · exact impl_18 x c w lo hi hr ht h18
  by_cases h19 : c.kind = 19
  · exact impl_19 x c w lo hi hr ht h19
  by_cases h22 : c.kind = 22
  · exact impl_22 x c w lo hi hr ht h22
  by_cases h25 : c.kind = 25
  · exact impl_25 x c w lo hi hr ht h25
  by_cases h14 : c.kind = 14
  · exact impl_14 x c w lo hi hr ht h14
  by_cases h20 : c.kind = 20
  · exact impl_20 x c w lo hi hr ht h20
  by_cases h23 : c.kind = 23
  · exact impl_23 x c w lo hi hr ht h23
  by_cases h26 : c.kind = 26
  · exact impl_26 x c w lo hi hr ht h26
  by_cases h27 : c.kind = 27
  · exact impl_27 x c w lo hi hr ht h27
  by_cases h16 : c.kind = 16
  · exact impl_16 x c w lo hi hr ht h16
  by_cases h17 : c.kind = 17
  · exact impl_17 x c w lo hi hr ht h17
  exact impl_no x c w lo hi hr (by rintro (h | h | h | h | h | h | h | h | h | h | h | h | h | h | h) <;> contradiction)
end Go.Proofs.YtppdelelgkepaaaDoor
