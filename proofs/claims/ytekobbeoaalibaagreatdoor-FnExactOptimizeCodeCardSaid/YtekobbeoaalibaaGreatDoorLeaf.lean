/- l1In and l10Leaf of the reference: the numbers that a node may bear. -/
import Derived.Test.YtekobbeoaalibaaGreatDoorProg
import Derived.Test.YtekobbeoaalibaaGreatDoorCoreTy
namespace Go.Proofs.YtekobbeoaalibaaGreatDoor
open Go.RowKit
set_option linter.unusedVariables false

/-- what the numbers of nodes may refer to -/
structure WdT where
  slots : Nat
  globals : Nat
  routines : Nat
  records : Nat
def inB (n lo hi : Int) : Bool := decide (lo ≤ n) && decide (n ≤ hi)
set_option maxRecDepth 100000 in
theorem spec_l1In (n lo hi : Int) (w : World) : Calls Tryz.prog 80 #[.int .i64 n, .int .i64 lo, .int .i64 hi] w fun e w' => e = .returned (.bool (inB n lo hi)) ∧ w = w' := by
  go_enter Tryz.func80, Tryz.ntmps80
  go_wp2_with fail
  all_goals
    go_ret
    exact ⟨ret_bool (by rw [Bool.eq_iff_iff]; simp [inB]; omega), rfl⟩
def leafOk (d : WdT) (k n : Int) : Bool :=
  if k = 1 then inB n (-999999999999) 999999999999 else if k = 5 then inB n 0 (d.slots - 1) else if k = 6 then inB n 0 (d.globals - 1) else if k = 7 then inB n 0 (d.routines - 1) else if k = 8 then inB n 0 54
  else if k = 9 then inB n 0 (d.records - 1) else if k = 10 then inB n 1 2 else decide (n = 0)
set_option maxRecDepth 100000 in
theorem spec_leaf_1 (d : WdT) (A1 A2 A3 : Option Addr) (c1 c2 c3 : Nat) (m : Int) (x : Value) (c : CoreT) (w : World) (lo hi : Nat) (hr : CRep w lo hi x c) (q1 : d.slots ≤ 1048576) (q2 : d.globals ≤ 1048576) (q3 : d.routines ≤ 1048576) (q4 : d.records ≤ 1048576) (h : c.kind = 1) : Calls Tryz.prog 112 #[.agg #[.slice A1 d.routines c1, .slice A2 d.records c2, .slice A3 d.globals c3, .int .i64 m], .int .i64 d.slots, x] w fun e w' => e = .returned (.bool (leafOk d c.kind c.number)) ∧ Below w.heap.size w w' := by
  obtain ⟨A, cap, rfl, -, -, -⟩ := hr.form
  have HV : Hid (leafOk d c.kind c.number = inB c.number (-999999999999) 999999999999) := by show _ = _; rw [h]; simp [leafOk]
  have b1 : (c.kind == 1) = true := beq_iff_eq.2 h
  clear h hr
  go_enter Tryz.func112, Tryz.ntmps112
  go_wp2_with fail
  all_goals
    go_ret
    exact ⟨ret_bool (by rw [HV.out, Bool.eq_iff_iff]; simp [inB]; omega), ((Below.refl _ _).alloc (Nat.le_refl _) _).alloc (by simp) _⟩
set_option maxRecDepth 100000 in
theorem spec_leaf_5 (d : WdT) (A1 A2 A3 : Option Addr) (c1 c2 c3 : Nat) (m : Int) (x : Value) (c : CoreT) (w : World) (lo hi : Nat) (hr : CRep w lo hi x c) (q1 : d.slots ≤ 1048576) (q2 : d.globals ≤ 1048576) (q3 : d.routines ≤ 1048576) (q4 : d.records ≤ 1048576) (h : c.kind = 5) : Calls Tryz.prog 112 #[.agg #[.slice A1 d.routines c1, .slice A2 d.records c2, .slice A3 d.globals c3, .int .i64 m], .int .i64 d.slots, x] w fun e w' => e = .returned (.bool (leafOk d c.kind c.number)) ∧ Below w.heap.size w w' := by
  obtain ⟨A, cap, rfl, -, -, -⟩ := hr.form
  have HV : Hid (leafOk d c.kind c.number = inB c.number 0 (d.slots - 1)) := by show _ = _; rw [h]; simp [leafOk]
  have b1 : (c.kind == 1) = false := beq_eq_false_iff_ne.2 (by omega)
  have b5 : (c.kind == 5) = true := beq_iff_eq.2 h
  clear h hr
  go_enter Tryz.func112, Tryz.ntmps112
  go_wp2_with fail
  refine (spec_l1In c.number 0 ((d.slots : Int) - 1) _).mono ?_; rintro e w1 ⟨rfl, rfl⟩
  go_wp2_with fail
  go_ret
  exact ⟨ret_bool HV.out.symm, ((Below.refl _ _).alloc (Nat.le_refl _) _).alloc (by simp) _⟩
set_option maxRecDepth 100000 in
theorem spec_leaf_6 (d : WdT) (A1 A2 A3 : Option Addr) (c1 c2 c3 : Nat) (m : Int) (x : Value) (c : CoreT) (w : World) (lo hi : Nat) (hr : CRep w lo hi x c) (q1 : d.slots ≤ 1048576) (q2 : d.globals ≤ 1048576) (q3 : d.routines ≤ 1048576) (q4 : d.records ≤ 1048576) (h : c.kind = 6) : Calls Tryz.prog 112 #[.agg #[.slice A1 d.routines c1, .slice A2 d.records c2, .slice A3 d.globals c3, .int .i64 m], .int .i64 d.slots, x] w fun e w' => e = .returned (.bool (leafOk d c.kind c.number)) ∧ Below w.heap.size w w' := by
  obtain ⟨A, cap, rfl, -, -, -⟩ := hr.form
  have HV : Hid (leafOk d c.kind c.number = inB c.number 0 (d.globals - 1)) := by show _ = _; rw [h]; simp [leafOk]
  have b1 : (c.kind == 1) = false := beq_eq_false_iff_ne.2 (by omega)
  have b5 : (c.kind == 5) = false := beq_eq_false_iff_ne.2 (by omega)
  have b6 : (c.kind == 6) = true := beq_iff_eq.2 h
  clear h hr
  go_enter Tryz.func112, Tryz.ntmps112
  go_wp2_with fail
  refine (spec_l1In c.number 0 ((d.globals : Int) - 1) _).mono ?_; rintro e w1 ⟨rfl, rfl⟩
  go_wp2_with fail
  go_ret
  exact ⟨ret_bool HV.out.symm, ((Below.refl _ _).alloc (Nat.le_refl _) _).alloc (by simp) _⟩
set_option maxRecDepth 100000 in
theorem spec_leaf_7 (d : WdT) (A1 A2 A3 : Option Addr) (c1 c2 c3 : Nat) (m : Int) (x : Value) (c : CoreT) (w : World) (lo hi : Nat) (hr : CRep w lo hi x c) (q1 : d.slots ≤ 1048576) (q2 : d.globals ≤ 1048576) (q3 : d.routines ≤ 1048576) (q4 : d.records ≤ 1048576) (h : c.kind = 7) : Calls Tryz.prog 112 #[.agg #[.slice A1 d.routines c1, .slice A2 d.records c2, .slice A3 d.globals c3, .int .i64 m], .int .i64 d.slots, x] w fun e w' => e = .returned (.bool (leafOk d c.kind c.number)) ∧ Below w.heap.size w w' := by
  obtain ⟨A, cap, rfl, -, -, -⟩ := hr.form
  have HV : Hid (leafOk d c.kind c.number = inB c.number 0 (d.routines - 1)) := by show _ = _; rw [h]; simp [leafOk]
  have b1 : (c.kind == 1) = false := beq_eq_false_iff_ne.2 (by omega)
  have b5 : (c.kind == 5) = false := beq_eq_false_iff_ne.2 (by omega)
  have b6 : (c.kind == 6) = false := beq_eq_false_iff_ne.2 (by omega)
  have b7 : (c.kind == 7) = true := beq_iff_eq.2 h
  clear h hr
  go_enter Tryz.func112, Tryz.ntmps112
  go_wp2_with fail
  refine (spec_l1In c.number 0 ((d.routines : Int) - 1) _).mono ?_; rintro e w1 ⟨rfl, rfl⟩
  go_wp2_with fail
  go_ret
  exact ⟨ret_bool HV.out.symm, ((Below.refl _ _).alloc (Nat.le_refl _) _).alloc (by simp) _⟩
set_option maxRecDepth 100000 in
theorem spec_leaf_8 (d : WdT) (A1 A2 A3 : Option Addr) (c1 c2 c3 : Nat) (m : Int) (x : Value) (c : CoreT) (w : World) (lo hi : Nat) (hr : CRep w lo hi x c) (q1 : d.slots ≤ 1048576) (q2 : d.globals ≤ 1048576) (q3 : d.routines ≤ 1048576) (q4 : d.records ≤ 1048576) (h : c.kind = 8) : Calls Tryz.prog 112 #[.agg #[.slice A1 d.routines c1, .slice A2 d.records c2, .slice A3 d.globals c3, .int .i64 m], .int .i64 d.slots, x] w fun e w' => e = .returned (.bool (leafOk d c.kind c.number)) ∧ Below w.heap.size w w' := by
  obtain ⟨A, cap, rfl, -, -, -⟩ := hr.form
  have HV : Hid (leafOk d c.kind c.number = inB c.number 0 54) := by show _ = _; rw [h]; simp [leafOk]
  have b1 : (c.kind == 1) = false := beq_eq_false_iff_ne.2 (by omega)
  have b5 : (c.kind == 5) = false := beq_eq_false_iff_ne.2 (by omega)
  have b6 : (c.kind == 6) = false := beq_eq_false_iff_ne.2 (by omega)
  have b7 : (c.kind == 7) = false := beq_eq_false_iff_ne.2 (by omega)
  have b8 : (c.kind == 8) = true := beq_iff_eq.2 h
  clear h hr
  go_enter Tryz.func112, Tryz.ntmps112
  go_wp2_with fail
  refine (spec_l1In c.number 0 54 _).mono ?_; rintro e w1 ⟨rfl, rfl⟩
  go_wp2_with fail
  go_ret
  exact ⟨ret_bool HV.out.symm, ((Below.refl _ _).alloc (Nat.le_refl _) _).alloc (by simp) _⟩
set_option maxRecDepth 100000 in
theorem spec_leaf_9 (d : WdT) (A1 A2 A3 : Option Addr) (c1 c2 c3 : Nat) (m : Int) (x : Value) (c : CoreT) (w : World) (lo hi : Nat) (hr : CRep w lo hi x c) (q1 : d.slots ≤ 1048576) (q2 : d.globals ≤ 1048576) (q3 : d.routines ≤ 1048576) (q4 : d.records ≤ 1048576) (h : c.kind = 9) : Calls Tryz.prog 112 #[.agg #[.slice A1 d.routines c1, .slice A2 d.records c2, .slice A3 d.globals c3, .int .i64 m], .int .i64 d.slots, x] w fun e w' => e = .returned (.bool (leafOk d c.kind c.number)) ∧ Below w.heap.size w w' := by
  obtain ⟨A, cap, rfl, -, -, -⟩ := hr.form
  have HV : Hid (leafOk d c.kind c.number = inB c.number 0 (d.records - 1)) := by show _ = _; rw [h]; simp [leafOk]
  have b1 : (c.kind == 1) = false := beq_eq_false_iff_ne.2 (by omega)
  have b5 : (c.kind == 5) = false := beq_eq_false_iff_ne.2 (by omega)
  have b6 : (c.kind == 6) = false := beq_eq_false_iff_ne.2 (by omega)
  have b7 : (c.kind == 7) = false := beq_eq_false_iff_ne.2 (by omega)
  have b8 : (c.kind == 8) = false := beq_eq_false_iff_ne.2 (by omega)
  have b9 : (c.kind == 9) = true := beq_iff_eq.2 h
  clear h hr
  go_enter Tryz.func112, Tryz.ntmps112
  go_wp2_with fail
  refine (spec_l1In c.number 0 ((d.records : Int) - 1) _).mono ?_; rintro e w1 ⟨rfl, rfl⟩
  go_wp2_with fail
  go_ret
  exact ⟨ret_bool HV.out.symm, ((Below.refl _ _).alloc (Nat.le_refl _) _).alloc (by simp) _⟩
set_option maxRecDepth 100000 in
theorem spec_leaf_10 (d : WdT) (A1 A2 A3 : Option Addr) (c1 c2 c3 : Nat) (m : Int) (x : Value) (c : CoreT) (w : World) (lo hi : Nat) (hr : CRep w lo hi x c) (q1 : d.slots ≤ 1048576) (q2 : d.globals ≤ 1048576) (q3 : d.routines ≤ 1048576) (q4 : d.records ≤ 1048576) (h : c.kind = 10) : Calls Tryz.prog 112 #[.agg #[.slice A1 d.routines c1, .slice A2 d.records c2, .slice A3 d.globals c3, .int .i64 m], .int .i64 d.slots, x] w fun e w' => e = .returned (.bool (leafOk d c.kind c.number)) ∧ Below w.heap.size w w' := by
  obtain ⟨A, cap, rfl, -, -, -⟩ := hr.form
  have HV : Hid (leafOk d c.kind c.number = inB c.number 1 2) := by show _ = _; rw [h]; simp [leafOk]
  have b1 : (c.kind == 1) = false := beq_eq_false_iff_ne.2 (by omega)
  have b5 : (c.kind == 5) = false := beq_eq_false_iff_ne.2 (by omega)
  have b6 : (c.kind == 6) = false := beq_eq_false_iff_ne.2 (by omega)
  have b7 : (c.kind == 7) = false := beq_eq_false_iff_ne.2 (by omega)
  have b8 : (c.kind == 8) = false := beq_eq_false_iff_ne.2 (by omega)
  have b9 : (c.kind == 9) = false := beq_eq_false_iff_ne.2 (by omega)
  have b10 : (c.kind == 10) = true := beq_iff_eq.2 h
  clear h hr
  go_enter Tryz.func112, Tryz.ntmps112
  go_wp2_with fail
  refine (spec_l1In c.number 1 2 _).mono ?_; rintro e w1 ⟨rfl, rfl⟩
  go_wp2_with fail
  go_ret
  exact ⟨ret_bool HV.out.symm, ((Below.refl _ _).alloc (Nat.le_refl _) _).alloc (by simp) _⟩
set_option maxRecDepth 100000 in
theorem spec_leaf_no (d : WdT) (A1 A2 A3 : Option Addr) (c1 c2 c3 : Nat) (m : Int) (x : Value) (c : CoreT) (w : World) (lo hi : Nat) (hr : CRep w lo hi x c) (q1 : d.slots ≤ 1048576) (q2 : d.globals ≤ 1048576) (q3 : d.routines ≤ 1048576) (q4 : d.records ≤ 1048576) (h : ¬ (c.kind = 1 ∨ c.kind = 5 ∨ c.kind = 6 ∨ c.kind = 7 ∨ c.kind = 8 ∨ c.kind = 9 ∨ c.kind = 10)) : Calls Tryz.prog 112 #[.agg #[.slice A1 d.routines c1, .slice A2 d.records c2, .slice A3 d.globals c3, .int .i64 m], .int .i64 d.slots, x] w fun e w' => e = .returned (.bool (leafOk d c.kind c.number)) ∧ Below w.heap.size w w' := by
  obtain ⟨A, cap, rfl, -, -, -⟩ := hr.form
  simp only [not_or] at h
  obtain ⟨h1, h5, h6, h7, h8, h9, h10⟩ := h
  have HV : Hid (leafOk d c.kind c.number = (c.number == 0)) := by show _ = _; simp only [leafOk, h1, h5, h6, h7, h8, h9, h10, if_false]; rw [Bool.eq_iff_iff]; simp
  have b1 : (c.kind == 1) = false := beq_eq_false_iff_ne.2 h1
  have b5 : (c.kind == 5) = false := beq_eq_false_iff_ne.2 h5
  have b6 : (c.kind == 6) = false := beq_eq_false_iff_ne.2 h6
  have b7 : (c.kind == 7) = false := beq_eq_false_iff_ne.2 h7
  have b8 : (c.kind == 8) = false := beq_eq_false_iff_ne.2 h8
  have b9 : (c.kind == 9) = false := beq_eq_false_iff_ne.2 h9
  have b10 : (c.kind == 10) = false := beq_eq_false_iff_ne.2 h10
  clear h1 h5 h6 h7 h8 h9 h10 hr
  go_enter Tryz.func112, Tryz.ntmps112
  go_wp2_with fail
  go_ret
  exact ⟨ret_bool HV.out.symm, ((Below.refl _ _).alloc (Nat.le_refl _) _).alloc (by simp) _⟩
theorem spec_l10Leaf (d : WdT) (A1 A2 A3 : Option Addr) (c1 c2 c3 : Nat) (m : Int) (x : Value) (c : CoreT) (w : World) (lo hi : Nat) (hr : CRep w lo hi x c) (q1 : d.slots ≤ 1048576) (q2 : d.globals ≤ 1048576) (q3 : d.routines ≤ 1048576) (q4 : d.records ≤ 1048576) : Calls Tryz.prog 112 #[.agg #[.slice A1 d.routines c1, .slice A2 d.records c2, .slice A3 d.globals c3, .int .i64 m], .int .i64 d.slots, x] w fun e w' => e = .returned (.bool (leafOk d c.kind c.number)) ∧ Below w.heap.size w w' := by
  by_cases h1 : c.kind = 1
  · exact spec_leaf_1 d A1 A2 A3 c1 c2 c3 m x c w lo hi hr q1 q2 q3 q4 h1
  by_cases h5 : c.kind = 5
  · exact spec_leaf_5 d A1 A2 A3 c1 c2 c3 m x c w lo hi hr q1 q2 q3 q4 h5
  by_cases h6 : c.kind = 6
  · exact spec_leaf_6 d A1 A2 A3 c1 c2 c3 m x c w lo hi hr q1 q2 q3 q4 h6
  by_cases h7 : c.kind = 7
  · exact spec_leaf_7 d A1 A2 A3 c1 c2 c3 m x c w lo hi hr q1 q2 q3 q4 h7
  by_cases h8 : c.kind = 8
  · exact spec_leaf_8 d A1 A2 A3 c1 c2 c3 m x c w lo hi hr q1 q2 q3 q4 h8
  by_cases h9 : c.kind = 9
  · exact spec_leaf_9 d A1 A2 A3 c1 c2 c3 m x c w lo hi hr q1 q2 q3 q4 h9
  by_cases h10 : c.kind = 10
  · exact spec_leaf_10 d A1 A2 A3 c1 c2 c3 m x c w lo hi hr q1 q2 q3 q4 h10
  exact spec_leaf_no d A1 A2 A3 c1 c2 c3 m x c w lo hi hr q1 q2 q3 q4 (by rintro (h | h | h | h | h | h | h) <;> contradiction)
end Go.Proofs.YtekobbeoaalibaaGreatDoor
