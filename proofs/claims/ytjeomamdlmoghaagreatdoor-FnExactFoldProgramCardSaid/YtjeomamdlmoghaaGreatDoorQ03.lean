/- l1In and l10Leaf of the reference: the numbers that a node may bear. OperatorText and OperatorArity of both sides: which operators there are, and how many operands they take. How many kids a node has. IsReserved and IsName of both sides. Rows of structs of any one kind: how they read, element by element. Plain lemmas, no program. -/
import Derived.Test.YtjeomamdlmoghaaGreatDoorQ00
import Derived.Test.YtjeomamdlmoghaaGreatDoorQ02
import Derived.Test.YtjeomamdlmoghaaGreatDoorProg
import Derived.Test.YtjeomamdlmoghaaGreatDoorShelf
import Derived.Lib.LaidTab
set_option maxRecDepth 100000
set_option maxHeartbeats 8000000
set_option linter.unusedVariables false
set_option linter.unusedSimpArgs false
section
namespace Go.Proofs.YtjeomamdlmoghaaGreatDoor
open Go.RowKit
structure WdT where
 slots : Nat
 globals : Nat
 routines : Nat
 records : Nat
def inB (n lo hi : Int) : Bool := decide (lo ≤ n) && decide (n ≤ hi)
theorem spec_l1In (n lo hi : Int) (w : World) : Calls Tryz.prog 35 #[.int .i64 n, .int .i64 lo, .int .i64 hi] w fun e w' => e = .returned (.bool (inB n lo hi)) ∧ w = w' := by
 go_enter Tryz.func35, Tryz.ntmps35
 go_wp2_with fail
 all_goals
  go_ret
  exact ⟨ret_bool (by rw [Bool.eq_iff_iff]; simp [inB]; omega), rfl⟩
def leafOk (d : WdT) (k n : Int) : Bool :=
 if k = 1 then inB n (-999999999999) 999999999999 else if k = 5 then inB n 0 (d.slots - 1) else if k = 6 then inB n 0 (d.globals - 1) else if k = 7 then inB n 0 (d.routines - 1) else if k = 8 then inB n 0 54
 else if k = 9 then inB n 0 (d.records - 1) else if k = 10 then inB n 1 2 else decide (n = 0)
theorem spec_leaf_1 (d : WdT) (A1 A2 A3 : Option Addr) (c1 c2 c3 : Nat) (m : Int) (x : Value) (c : CoreT) (w : World) (lo hi : Nat) (hr : CRep w lo hi x c) (q1 : d.slots ≤ 1048576) (q2 : d.globals ≤ 1048576) (q3 : d.routines ≤ 1048576) (q4 : d.records ≤ 1048576) (h : c.kind = 1) : Calls Tryz.prog 66 #[.agg #[.slice A1 d.routines c1, .slice A2 d.records c2, .slice A3 d.globals c3, .int .i64 m], .int .i64 d.slots, x] w fun e w' => e = .returned (.bool (leafOk d c.kind c.number)) ∧ Below w.heap.size w w' := by
 obtain ⟨A, cap, rfl, -, -, -⟩ := hr.form
 have HV : Hid (leafOk d c.kind c.number = inB c.number (-999999999999) 999999999999) := by show _ = _; rw [h]; simp [leafOk]
 have b1 : (c.kind == 1) = true := beq_iff_eq.2 h
 clear h hr
 go_enter Tryz.func66, Tryz.ntmps66
 go_wp2_with fail
 all_goals
  go_ret
  exact ⟨ret_bool (by rw [HV.out, Bool.eq_iff_iff]; simp [inB]; omega), ((Below.refl _ _).alloc (Nat.le_refl _) _).alloc (by simp) _⟩
theorem spec_leaf_5 (d : WdT) (A1 A2 A3 : Option Addr) (c1 c2 c3 : Nat) (m : Int) (x : Value) (c : CoreT) (w : World) (lo hi : Nat) (hr : CRep w lo hi x c) (q1 : d.slots ≤ 1048576) (q2 : d.globals ≤ 1048576) (q3 : d.routines ≤ 1048576) (q4 : d.records ≤ 1048576) (h : c.kind = 5) : Calls Tryz.prog 66 #[.agg #[.slice A1 d.routines c1, .slice A2 d.records c2, .slice A3 d.globals c3, .int .i64 m], .int .i64 d.slots, x] w fun e w' => e = .returned (.bool (leafOk d c.kind c.number)) ∧ Below w.heap.size w w' := by
 obtain ⟨A, cap, rfl, -, -, -⟩ := hr.form
 have HV : Hid (leafOk d c.kind c.number = inB c.number 0 (d.slots - 1)) := by show _ = _; rw [h]; simp [leafOk]
 have b1 : (c.kind == 1) = false := beq_eq_false_iff_ne.2 (by omega)
 have b5 : (c.kind == 5) = true := beq_iff_eq.2 h
 clear h hr
 go_enter Tryz.func66, Tryz.ntmps66
 go_wp2_with fail
 refine (spec_l1In c.number 0 ((d.slots : Int) - 1) _).mono ?_; rintro e w1 ⟨rfl, rfl⟩
 go_wp2_with fail
 go_ret
 exact ⟨ret_bool HV.out.symm, ((Below.refl _ _).alloc (Nat.le_refl _) _).alloc (by simp) _⟩
theorem spec_leaf_6 (d : WdT) (A1 A2 A3 : Option Addr) (c1 c2 c3 : Nat) (m : Int) (x : Value) (c : CoreT) (w : World) (lo hi : Nat) (hr : CRep w lo hi x c) (q1 : d.slots ≤ 1048576) (q2 : d.globals ≤ 1048576) (q3 : d.routines ≤ 1048576) (q4 : d.records ≤ 1048576) (h : c.kind = 6) : Calls Tryz.prog 66 #[.agg #[.slice A1 d.routines c1, .slice A2 d.records c2, .slice A3 d.globals c3, .int .i64 m], .int .i64 d.slots, x] w fun e w' => e = .returned (.bool (leafOk d c.kind c.number)) ∧ Below w.heap.size w w' := by
 obtain ⟨A, cap, rfl, -, -, -⟩ := hr.form
 have HV : Hid (leafOk d c.kind c.number = inB c.number 0 (d.globals - 1)) := by show _ = _; rw [h]; simp [leafOk]
 have b1 : (c.kind == 1) = false := beq_eq_false_iff_ne.2 (by omega)
 have b5 : (c.kind == 5) = false := beq_eq_false_iff_ne.2 (by omega)
 have b6 : (c.kind == 6) = true := beq_iff_eq.2 h
 clear h hr
 go_enter Tryz.func66, Tryz.ntmps66
 go_wp2_with fail
 refine (spec_l1In c.number 0 ((d.globals : Int) - 1) _).mono ?_; rintro e w1 ⟨rfl, rfl⟩
 go_wp2_with fail
 go_ret
 exact ⟨ret_bool HV.out.symm, ((Below.refl _ _).alloc (Nat.le_refl _) _).alloc (by simp) _⟩
theorem spec_leaf_7 (d : WdT) (A1 A2 A3 : Option Addr) (c1 c2 c3 : Nat) (m : Int) (x : Value) (c : CoreT) (w : World) (lo hi : Nat) (hr : CRep w lo hi x c) (q1 : d.slots ≤ 1048576) (q2 : d.globals ≤ 1048576) (q3 : d.routines ≤ 1048576) (q4 : d.records ≤ 1048576) (h : c.kind = 7) : Calls Tryz.prog 66 #[.agg #[.slice A1 d.routines c1, .slice A2 d.records c2, .slice A3 d.globals c3, .int .i64 m], .int .i64 d.slots, x] w fun e w' => e = .returned (.bool (leafOk d c.kind c.number)) ∧ Below w.heap.size w w' := by
 obtain ⟨A, cap, rfl, -, -, -⟩ := hr.form
 have HV : Hid (leafOk d c.kind c.number = inB c.number 0 (d.routines - 1)) := by show _ = _; rw [h]; simp [leafOk]
 have b1 : (c.kind == 1) = false := beq_eq_false_iff_ne.2 (by omega)
 have b5 : (c.kind == 5) = false := beq_eq_false_iff_ne.2 (by omega)
 have b6 : (c.kind == 6) = false := beq_eq_false_iff_ne.2 (by omega)
 have b7 : (c.kind == 7) = true := beq_iff_eq.2 h
 clear h hr
 go_enter Tryz.func66, Tryz.ntmps66
 go_wp2_with fail
 refine (spec_l1In c.number 0 ((d.routines : Int) - 1) _).mono ?_; rintro e w1 ⟨rfl, rfl⟩
 go_wp2_with fail
 go_ret
 exact ⟨ret_bool HV.out.symm, ((Below.refl _ _).alloc (Nat.le_refl _) _).alloc (by simp) _⟩
theorem spec_leaf_8 (d : WdT) (A1 A2 A3 : Option Addr) (c1 c2 c3 : Nat) (m : Int) (x : Value) (c : CoreT) (w : World) (lo hi : Nat) (hr : CRep w lo hi x c) (q1 : d.slots ≤ 1048576) (q2 : d.globals ≤ 1048576) (q3 : d.routines ≤ 1048576) (q4 : d.records ≤ 1048576) (h : c.kind = 8) : Calls Tryz.prog 66 #[.agg #[.slice A1 d.routines c1, .slice A2 d.records c2, .slice A3 d.globals c3, .int .i64 m], .int .i64 d.slots, x] w fun e w' => e = .returned (.bool (leafOk d c.kind c.number)) ∧ Below w.heap.size w w' := by
 obtain ⟨A, cap, rfl, -, -, -⟩ := hr.form
 have HV : Hid (leafOk d c.kind c.number = inB c.number 0 54) := by show _ = _; rw [h]; simp [leafOk]
 have b1 : (c.kind == 1) = false := beq_eq_false_iff_ne.2 (by omega)
 have b5 : (c.kind == 5) = false := beq_eq_false_iff_ne.2 (by omega)
 have b6 : (c.kind == 6) = false := beq_eq_false_iff_ne.2 (by omega)
 have b7 : (c.kind == 7) = false := beq_eq_false_iff_ne.2 (by omega)
 have b8 : (c.kind == 8) = true := beq_iff_eq.2 h
 clear h hr
 go_enter Tryz.func66, Tryz.ntmps66
 go_wp2_with fail
 refine (spec_l1In c.number 0 54 _).mono ?_; rintro e w1 ⟨rfl, rfl⟩
 go_wp2_with fail
 go_ret
 exact ⟨ret_bool HV.out.symm, ((Below.refl _ _).alloc (Nat.le_refl _) _).alloc (by simp) _⟩
theorem spec_leaf_9 (d : WdT) (A1 A2 A3 : Option Addr) (c1 c2 c3 : Nat) (m : Int) (x : Value) (c : CoreT) (w : World) (lo hi : Nat) (hr : CRep w lo hi x c) (q1 : d.slots ≤ 1048576) (q2 : d.globals ≤ 1048576) (q3 : d.routines ≤ 1048576) (q4 : d.records ≤ 1048576) (h : c.kind = 9) : Calls Tryz.prog 66 #[.agg #[.slice A1 d.routines c1, .slice A2 d.records c2, .slice A3 d.globals c3, .int .i64 m], .int .i64 d.slots, x] w fun e w' => e = .returned (.bool (leafOk d c.kind c.number)) ∧ Below w.heap.size w w' := by
 obtain ⟨A, cap, rfl, -, -, -⟩ := hr.form
 have HV : Hid (leafOk d c.kind c.number = inB c.number 0 (d.records - 1)) := by show _ = _; rw [h]; simp [leafOk]
 have b1 : (c.kind == 1) = false := beq_eq_false_iff_ne.2 (by omega)
 have b5 : (c.kind == 5) = false := beq_eq_false_iff_ne.2 (by omega)
 have b6 : (c.kind == 6) = false := beq_eq_false_iff_ne.2 (by omega)
 have b7 : (c.kind == 7) = false := beq_eq_false_iff_ne.2 (by omega)
 have b8 : (c.kind == 8) = false := beq_eq_false_iff_ne.2 (by omega)
 have b9 : (c.kind == 9) = true := beq_iff_eq.2 h
 clear h hr
 go_enter Tryz.func66, Tryz.ntmps66
 go_wp2_with fail
 refine (spec_l1In c.number 0 ((d.records : Int) - 1) _).mono ?_; rintro e w1 ⟨rfl, rfl⟩
 go_wp2_with fail
 go_ret
 exact ⟨ret_bool HV.out.symm, ((Below.refl _ _).alloc (Nat.le_refl _) _).alloc (by simp) _⟩
theorem spec_leaf_10 (d : WdT) (A1 A2 A3 : Option Addr) (c1 c2 c3 : Nat) (m : Int) (x : Value) (c : CoreT) (w : World) (lo hi : Nat) (hr : CRep w lo hi x c) (q1 : d.slots ≤ 1048576) (q2 : d.globals ≤ 1048576) (q3 : d.routines ≤ 1048576) (q4 : d.records ≤ 1048576) (h : c.kind = 10) : Calls Tryz.prog 66 #[.agg #[.slice A1 d.routines c1, .slice A2 d.records c2, .slice A3 d.globals c3, .int .i64 m], .int .i64 d.slots, x] w fun e w' => e = .returned (.bool (leafOk d c.kind c.number)) ∧ Below w.heap.size w w' := by
 obtain ⟨A, cap, rfl, -, -, -⟩ := hr.form
 have HV : Hid (leafOk d c.kind c.number = inB c.number 1 2) := by show _ = _; rw [h]; simp [leafOk]
 have b1 : (c.kind == 1) = false := beq_eq_false_iff_ne.2 (by omega)
 have b5 : (c.kind == 5) = false := beq_eq_false_iff_ne.2 (by omega)
 have b6 : (c.kind == 6) = false := beq_eq_false_iff_ne.2 (by omega)
 have b7 : (c.kind == 7) = false := beq_eq_false_iff_ne.2 (by omega)
 have b8 : (c.kind == 8) = false := beq_eq_false_iff_ne.2 (by omega)
 have b9 : (c.kind == 9) = false := beq_eq_false_iff_ne.2 (by omega)
 have b10 : (c.kind == 10) = true := beq_iff_eq.2 h
 clear h hr
 go_enter Tryz.func66, Tryz.ntmps66
 go_wp2_with fail
 refine (spec_l1In c.number 1 2 _).mono ?_; rintro e w1 ⟨rfl, rfl⟩
 go_wp2_with fail
 go_ret
 exact ⟨ret_bool HV.out.symm, ((Below.refl _ _).alloc (Nat.le_refl _) _).alloc (by simp) _⟩
theorem spec_leaf_no (d : WdT) (A1 A2 A3 : Option Addr) (c1 c2 c3 : Nat) (m : Int) (x : Value) (c : CoreT) (w : World) (lo hi : Nat) (hr : CRep w lo hi x c) (q1 : d.slots ≤ 1048576) (q2 : d.globals ≤ 1048576) (q3 : d.routines ≤ 1048576) (q4 : d.records ≤ 1048576) (h : ¬ (c.kind = 1 ∨ c.kind = 5 ∨ c.kind = 6 ∨ c.kind = 7 ∨ c.kind = 8 ∨ c.kind = 9 ∨ c.kind = 10)) : Calls Tryz.prog 66 #[.agg #[.slice A1 d.routines c1, .slice A2 d.records c2, .slice A3 d.globals c3, .int .i64 m], .int .i64 d.slots, x] w fun e w' => e = .returned (.bool (leafOk d c.kind c.number)) ∧ Below w.heap.size w w' := by
 obtain ⟨A, cap, rfl, -, -, -⟩ := hr.form
 simp only [not_or] at h
 obtain ⟨h1, h5, h6, h7, h8, h9, h10⟩ := h
 have HV : Hid (leafOk d c.kind c.number = (c.number == 0)) := by show _ = _; simp only [leafOk, h1, h5, h6, h7, h8, h9, h10, if_false]; rw [Bool.eq_iff_iff]; simp
 have b1 : (c.kind == 1) = false := beq_eq_false_iff_ne.2 h1
 have b5 : (c.kind == 5) = false := beq_eq_false_iff_ne.2 h5
 have b6 : (c.kind == 6) = false := beq_eq_false_iff_ne.2 h6
 have b7 : (c.kind == 7) = false := beq_eq_false_iff_ne.2 h7
 have b8 : (c.kind == 8) = false := beq_eq_false_iff_ne.2 h8
 have b9 : (c.kind == 9) = false := beq_eq_false_iff_ne.2 h9
 have b10 : (c.kind == 10) = false := beq_eq_false_iff_ne.2 h10
 clear h1 h5 h6 h7 h8 h9 h10 hr
 go_enter Tryz.func66, Tryz.ntmps66
 go_wp2_with fail
 go_ret
 exact ⟨ret_bool HV.out.symm, ((Below.refl _ _).alloc (Nat.le_refl _) _).alloc (by simp) _⟩
theorem spec_l10Leaf (d : WdT) (A1 A2 A3 : Option Addr) (c1 c2 c3 : Nat) (m : Int) (x : Value) (c : CoreT) (w : World) (lo hi : Nat) (hr : CRep w lo hi x c) (q1 : d.slots ≤ 1048576) (q2 : d.globals ≤ 1048576) (q3 : d.routines ≤ 1048576) (q4 : d.records ≤ 1048576) : Calls Tryz.prog 66 #[.agg #[.slice A1 d.routines c1, .slice A2 d.records c2, .slice A3 d.globals c3, .int .i64 m], .int .i64 d.slots, x] w fun e w' => e = .returned (.bool (leafOk d c.kind c.number)) ∧ Below w.heap.size w w' := by
 by_cases h1 : c.kind = 1
 ·exact spec_leaf_1 d A1 A2 A3 c1 c2 c3 m x c w lo hi hr q1 q2 q3 q4 h1
 by_cases h5 : c.kind = 5
 ·exact spec_leaf_5 d A1 A2 A3 c1 c2 c3 m x c w lo hi hr q1 q2 q3 q4 h5
 by_cases h6 : c.kind = 6
 ·exact spec_leaf_6 d A1 A2 A3 c1 c2 c3 m x c w lo hi hr q1 q2 q3 q4 h6
 by_cases h7 : c.kind = 7
 ·exact spec_leaf_7 d A1 A2 A3 c1 c2 c3 m x c w lo hi hr q1 q2 q3 q4 h7
 by_cases h8 : c.kind = 8
 ·exact spec_leaf_8 d A1 A2 A3 c1 c2 c3 m x c w lo hi hr q1 q2 q3 q4 h8
 by_cases h9 : c.kind = 9
 ·exact spec_leaf_9 d A1 A2 A3 c1 c2 c3 m x c w lo hi hr q1 q2 q3 q4 h9
 by_cases h10 : c.kind = 10
 ·exact spec_leaf_10 d A1 A2 A3 c1 c2 c3 m x c w lo hi hr q1 q2 q3 q4 h10
 exact spec_leaf_no d A1 A2 A3 c1 c2 c3 m x c w lo hi hr q1 q2 q3 q4 (by rintro (h | h | h | h | h | h | h) <;> contradiction)
end Go.Proofs.YtjeomamdlmoghaaGreatDoor
end
section
namespace Go.Proofs.YtjeomamdlmoghaaGreatDoor
open Go.RowKit
theorem gSpace : Tryz.prog.globalNamed "strings.asciiSpace" = some 0 := by kernel_rfl
def SpaceTab (w : World) : Prop := Lib.TabIs Tryz.prog w "strings.asciiSpace" .u8 Lib.asciiSpaceTab ∧ 0 < w.heap.size
theorem SpaceTab.below {w w' : World} {B : Nat} (h : SpaceTab w) (hb : Below B w w') (hB : 0 < B) : SpaceTab w' :=
 ⟨var?_below hb gSpace hB h.1, Nat.lt_of_lt_of_le h.2 hb.size⟩
theorem SpaceTab.later {w w' : World} (h : SpaceTab w) (hb : Below w.heap.size w w') : SpaceTab w' := h.below hb h.2
theorem fields_at {s : ByteArray} {w : World} {Q : Ending → World → Prop} (n : Nat) (hs : s.size < 4294967281) (ha : (s.data.toList.all fun b => decide (b.toNat < 128)) = true)
 (hn : (Lib.fields s.data.toList).length = n) (hne : ((Lib.fields s.data.toList).all fun l => !l.isEmpty && decide (l.length ≤ 20)) = true) (ht : SpaceTab w)
 (h : ∀ (l : List ByteArray) (w' : World), l = (Lib.fields s.data.toList).map (fun x => (⟨x.toArray⟩ : ByteArray)) → l.length = n → (∀ t ∈ l, t.toList.isEmpty = false ∧ t.size ≤ 20) → Blk w' w.heap.size 9 (l.map .string).toArray → Below w.heap.size w w' → Q (.returned (.slice (some ⟨w.heap.size, 0, none⟩) n n)) w') :
 Calls Tryz.prog 126 #[.string s] w Q := by
 refine (Tryz.strings_Fields_laid s w hs (fun j b hj => ?_) ht.1).mono fun e w' ⟨he, hw⟩ => ?_
 ·have := List.all_eq_true.1 ha b (List.mem_of_getElem? hj)
  simpa using this
 ·subst he hw
  rw [hn]
  refine h ((Lib.fields s.data.toList).map fun l => ⟨l.toArray⟩) _ rfl (by rw [List.length_map, hn]) (fun t ht => ?_) ?_ ((Below.refl _ _).alloc (Nat.le_refl _) _)
  ·obtain ⟨l, hl, rfl⟩ := List.mem_map.1 ht
   have := List.all_eq_true.1 hne l hl
   simp only [Bool.and_eq_true, Bool.not_eq_true', decide_eq_true_eq] at this
   exact ⟨by rw [ByteArray.toList_eq]; exact this.1, by simpa [ByteArray.size] using this.2⟩
  ·rw [List.map_map]
   exact Blk.new w _ _
theorem text_at {w : World} {g : Nat} {l : List ByteArray} (h : Blk w g 9 (l.map Value.string).toArray) (j : Nat) (hj : j < l.length) : w.cell? ⟨g, j, none⟩ = some (.string (l.getD j ByteArray.empty)) := by
 rw [h.cell, List.getElem?_toArray, List.getElem?_map, List.getD, List.getElem?_eq_getElem hj]
 rfl
def opOk (op : Int) : Bool := decide ((1 ≤ op ∧ op ≤ 11) ∨ (20 ≤ op ∧ op ≤ 25) ∨ (30 ≤ op ∧ op ≤ 35) ∨ (40 ≤ op ∧ op ≤ 47) ∨ (50 ≤ op ∧ op ≤ 54) ∨ (60 ≤ op ∧ op ≤ 63) ∨ (70 ≤ op ∧ op ≤ 79) ∨ op = 81 ∨ (220 ≤ op ∧ op ≤ 225) ∨ (250 ≤ op ∧ op ≤ 254))
def arityLo (op : Int) : Int := if opOk op = false then 0 else if op ≤ 11 ∨ op = 81 then 1 else if op = 71 ∨ op = 72 then 3 else if op = 73 then 2 else if op = 74 then 0 else 2
def arityHi (op : Int) : Int := if opOk op = false then -1 else if op ≤ 11 ∨ op = 81 then 1 else if op = 71 ∨ op = 72 then 3 else if op = 73 then 8 else if op = 74 then 8 else 2
def OpTextB (b : Nat) (op : Int) (w : World) (e : Ending) (w' : World) : Prop := ∃ t : ByteArray, e = .returned (.string t) ∧ t.toList.isEmpty = !opOk op ∧ t.size ≤ b ∧ Below w.heap.size w w'
def OpText (op : Int) : World → Ending → World → Prop := OpTextB 22 op
theorem OpTextB.up {b : Nat} {op : Int} {w w' : World} {e : Ending} (h : OpTextB b op w e w') (hb : b ≤ 22) : OpText op w e w' := by obtain ⟨t, h1, h2, h3, h4⟩ := h; exact ⟨t, h1, h2, by omega, h4⟩
theorem ok_yes {op : Int} (h : (1 ≤ op ∧ op ≤ 11) ∨ (20 ≤ op ∧ op ≤ 25) ∨ (30 ≤ op ∧ op ≤ 35) ∨ (40 ≤ op ∧ op ≤ 47) ∨ (50 ≤ op ∧ op ≤ 54) ∨ (60 ≤ op ∧ op ≤ 63) ∨ (70 ≤ op ∧ op ≤ 79) ∨ op = 81 ∨ (220 ≤ op ∧ op ≤ 225) ∨ (250 ≤ op ∧ op ≤ 254)) : opOk op = true := decide_eq_true h
theorem ok_no {op : Int} (h : ¬ ((1 ≤ op ∧ op ≤ 11) ∨ (20 ≤ op ∧ op ≤ 25) ∨ (30 ≤ op ∧ op ≤ 35) ∨ (40 ≤ op ∧ op ≤ 47) ∨ (50 ≤ op ∧ op ≤ 54) ∨ (60 ≤ op ∧ op ≤ 63) ∨ (70 ≤ op ∧ op ≤ 79) ∨ op = 81 ∨ (220 ≤ op ∧ op ≤ 225) ∨ (250 ≤ op ∧ op ≤ 254))) : opOk op = false := decide_eq_false h
end Go.Proofs.YtjeomamdlmoghaaGreatDoor
end
section
namespace Go.Proofs.YtjeomamdlmoghaaGreatDoor
open Go.RowKit
theorem ret_intsK {a b c d : Int} (h1 : a = c) (h2 : b = d) : Ending.returned (.tuple #[.int .i64 a, .int .i64 b]) = .returned (.tuple #[.int .i64 c, .int .i64 d]) := by rw [h1, h2]
def kidsLo (k op : Int) : Int := if k = 11 then arityLo op else if k = 12 ∨ k = 16 ∨ k = 14 ∨ k = 20 ∨ k = 23 ∨ k = 26 ∨ k = 27 then 1 else if k = 13 ∨ k = 15 ∨ k = 18 ∨ k = 19 ∨ k = 22 ∨ k = 25 then 2 else if k = 17 then 3 else 0
def kidsHi (k op : Int) : Int := if k = 11 then arityHi op else if k = 12 then 9 else if k = 16 then 24 else if k = 14 ∨ k = 20 ∨ k = 23 ∨ k = 26 ∨ k = 27 then 1 else if k = 13 ∨ k = 15 ∨ k = 18 ∨ k = 19 ∨ k = 22 ∨ k = 25 then 2 else if k = 17 then 3 else 0
theorem kids_op {k op : Int} (h : k = 11) : kidsLo k op = arityLo op ∧ kidsHi k op = arityHi op := by subst h; exact ⟨rfl, rfl⟩
theorem kids_none {k op : Int} (h : ¬ (k = 11 ∨ k = 12 ∨ k = 13 ∨ k = 14 ∨ k = 15 ∨ k = 16 ∨ k = 17 ∨ k = 18 ∨ k = 19 ∨ k = 20 ∨ k = 22 ∨ k = 23 ∨ k = 25 ∨ k = 26 ∨ k = 27)) : kidsLo k op = 0 ∧ kidsHi k op = 0 := by
 simp only [not_or] at h
 obtain ⟨h1, h2, h3, h4, h5, h6, h7, h8, h9, h10, h11, h12, h13, h14, h15⟩ := h
 simp [kidsLo, kidsHi, h1, h2, h3, h4, h5, h6, h7, h8, h9, h10, h11, h12, h13, h14, h15]
theorem kids_12 {k op : Int} (h : k = 12) : kidsLo k op = 1 ∧ kidsHi k op = 9 := by subst h; exact ⟨rfl, rfl⟩
theorem kids_13 {k op : Int} (h : k = 13) : kidsLo k op = 2 ∧ kidsHi k op = 2 := by subst h; exact ⟨rfl, rfl⟩
theorem kids_14 {k op : Int} (h : k = 14) : kidsLo k op = 1 ∧ kidsHi k op = 1 := by subst h; exact ⟨rfl, rfl⟩
theorem kids_15 {k op : Int} (h : k = 15) : kidsLo k op = 2 ∧ kidsHi k op = 2 := by subst h; exact ⟨rfl, rfl⟩
theorem kids_16 {k op : Int} (h : k = 16) : kidsLo k op = 1 ∧ kidsHi k op = 24 := by subst h; exact ⟨rfl, rfl⟩
theorem kids_17 {k op : Int} (h : k = 17) : kidsLo k op = 3 ∧ kidsHi k op = 3 := by subst h; exact ⟨rfl, rfl⟩
theorem kids_18 {k op : Int} (h : k = 18) : kidsLo k op = 2 ∧ kidsHi k op = 2 := by subst h; exact ⟨rfl, rfl⟩
theorem kids_19 {k op : Int} (h : k = 19) : kidsLo k op = 2 ∧ kidsHi k op = 2 := by subst h; exact ⟨rfl, rfl⟩
theorem kids_20 {k op : Int} (h : k = 20) : kidsLo k op = 1 ∧ kidsHi k op = 1 := by subst h; exact ⟨rfl, rfl⟩
theorem kids_22 {k op : Int} (h : k = 22) : kidsLo k op = 2 ∧ kidsHi k op = 2 := by subst h; exact ⟨rfl, rfl⟩
theorem kids_23 {k op : Int} (h : k = 23) : kidsLo k op = 1 ∧ kidsHi k op = 1 := by subst h; exact ⟨rfl, rfl⟩
theorem kids_25 {k op : Int} (h : k = 25) : kidsLo k op = 2 ∧ kidsHi k op = 2 := by subst h; exact ⟨rfl, rfl⟩
theorem kids_26 {k op : Int} (h : k = 26) : kidsLo k op = 1 ∧ kidsHi k op = 1 := by subst h; exact ⟨rfl, rfl⟩
theorem kids_27 {k op : Int} (h : k = 27) : kidsLo k op = 1 ∧ kidsHi k op = 1 := by subst h; exact ⟨rfl, rfl⟩
end Go.Proofs.YtjeomamdlmoghaaGreatDoor
end
section
namespace Go.Proofs.YtjeomamdlmoghaaGreatDoor
open Go.RowKit
def litsInN : Code → List ByteArray
 | .seq a b => litsInN a ++ litsInN b
 | .region _ ops _ => ops.toList.flatMap fun o => match o.op with
   | .buildSlice _ _ ps => ps.toList.map fun p => match p.2 with
     | .const (.string s) => s
     | _ => ByteArray.empty
   | _ => []
 | .block _ c => litsInN c
 | .scope c => litsInN c
 | _ => []
noncomputable def reservedL : List ByteArray := match Tryz.f62.body with
 | some c => litsInN c
 | none => []
theorem reservedL_len : reservedL.length = 26 := by kernel_rfl
noncomputable def isRes (s : ByteArray) : Bool := Lib.containsS reservedL s
def nLetter (c : Nat) : Bool := decide ((97 ≤ c ∧ c ≤ 122) ∨ (65 ≤ c ∧ c ≤ 90) ∨ c = 95)
def nDigit (c : Nat) : Bool := decide (48 ≤ c ∧ c ≤ 57)
def nByte (c : Nat) : Bool := nLetter c || nDigit c
noncomputable def isNameB (s : ByteArray) : Bool := decide (1 ≤ s.size) && decide (s.size ≤ 12) && nLetter (byteAt s 0) && !isRes s && (List.range s.size).all fun j => nByte (byteAt s j)
theorem n_isLetter (c : Nat) (w : World) (_hc : c ≤ 255) : Calls Tryz.prog 76 #[.int .u8 c] w fun e w' => e = .returned (.bool (nLetter c)) ∧ w = w' := by
 go_enter Tryz.func76, Tryz.ntmps76
 go_wp2_with fail
 all_goals
  go_ret
  exact ⟨ret_bool (by rw [Bool.eq_iff_iff]; simp [nLetter]; omega), rfl⟩
theorem n_isDigit (c : Nat) (w : World) (_hc : c ≤ 255) : Calls Tryz.prog 74 #[.int .u8 c] w fun e w' => e = .returned (.bool (nDigit c)) ∧ w = w' := by
 go_enter Tryz.func74, Tryz.ntmps74
 go_wp2_with fail
 all_goals
  go_ret
  exact ⟨ret_bool (by rw [Bool.eq_iff_iff]; simp [nDigit]; omega), rfl⟩
theorem n_l5Letter (c : Nat) (w : World) (_hc : c ≤ 255) : Calls Tryz.prog 61 #[.int .u8 c] w fun e w' => e = .returned (.bool (nLetter c)) ∧ w = w' := by
 go_enter Tryz.func61, Tryz.ntmps61
 go_wp2_with fail
 all_goals
  go_ret
  exact ⟨ret_bool (by rw [Bool.eq_iff_iff]; simp [nLetter]; omega), rfl⟩
theorem n_l5Digit (c : Nat) (w : World) (_hc : c ≤ 255) : Calls Tryz.prog 63 #[.int .u8 c] w fun e w' => e = .returned (.bool (nDigit c)) ∧ w = w' := by
 go_enter Tryz.func63, Tryz.ntmps63
 go_wp2_with fail
 all_goals
  go_ret
  exact ⟨ret_bool (by rw [Bool.eq_iff_iff]; simp [nDigit]; omega), rfl⟩
theorem spec_l1Has (v : Value) (l : List ByteArray) (s : ByteArray) (w : World) {lo hi : Nat} (h : Rds w lo hi 1 v l.length (l.map .string)) :
 Calls Tryz.prog 87 #[v, .string s] w fun e w' => e = .returned (.bool (Lib.containsS l s)) ∧ w = w' := by
 obtain ⟨A, c, rfl, hc1, hc2, -⟩ := h.shape
 unfold maxLen at hc2
 go_enter Tryz.func87, Tryz.ntmps87
 go_wp2_with fail
 go_loop [5] (fun i => ∃ k : Nat, k ≤ l.length ∧ i = .int .i64 k ∧ Hid (s ∉ l.take k)) (fun i => l.length - (intOf i).toNat)
 case atStart => exact ⟨0, Nat.zero_le _, rfl, by simp [Hid]⟩
 case round =>
  obtain ⟨k, hk, rfl, hno⟩ := hrel
  by_cases hlt : k < l.length
  ·obtain ⟨g, off, x, rfl, -, -, hx, hcell⟩ := h.atMap hlt
   by_cases he : x = s
   ·subst he
    have HM := Lib.hid (List.mem_of_getElem? hx)
    have b := str_eq x
    clear hx
    go_wp2_with fail
    go_ret
    exact ⟨ret_bool ((Lib.containsS_iff _ _).2 HM.out).symm, rfl⟩
   ·have b := str_ne he
    have HN : Hid (s ∉ l.take (k + 1)) := by show _; rw [take_snoc_of hx]; intro hm; rcases List.mem_append.1 hm with h1 | h1; exact hno.out h1; exact he (List.mem_singleton.1 h1).symm
    clear hx hno
    go_wp2_with fail
    go_round
    case rel => exact ⟨k + 1, by omega, by go_num, HN⟩
    case measure => simp [intOf]; omega
  ·obtain rfl : k = l.length := by omega
   rw [List.take_length] at hno
   go_wp2_with fail
   go_ret
   exact ⟨ret_bool (by rw [Bool.eq_false_iff.2 (fun hc => hno.out ((Lib.containsS_iff _ _).1 hc))]), rfl⟩
theorem spec_IsReserved (s : ByteArray) (w : World) : Calls Tryz.prog 62 #[.string s] w fun e w' => e = .returned (.bool (isRes s)) ∧ Below w.heap.size w w' := by
 have H1 : Hid (∀ c : Array Value, c = (reservedL.map Value.string).toArray → Rds (w.alloc (.cells c 9)) w.heap.size (w.heap.size + 1) 1 (.slice (some ⟨w.heap.size, 0, none⟩) 26 26) reservedL.length (reservedL.map .string)) := by
  intro c hc
  rw [hc, reservedL_len]
  refine ⟨_, _, rfl, Nat.le_refl _, by decide, by rw [List.length_map, reservedL_len], (fun h => by cases h), fun _ => ⟨_, 0, rfl, Nat.le_refl _, Nat.lt_succ_self _, fun j u hu => ?_⟩⟩
  rw [Nat.zero_add, (Blk.new w 9 _).cell j, List.getElem?_toArray]
  exact hu
 go_enter Tryz.func62, Tryz.ntmps62
 go_wp2_with fail
 refine (spec_l1Has _ reservedL s _ (H1.out _ (by kernel_rfl))).mono ?_; rintro e w1 ⟨rfl, rfl⟩
 go_wp2_with fail
 go_ret
 exact ⟨rfl, (Below.refl _ _).alloc (Nat.le_refl _) _⟩
theorem impl_reservedWords (w : World) (ht : SpaceTab w) : Calls Tryz.prog 104 #[] w fun e w' => e = .returned (.slice (some ⟨w.heap.size, 0, none⟩) 26 26) ∧ Blk w' w.heap.size 9 (reservedL.map Value.string).toArray ∧ Below w.heap.size w w' := by
 go_enter Tryz.func104, Tryz.ntmps104
 go_wp2_with fail
 refine fields_at 26 (by decide) (by decide +kernel) (by decide +kernel) (by decide +kernel) ht ?_
 intro l w1 hd hl hne hB hb
 have he : l = reservedL := hd.trans (by kernel_rfl)
 rw [he] at hB
 clear hd he hl hne
 go_wp2_with fail
 go_ret
 exact ⟨rfl, hB, hb⟩
theorem impl_IsReserved (s : ByteArray) (w : World) (ht : SpaceTab w) : Calls Tryz.prog 75 #[.string s] w fun e w' => e = .returned (.bool (isRes s)) ∧ Below w.heap.size w w' := by
 have HE : Hid (Lib.containsS (reservedL.take 26) s = isRes s) := by show _ = _; rw [List.take_of_length_le (by rw [reservedL_len]; exact Nat.le_refl _)]; rfl
 go_enter Tryz.func75, Tryz.ntmps75
 go_wp2_with fail
 refine (impl_reservedWords _ ht).mono ?_; rintro e w1 ⟨rfl, hB, hb⟩
 have hc := Lib.hid (fun j (hj : j < reservedL.length) => text_at hB j hj)
 clear hB
 go_wp2_with fail
 refine (Tryz.slices_Contains_string w.heap.size 0 26 26 reservedL s w1 (by rw [reservedL_len]; exact Nat.le_refl _) (by omega) (fun j hj => by rw [Nat.zero_add]; exact hc.out j hj)).mono ?_
 rw [HE.out]
 rintro e w2 ⟨rfl, rfl⟩
 go_wp2_with fail
 go_ret
 exact ⟨rfl, hb⟩
theorem nm_short {s : ByteArray} (h : s.size < 1 ∨ 12 < s.size) : isNameB s = false := by
 unfold isNameB
 rcases h with h | h
 ·rw [decide_eq_false (by omega : ¬ 1 ≤ s.size)]; rfl
 ·rw [decide_eq_false (by omega : ¬ s.size ≤ 12)]; simp
theorem nm_head {s : ByteArray} (h : nLetter (byteAt s 0) = false) : isNameB s = false := by unfold isNameB; rw [h]; simp
theorem nm_res {s : ByteArray} (h : isRes s = true) : isNameB s = false := by unfold isNameB; rw [h]; simp
theorem nm_bad {s : ByteArray} {j : Nat} (hj : j < s.size) (h : nByte (byteAt s j) = false) : isNameB s = false := by
 have : ((List.range s.size).all fun j => nByte (byteAt s j)) = false := by
  rw [List.all_eq_false]
  exact ⟨j, List.mem_range.2 hj, by rw [h]; simp⟩
 unfold isNameB; rw [this]; simp
theorem nm_yes {s : ByteArray} (h1 : 1 ≤ s.size) (h2 : s.size ≤ 12) (h3 : nLetter (byteAt s 0) = true) (h4 : isRes s = false) (h5 : ∀ j, j < s.size → nByte (byteAt s j) = true) : isNameB s = true := by
 unfold isNameB
 rw [decide_eq_true h1, decide_eq_true h2, h3, h4, List.all_eq_true.2 fun j hj => h5 j (List.mem_range.1 hj)]
 rfl
theorem impl_IsName (s : ByteArray) (w : World) (ht : SpaceTab w) : Calls Tryz.prog 46 #[.string s] w fun e w' => e = .returned (.bool (isNameB s)) ∧ Below w.heap.size w w' := by
 by_cases h1 : s.size < 1
 ·have H := Lib.hid (nm_short (s := s) (.inl h1))
  go_enter Tryz.func46, Tryz.ntmps46
  go_wp2_with fail
  go_ret
  exact ⟨ret_bool H.out.symm, Below.refl _ _⟩
 by_cases h2 : 12 < s.size
 ·have H := Lib.hid (nm_short (s := s) (.inr h2))
  go_enter Tryz.func46, Tryz.ntmps46
  go_wp2_with fail
  go_ret
  exact ⟨ret_bool H.out.symm, Below.refl _ _⟩
 have h0 : 0 < s.size := by omega
 have HB := Lib.hid (byteAt_eq s 0 h0)
 have hb0 : s[0].toNat ≤ 255 := by have := s[0].toNat_lt; omega
 have HC0 := Lib.hid (fun w => n_isDigit s[0].toNat w hb0)
 rw [← HB.out] at HC0
 cases hd : nDigit (byteAt s 0) with
 | true =>
   have H := Lib.hid (nm_head (s := s) (by simp [nDigit] at hd; simp [nLetter]; omega))
   rw [hd] at HC0
   clear hd
   go_enter Tryz.func46, Tryz.ntmps46
   go_wp2_with fail
   rw [← HB.out]
   refine (HC0.out _).mono ?_; rintro e w1 ⟨rfl, rfl⟩
   go_wp2_with fail
   go_ret
   exact ⟨ret_bool H.out.symm, Below.refl _ _⟩
 | false =>
   rw [hd] at HC0
   have HD := Lib.hid hd
   clear hd
   have HR := Lib.hid (fun w ht => impl_IsReserved s w ht)
   cases hr : isRes s with
   | true =>
     have H := Lib.hid (nm_res hr)
     rw [hr] at HR
     clear hr
     go_enter Tryz.func46, Tryz.ntmps46
     go_wp2_with fail
     rw [← HB.out]
     refine (HC0.out _).mono ?_; rintro e w1 ⟨rfl, rfl⟩
     go_wp2_with fail
     refine (HR.out _ ht).mono ?_; rintro e w1 ⟨rfl, hb⟩
     go_wp2_with fail
     go_ret
     exact ⟨ret_bool H.out.symm, hb⟩
   | false =>
     have HRF := Lib.hid hr
     rw [hr] at HR
     clear hr
     go_enter Tryz.func46, Tryz.ntmps46
     go_wp2_with fail
     rw [← HB.out]
     refine (HC0.out _).mono ?_; rintro e w1 ⟨rfl, rfl⟩
     go_wp2_with fail
     refine (HR.out _ ht).mono ?_; rintro e w1 ⟨rfl, hb⟩
     go_wp2_with fail
     go_loop [3] (fun i => ∃ k : Nat, k ≤ s.size ∧ i = .int .i64 k ∧ Hid (∀ j, j < k → nByte (byteAt s j) = true)) (fun i => s.size - (intOf i).toNat)
     case atStart => exact ⟨0, Nat.zero_le _, rfl, fun j hj => by omega⟩
     case round =>
      obtain ⟨k, hk, rfl, hgo⟩ := hrel
      by_cases hlt : k < s.size
      ·have hbk : s[k].toNat ≤ 255 := by have := s[k].toNat_lt; omega
       have HK := Lib.hid (byteAt_eq s k hlt)
       have HL := Lib.hid (fun w => n_isLetter s[k].toNat w hbk)
       have HG := Lib.hid (fun w => n_isDigit s[k].toNat w hbk)
       cases hl : nLetter s[k].toNat with
       | true =>
         rw [hl] at HL
         have HN : Hid (∀ j, j < k + 1 → nByte (byteAt s j) = true) := by
          intro j hj
          by_cases e : j = k
          ·rw [e, HK.out, nByte, hl]; rfl
          ·exact hgo.out j (by omega)
         clear hl hgo
         go_wp2_with fail
         refine (HL.out _).mono ?_; rintro e w2 ⟨rfl, rfl⟩
         go_wp2_with fail
         go_round
         case rel => exact ⟨k + 1, by omega, by go_num, HN⟩
         case measure => simp [intOf]; omega
       | false =>
         rw [hl] at HL
         cases hg : nDigit s[k].toNat with
         | true =>
           rw [hg] at HG
           have HN : Hid (∀ j, j < k + 1 → nByte (byteAt s j) = true) := by
            intro j hj
            by_cases e : j = k
            ·rw [e, HK.out, nByte, hg]; simp
            ·exact hgo.out j (by omega)
           clear hl hg hgo
           go_wp2_with fail
           refine (HL.out _).mono ?_; rintro e w2 ⟨rfl, rfl⟩
           go_wp2_with fail
           refine (HG.out _).mono ?_; rintro e w2 ⟨rfl, rfl⟩
           go_wp2_with fail
           go_round
           case rel => exact ⟨k + 1, by omega, by go_num, HN⟩
           case measure => simp [intOf]; omega
         | false =>
           rw [hg] at HG
           have H := Lib.hid (nm_bad hlt (by rw [HK.out, nByte, hl, hg]; rfl))
           clear hl hg hgo
           go_wp2_with fail
           refine (HL.out _).mono ?_; rintro e w2 ⟨rfl, rfl⟩
           go_wp2_with fail
           refine (HG.out _).mono ?_; rintro e w2 ⟨rfl, rfl⟩
           go_wp2_with fail
           go_ret
           exact ⟨ret_bool H.out.symm, hb⟩
      ·obtain rfl : k = s.size := by omega
       have H := Lib.hid (nm_yes (by omega) (by omega) (by have h9 := hgo.out 0 h0; have h8 := HD.out; simp only [nByte, h8, Bool.or_false] at h9; exact h9) HRF.out hgo.out)
       clear hgo
       go_wp2_with fail
       go_ret
       exact ⟨ret_bool H.out.symm, hb⟩
theorem spec_IsName (s : ByteArray) (w : World) : Calls Tryz.prog 36 #[.string s] w fun e w' => e = .returned (.bool (isNameB s)) ∧ Below w.heap.size w w' := by
 by_cases h1 : s.size < 1
 ·have H := Lib.hid (nm_short (s := s) (.inl h1))
  go_enter Tryz.func36, Tryz.ntmps36
  go_wp2_with fail
  go_ret
  exact ⟨ret_bool H.out.symm, Below.refl _ _⟩
 by_cases h2 : 12 < s.size
 ·have H := Lib.hid (nm_short (s := s) (.inr h2))
  go_enter Tryz.func36, Tryz.ntmps36
  go_wp2_with fail
  go_ret
  exact ⟨ret_bool H.out.symm, Below.refl _ _⟩
 have h0 : 0 < s.size := by omega
 have HB := Lib.hid (byteAt_eq s 0 h0)
 have hb0 : s[0].toNat ≤ 255 := by have := s[0].toNat_lt; omega
 have HC0 := Lib.hid (fun w => n_l5Letter s[0].toNat w hb0)
 rw [← HB.out] at HC0
 cases hd : nLetter (byteAt s 0) with
 | false =>
   have H := Lib.hid (nm_head (s := s) hd)
   rw [hd] at HC0
   clear hd
   go_enter Tryz.func36, Tryz.ntmps36
   go_wp2_with fail
   rw [← HB.out]
   refine (HC0.out _).mono ?_; rintro e w1 ⟨rfl, rfl⟩
   go_wp2_with fail
   go_ret
   exact ⟨ret_bool H.out.symm, Below.refl _ _⟩
 | true =>
   rw [hd] at HC0
   have HD := Lib.hid hd
   clear hd
   have HR := Lib.hid (fun w => spec_IsReserved s w)
   cases hr : isRes s with
   | true =>
     have H := Lib.hid (nm_res hr)
     rw [hr] at HR
     clear hr
     go_enter Tryz.func36, Tryz.ntmps36
     go_wp2_with fail
     rw [← HB.out]
     refine (HC0.out _).mono ?_; rintro e w1 ⟨rfl, rfl⟩
     go_wp2_with fail
     refine (HR.out _).mono ?_; rintro e w1 ⟨rfl, hb⟩
     go_wp2_with fail
     go_ret
     exact ⟨ret_bool H.out.symm, hb⟩
   | false =>
     have HRF := Lib.hid hr
     rw [hr] at HR
     clear hr
     go_enter Tryz.func36, Tryz.ntmps36
     go_wp2_with fail
     rw [← HB.out]
     refine (HC0.out _).mono ?_; rintro e w1 ⟨rfl, rfl⟩
     go_wp2_with fail
     refine (HR.out _).mono ?_; rintro e w1 ⟨rfl, hb⟩
     go_wp2_with fail
     go_loop [3] (fun i => ∃ k : Nat, k ≤ s.size ∧ i = .int .i64 k ∧ Hid (∀ j, j < k → nByte (byteAt s j) = true)) (fun i => s.size - (intOf i).toNat)
     case atStart => exact ⟨0, Nat.zero_le _, rfl, fun j hj => by omega⟩
     case round =>
      obtain ⟨k, hk, rfl, hgo⟩ := hrel
      by_cases hlt : k < s.size
      ·have hbk : s[k].toNat ≤ 255 := by have := s[k].toNat_lt; omega
       have HK := Lib.hid (byteAt_eq s k hlt)
       have HL := Lib.hid (fun w => n_l5Letter s[k].toNat w hbk)
       have HG := Lib.hid (fun w => n_l5Digit s[k].toNat w hbk)
       cases hl : nLetter s[k].toNat with
       | true =>
         rw [hl] at HL
         have HN : Hid (∀ j, j < k + 1 → nByte (byteAt s j) = true) := by
          intro j hj
          by_cases e : j = k
          ·rw [e, HK.out, nByte, hl]; rfl
          ·exact hgo.out j (by omega)
         clear hl hgo
         go_wp2_with fail
         refine (HL.out _).mono ?_; rintro e w2 ⟨rfl, rfl⟩
         go_wp2_with fail
         go_round
         case rel => exact ⟨k + 1, by omega, by go_num, HN⟩
         case measure => simp [intOf]; omega
       | false =>
         rw [hl] at HL
         cases hg : nDigit s[k].toNat with
         | true =>
           rw [hg] at HG
           have HN : Hid (∀ j, j < k + 1 → nByte (byteAt s j) = true) := by
            intro j hj
            by_cases e : j = k
            ·rw [e, HK.out, nByte, hg]; simp
            ·exact hgo.out j (by omega)
           clear hl hg hgo
           go_wp2_with fail
           refine (HL.out _).mono ?_; rintro e w2 ⟨rfl, rfl⟩
           go_wp2_with fail
           refine (HG.out _).mono ?_; rintro e w2 ⟨rfl, rfl⟩
           go_wp2_with fail
           go_round
           case rel => exact ⟨k + 1, by omega, by go_num, HN⟩
           case measure => simp [intOf]; omega
         | false =>
           rw [hg] at HG
           have H := Lib.hid (nm_bad hlt (by rw [HK.out, nByte, hl, hg]; rfl))
           clear hl hg hgo
           go_wp2_with fail
           refine (HL.out _).mono ?_; rintro e w2 ⟨rfl, rfl⟩
           go_wp2_with fail
           refine (HG.out _).mono ?_; rintro e w2 ⟨rfl, rfl⟩
           go_wp2_with fail
           go_ret
           exact ⟨ret_bool H.out.symm, hb⟩
      ·obtain rfl : k = s.size := by omega
       have H := Lib.hid (nm_yes (by omega) (by omega) (HD.out) HRF.out hgo.out)
       clear hgo
       go_wp2_with fail
       go_ret
       exact ⟨ret_bool H.out.symm, hb⟩
end Go.Proofs.YtjeomamdlmoghaaGreatDoor
end
section
namespace Go.Proofs.YtjeomamdlmoghaaGreatDoor
open Go.RowKit
section
variable {α : Type} {f : α → List Dat} {k : Nat}
def flat (f : α → List Dat) (l : List α) : List Dat := l.flatMap f
theorem flat_nil : flat f [] = [] := rfl
theorem flat_cons (c : α) (l : List α) : flat f (c :: l) = f c ++ flat f l := by simp [flat]
theorem flat_app (a b : List α) : flat f (a ++ b) = flat f a ++ flat f b := by simp [flat]
theorem flat_len (hf : ∀ x, (f x).length = k) (l : List α) : (flat f l).length = l.length * k := by
 induction l with
 | nil => simp [flat]
 | cons c l ih => rw [flat_cons, List.length_append, hf, ih, List.length_cons, Nat.succ_mul, Nat.add_comm]
theorem flat_at {l : List α} {j : Nat} {c : α} (h : l[j]? = some c) : flat f l = flat f (l.take j) ++ (f c ++ flat f (l.drop (j + 1))) := by
 obtain ⟨hj, rfl⟩ := List.getElem?_eq_some_iff.1 h
 have e : l = l.take j ++ (l[j] :: l.drop (j + 1)) := by rw [← List.drop_eq_getElem_cons hj, List.take_append_drop]
 conv => lhs; rw [e]
 rw [flat_app, flat_cons]
theorem flat_snoc {l : List α} {j : Nat} {c : α} (h : l[j]? = some c) : flat f (l.take (j + 1)) = flat f (l.take j) ++ f c := by
 rw [take_snoc_of h, flat_app, flat_cons, flat_nil, List.append_nil]
def sumOf (b : α → Nat) : List α → Nat
 | [] => 0
 | c :: l => b c + sumOf b l
theorem sumOf_app (b : α → Nat) (x y : List α) : sumOf b (x ++ y) = sumOf b x + sumOf b y := by
 induction x with
 | nil => simp [sumOf]
 | cons c l ih => simp [sumOf, ih]; omega
theorem sumOf_snoc {b : α → Nat} {l : List α} {j : Nat} {c : α} (h : l[j]? = some c) : sumOf b (l.take (j + 1)) = sumOf b (l.take j) + b c := by
 rw [take_snoc_of h, sumOf_app]; simp [sumOf]
theorem sumOf_take_le (b : α → Nat) (l : List α) (j : Nat) : sumOf b (l.take j) ≤ sumOf b l := by
 have := sumOf_app b (l.take j) (l.drop j)
 rw [List.take_append_drop] at this
 omega
theorem sumOf_mem {b : α → Nat} {l : List α} {c : α} (h : c ∈ l) : b c ≤ sumOf b l := by
 induction l with
 | nil => cases h
 | cons x l ih =>
   simp only [sumOf]
   rcases List.mem_cons.1 h with rfl | h
   ·omega
   ·have := ih h; omega
end
def LRep {α : Type} (w : World) (lo hi k : Nat) (f : α → List Dat) (v : Value) (l : List α) : Prop := Rep w lo hi (.row k l.length (flat f l)) v
def SRep {α : Type} (w : World) (lo hi : Nat) (f : α → List Dat) (x : Value) (c : α) : Prop := ARep w lo hi (f c) x
section
variable {α : Type} {f : α → List Dat} {k : Nat} {w w' : World} {lo hi : Nat} {x v : Value} {c : α} {l : List α}
theorem LRep.keep (h : LRep w lo hi k f v l) (hk : ∀ p : Addr, lo ≤ p.block → p.block < hi → w'.cell? p = w.cell? p) : LRep w' lo hi k f v l := Rep.keep h hk
theorem LRep.below {B : Nat} (h : LRep w lo hi k f v l) (hb : Below B w w') (hB : hi ≤ B) : LRep w' lo hi k f v l := Rep.below h hb hB
theorem LRep.wide {lo' hi' : Nat} (h : LRep w lo hi k f v l) (h1 : lo' ≤ lo) (h2 : hi ≤ hi') : LRep w lo' hi' k f v l := Rep.wide h h1 h2
theorem LRep.same (h : LRep w lo hi k f v l) (hs : Same w w') : LRep w' lo hi k f v l := Rep.same h hs
theorem LRep.alloc (h : LRep w lo hi k f v l) (hB : hi ≤ w.heap.size) (o : Obj) : LRep (w.alloc o) lo hi k f v l := Rep.alloc h hB o
theorem LRep.setFar (h : LRep w lo hi k f v l) {p : Addr} (hp : p.block < lo ∨ hi ≤ p.block) (u : Value) : LRep (w.setCell p u) lo hi k f v l := Rep.setFar h hp u
theorem LRep.grown {row : Option Nat} (h : LRep w lo hi k f v l) (hg : w.grownBy w' row) (hB : hi ≤ w.heap.size) (hr : ∀ g, row = some g → g < lo ∨ hi ≤ g) : LRep w' lo hi k f v l := Rep.grown h hg hB hr
theorem LRep.shape (h : LRep w lo hi k f v l) : ∃ A c, v = .slice A l.length c ∧ l.length ≤ c ∧ c ≤ maxLen := by
 obtain ⟨A, c, h1, h2, h3, -⟩ := Rep.shape h; exact ⟨A, c, h1, h2, h3⟩
theorem SRep.keep (h : SRep w lo hi f x c) (hk : ∀ p : Addr, lo ≤ p.block → p.block < hi → w'.cell? p = w.cell? p) : SRep w' lo hi f x c := ARep.keep h hk
theorem SRep.below {B : Nat} (h : SRep w lo hi f x c) (hb : Below B w w') (hB : hi ≤ B) : SRep w' lo hi f x c := ARep.below h hb hB
theorem SRep.wide {lo' hi' : Nat} (h : SRep w lo hi f x c) (h1 : lo' ≤ lo) (h2 : hi ≤ hi') : SRep w lo' hi' f x c := ARep.wide h h1 h2
theorem SRep.same (h : SRep w lo hi f x c) (hs : Same w w') : SRep w' lo hi f x c := ARep.same h hs
theorem SRep.alloc (h : SRep w lo hi f x c) (hB : hi ≤ w.heap.size) (o : Obj) : SRep (w.alloc o) lo hi f x c := ARep.alloc h hB o
theorem SRep.setFar (h : SRep w lo hi f x c) {p : Addr} (hp : p.block < lo ∨ hi ≤ p.block) (u : Value) : SRep (w.setCell p u) lo hi f x c := ARep.setFar h hp u
theorem SRep.grown {row : Option Nat} (h : SRep w lo hi f x c) (hg : w.grownBy w' row) (hB : hi ≤ w.heap.size) (hr : ∀ g, row = some g → g < lo ∨ hi ≤ g) : SRep w' lo hi f x c := ARep.grown h hg hB hr
theorem LRep.elem {A : Option Addr} {cap j : Nat} (hf : ∀ y, (f y).length = k) (h : LRep w lo hi k f (.slice A l.length cap) l) (hc : l[j]? = some c) :
 ∃ g off us, A = some ⟨g, off, none⟩ ∧ lo ≤ g ∧ g < hi ∧ us.length = k ∧ RepL w lo hi (f c) us ∧ ∀ i u, us[i]? = some u → w.cell? ⟨g, off + j * k + i, none⟩ = some u := by
 have hj := (List.getElem?_eq_some_iff.1 hc).1
 exact Rep.elem h hj (flat_at hc) (by rw [flat_len hf, List.length_take, Nat.min_eq_left (by omega)]) (hf c)
end
def strDats (s : ByteArray) : List Dat := [.str s]
theorem strDats_len (s : ByteArray) : (strDats s).length = 1 := rfl
theorem LRep.text {w : World} {lo hi cap j : Nat} {A : Option Addr} {l : List ByteArray} {s : ByteArray} (h : LRep w lo hi 1 strDats (.slice A l.length cap) l) (hc : l[j]? = some s) :
 ∃ g off, A = some ⟨g, off, none⟩ ∧ lo ≤ g ∧ g < hi ∧ w.cell? ⟨g, off + j, none⟩ = some (.string s) := by
 obtain ⟨g, off, us, hA, h1, h2, h3, h4, h5⟩ := h.elem strDats_len hc
 obtain ⟨v0, t0, rfl, a0, h4⟩ := RepL.out h4
 obtain rfl := a0.str_
 refine ⟨g, off, hA, h1, h2, ?_⟩
 have := h5 0 _ rfl
 rwa [Nat.mul_one, Nat.add_zero] at this
def intDats (n : Int) : List Dat := [.int .i64 n]
theorem intDats_len (n : Int) : (intDats n).length = 1 := rfl
def intBulk (n : Int) : Nat := 0
theorem LRep.num {w : World} {lo hi cap j : Nat} {A : Option Addr} {l : List Int} {s : Int} (h : LRep w lo hi 1 intDats (.slice A l.length cap) l) (hc : l[j]? = some s) :
 ∃ g off, A = some ⟨g, off, none⟩ ∧ lo ≤ g ∧ g < hi ∧ w.cell? ⟨g, off + j, none⟩ = some (.int .i64 s) := by
 obtain ⟨g, off, us, hA, h1, h2, h3, h4, h5⟩ := h.elem intDats_len hc
 obtain ⟨v0, t0, rfl, a0, h4⟩ := RepL.out h4
 obtain rfl := a0.int_
 refine ⟨g, off, hA, h1, h2, ?_⟩
 have := h5 0 _ rfl
 rwa [Nat.mul_one, Nat.add_zero] at this
theorem strDats_cells {w : World} {lo hi : Nat} : ∀ {l : List ByteArray} {vs : List Value}, RepL w lo hi (flat strDats l) vs ↔ vs = l.map .string
 | [], vs => by simp [flat, RepL]
 | s :: l, vs => by
   rw [flat_cons]
   constructor
   ·intro h
    obtain ⟨v, vs', rfl, h1, h2⟩ := RepL.out (d := .str s) (ds := flat strDats l) h
    obtain rfl := h1.str_
    rw [strDats_cells.1 h2]; rfl
   ·intro h
    subst h
    exact RepL.cons_ Rep.mkStr (strDats_cells.2 rfl)
theorem LRep.rds {w : World} {lo hi : Nat} {v : Value} {l : List ByteArray} : LRep w lo hi 1 strDats v l ↔ Rds w lo hi 1 v l.length (l.map .string) := by
 constructor
 ·intro h
  obtain ⟨vs, h1, h2⟩ := Rep.row_ h
  rw [strDats_cells.1 h2] at h1
  exact h1
 ·intro h
  exact Rep.mkRow h (strDats_cells.2 rfl)
structure TFrm (w W : World) (t1 t2 : TypeId) (pc rc oc : Array Value) : Prop where
 bel : Below w.heap.size w W
 arg : Blk W w.heap.size t1 pc
 res : Blk W (w.heap.size + 1) t2 rc
 var : Blk W (w.heap.size + 1 + 1) t2 oc
theorem TFrm.new (w : World) (t1 t2 : TypeId) (pc rc oc : Array Value) : TFrm w (((w.alloc (.cells pc t1)).alloc (.cells rc t2)).alloc (.cells oc t2)) t1 t2 pc rc oc :=
 ⟨(((Below.refl _ _).alloc (Nat.le_refl _) _).alloc (by simp) _).alloc (by simp; omega) _, ((Blk.new w _ _).alloc _).alloc _, (Blk.newAt _ _ _ _ (by simp)).alloc _, Blk.newAt _ _ _ _ (by simp)⟩
theorem TFrm.later {w W W' : World} {t1 t2 : TypeId} {pc rc oc : Array Value} (h : TFrm w W t1 t2 pc rc oc) (hb : Below W.heap.size W W') : TFrm w W' t1 t2 pc rc oc :=
 ⟨h.bel.trans (hb.mono h.bel.size), h.arg.later hb, h.res.later hb, h.var.later hb⟩
theorem TFrm.set {w W : World} {t1 t2 : TypeId} {pc rc oc : Array Value} (h : TFrm w W t1 t2 pc rc oc) (i : Nat) (u : Value) : TFrm w (W.setCell ⟨w.heap.size + 1 + 1, i, none⟩ u) t1 t2 pc rc (oc.setIfInBounds i u) :=
 ⟨h.bel.setCell (by simp; omega) _, h.arg.far (by simp; omega) _, h.res.far (by simp) _, h.var.set_ i u⟩
def OwnS {α : Type} (f : α → List Dat) (c : α) (w : World) (e : Ending) (w' : World) : Prop := ∃ x, e = .returned x ∧ SRep w' w.heap.size w'.heap.size f x c ∧ Below w.heap.size w w'
def OwnL {α : Type} (k : Nat) (f : α → List Dat) (l : List α) (w : World) (e : Ending) (w' : World) : Prop := ∃ v, e = .returned v ∧ LRep w' w.heap.size w'.heap.size k f v l ∧ Below w.heap.size w w'
end Go.Proofs.YtjeomamdlmoghaaGreatDoor
end
