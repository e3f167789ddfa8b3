/- EdA: several texts in one. -/
import Derived.Test.YtekobbeoaalibaaGreatDoorVerMem
import Derived.Test.YtekobbeoaalibaaGreatDoorTyAll
import Derived.Test.YtekobbeoaalibaaGreatDoorInsDefs
import Derived.Deep.QuietTactic
import Derived.Test.YtekobbeoaalibaaGreatDoorVerJ
section
namespace Go.Proofs.YtekobbeoaalibaaGreatDoor
open Go.RowKit
set_option linter.unusedVariables false

/-- an operator that neither fails nor makes a choice -/
def sureB (op : Int) : Bool := decide (1 ≤ op ∧ op ≤ 3 ∨ op = 6 ∨ op = 10 ∨ 20 ≤ op ∧ op ≤ 25 ∨ 50 ≤ op ∧ op ≤ 54 ∨ op = 73 ∨ op = 74 ∨ op = 79)
/-- the number of values behind an instruction between a mark and its unmark, n ahead of it -/
def stillN (x : InsT) (n : Int) : Option Int :=
  if 1 ≤ x.op ∧ x.op ≤ 10 then some (n + 1) else if x.op = 30 then (if n < 1 then none else some (n - 1)) else if x.op = 11 then (if sureB x.a = true ∧ ¬ n < x.b then some (n + (1 - x.b)) else none) else none
/-- the place of the unmark that closes the region, from place i on with n values; tg: the places that stop the search -/
def closeT (tg : Nat → Bool) : List InsT → Nat → Int → Option Nat
  | [], _, _ => none
  | x :: l, i, n => if tg i = true then none else if x.op = 14 then (if n = 1 then some i else none) else match stillN x n with | none => none | some m => closeT tg l (i + 1) m
def noTg : Nat → Bool := fun _ => false
def closeP (c : List InsT) (p : Nat) : Option Nat := closeT noTg (c.drop (p + 1)) (p + 1) 0
/-- a label or an entry leads into a .. b -/
def enterB (c : CodeT) (a b : Int) : Bool := c.routines.any (fun r => decide (a ≤ r.entry ∧ r.entry ≤ b)) || c.instrs.any (fun x => jumpB x.op && decide (a ≤ x.a ∧ x.a ≤ b))
def tgB (c : CodeT) (i : Nat) : Bool := enterB c i i
def gotoB (c : List InsT) (a : Int) : Bool := match c[a.toNat]? with | some y => decide (y.op = 15) | none => false
def threadB (c : List InsT) (x : InsT) : Bool := decide (x.op = 13 ∨ x.op = 15 ∨ x.op = 17) && decide (0 ≤ x.a) && gotoB c x.a
def unmarkB (c : CodeT) (x : InsT) (p : Nat) : Bool := decide (x.op = 13) && (match closeP c.instrs p with | none => false | some e => !enterB c ((p : Int) + 1) e)
def failB (x : InsT) : Bool := decide (x.op = 16 ∧ x.a = 0 ∧ x.b = 0 ∧ x.line = 0 ∧ x.text.size = 0)
def deadB (sh : List ByteArray) (x : InsT) (p : Nat) : Bool := decide ((sh.getD p ⟨#[]⟩).size = 0) && !failB x
/-- an edit of kind k at place p, where x stands -/
def editAt (c : CodeT) (sh : List ByteArray) (k : Int) (p : Nat) (x : InsT) : Bool := if k = 1 then threadB c.instrs x else if k = 2 then unmarkB c x p else if k = 3 then deadB sh x p else false
def editB (c : CodeT) (sh : List ByteArray) (k p : Int) : Bool := if p < 0 then false else match c.instrs[p.toNat]? with | none => false | some x => editAt c sh k p.toNat x

theorem closeT_ge {tg : Nat → Bool} : ∀ {l : List InsT} {i e : Nat} {n : Int}, closeT tg l i n = some e → i ≤ e ∧ e < i + l.length
  | [], i, e, n, h => by cases h
  | x :: l, i, e, n, h => by
    simp only [closeT] at h
    split at h
    · cases h
    · split at h
      · split at h
        · injection h with h; subst h; simp
        · cases h
      · split at h
        · cases h
        · have := closeT_ge h; simp only [List.length_cons]; omega
open Classical in
theorem closeT_tg {tg : Nat → Bool} : ∀ (l : List InsT) (i : Nat) (n : Int), closeT tg l i n = match closeT noTg l i n with | none => none | some e => if ∀ j, i ≤ j → j ≤ e → tg j = false then some e else none
  | [], i, n => rfl
  | x :: l, i, n => by
    simp only [closeT]
    simp only [show noTg i = false from rfl, Bool.false_eq_true, if_false]
    by_cases ht : tg i = true
    · rw [if_pos ht]
      by_cases h14 : x.op = 14
      · by_cases h1 : n = 1
        · simp only [h14, h1, if_true]
          rw [if_neg (fun h => by have := h i (Nat.le_refl _) (Nat.le_refl _); rw [ht] at this; cases this)]
        · simp [h14, h1]
      · simp only [h14, if_false]
        cases stillN x n with
        | none => rfl
        | some m =>
          simp only []
          cases he : closeT noTg l (i + 1) m with
          | none => rfl
          | some e =>
            have := closeT_ge he
            simp only []
            rw [if_neg (fun h => by have := h i (Nat.le_refl _) (by omega); rw [ht] at this; cases this)]
    · have ht : tg i = false := by simpa using ht
      rw [if_neg (by simp [ht])]
      by_cases h14 : x.op = 14
      · by_cases h1 : n = 1
        · simp only [h14, h1, if_true]
          rw [if_pos (fun j h1 h2 => by obtain rfl : j = i := by omega
                                        exact ht)]
        · simp [h14, h1]
      · simp only [h14, if_false]
        cases stillN x n with
        | none => rfl
        | some m =>
          simp only []
          rw [closeT_tg l (i + 1) m]
          cases he : closeT noTg l (i + 1) m with
          | none => rfl
          | some e =>
            simp only []
            by_cases hA : ∀ j, i + 1 ≤ j → j ≤ e → tg j = false
            · rw [if_pos hA, if_pos (fun j h1 h2 => by
                rcases Nat.eq_or_lt_of_le h1 with rfl | h1
                · exact ht
                · exact hA j h1 h2)]
            · rw [if_neg hA, if_neg (fun h => hA fun j h1 h2 => h j (by omega) h2)]
theorem enter_iff {c : CodeT} {a b : Int} (ha : 0 ≤ a) : enterB c a b = true ↔ ∃ j : Nat, a ≤ (j : Int) ∧ (j : Int) ≤ b ∧ tgB c j = true := by
  simp only [tgB, enterB, Bool.or_eq_true, List.any_eq_true, Bool.and_eq_true, decide_eq_true_eq]
  constructor
  · rintro (⟨r, hr, h1, h2⟩ | ⟨x, hx, hj, h1, h2⟩)
    · exact ⟨r.entry.toNat, by omega, by omega, .inl ⟨r, hr, by omega⟩⟩
    · exact ⟨x.a.toNat, by omega, by omega, .inr ⟨x, hx, hj, by omega⟩⟩
  · rintro ⟨j, h1, h2, (⟨r, hr, h3, h4⟩ | ⟨x, hx, hj, h3, h4⟩)⟩
    · exact .inl ⟨r, hr, by omega, by omega⟩
    · exact .inr ⟨x, hx, hj, by omega, by omega⟩
/-- the program's search, which stops at targets, against the reference's two questions -/
theorem unmark_eq (c : CodeT) (x : InsT) (p : Nat) (hx : x.op = 13) : (closeT (tgB c) (c.instrs.drop (p + 1)) (p + 1) 0).isSome = unmarkB c x p := by
  rw [closeT_tg]
  unfold unmarkB closeP
  rw [decide_eq_true hx, Bool.true_and]
  cases closeT noTg (c.instrs.drop (p + 1)) (p + 1) 0 with
  | none => rfl
  | some e =>
    simp only []
    have hi := enter_iff (c := c) (a := (p : Int) + 1) (b := (e : Int)) (by omega)
    by_cases hA : ∀ j, p + 1 ≤ j → j ≤ e → tgB c j = false
    · rw [if_pos hA]
      have : enterB c ((p : Int) + 1) e = false := by
        rw [Bool.eq_false_iff]
        intro h
        obtain ⟨j, h1, h2, h3⟩ := hi.1 h
        rw [hA j (by omega) (by omega)] at h3; cases h3
      rw [this]; rfl
    · rw [if_neg hA]
      have : enterB c ((p : Int) + 1) e = true := by
        refine hi.2 ?_
        obtain ⟨j, hj⟩ := Classical.not_forall.1 hA
        rw [Classical.not_imp, Classical.not_imp] at hj
        exact ⟨j, by omega, by omega, by simpa using hj.2.2⟩
      rw [this]; rfl
theorem drop_at {c : List InsT} {i : Nat} {x : InsT} (h : c[i]? = some x) : c.drop i = x :: c.drop (i + 1) := by
  obtain ⟨hi, rfl⟩ := List.getElem?_eq_some_iff.1 h
  exact List.drop_eq_getElem_cons hi
end Go.Proofs.YtekobbeoaalibaaGreatDoor
end

section
namespace Go.Proofs.YtekobbeoaalibaaGreatDoor
open Go.RowKit
set_option linter.unusedVariables false

def stD (x : InsT) : Int := if 1 ≤ x.op ∧ x.op ≤ 10 then 1 else if x.op = 30 then -1 else if x.op = 11 then 1 - x.b else 0
def stB (x : InsT) : Bool := if 1 ≤ x.op ∧ x.op ≤ 10 then true else if x.op = 30 then true else if x.op = 11 then sureB x.a else false
abbrev icells (x : InsT) : Array Value := #[Value.int .i64 x.op, .int .i64 x.a, .int .i64 x.b, .int .i64 x.line, .string x.text]
set_option maxRecDepth 100000 in
theorem still_r0 (x : InsT) (w : World) (h3 : (x.op == 11) = true) (h3' : (x.op != 11) = false) (h2 : (x.op == 30) = false) (h1 : ¬ x.op ≤ 10) (hb1 : 0 ≤ x.b) (hb2 : x.b ≤ 9) (hh : x.a ≤ 0) :
    Calls Tryz.prog 131 #[.agg #[Value.int .i64 x.op, .int .i64 x.a, .int .i64 x.b, .int .i64 x.line, .string x.text]] w fun e w' => e = .returned (.tuple #[.int .i64 (1 - x.b), .bool (sureB x.a)]) ∧ Below w.heap.size w w' := by
  have hw : Below w.heap.size w (w.alloc (.cells #[Value.int .i64 x.op, .int .i64 x.a, .int .i64 x.b, .int .i64 x.line, .string x.text] 79)) := (Below.refl _ _).alloc (Nat.le_refl _) _
  have hs : sureB x.a = false := by simp [sureB]; omega
  rw [hs]
  clear hs
  have e6 : (x.a == 6) = false := by simp; omega
  have e10 : (x.a == 10) = false := by simp; omega
  have e73 : (x.a == 73) = false := by simp; omega
  have e74 : (x.a == 74) = false := by simp; omega
  have e79 : (x.a == 79) = false := by simp; omega
  have f1 : decide (1 ≤ x.a) = false := by simp; omega
  have f20 : decide (20 ≤ x.a) = false := by simp; omega
  have f50 : decide (50 ≤ x.a) = false := by simp; omega
  have f3 : decide (x.a ≤ 3) = true := by simp; omega
  have f25 : decide (x.a ≤ 25) = true := by simp; omega
  have f54 : decide (x.a ≤ 54) = true := by simp; omega
  go_enter Tryz.func131, Tryz.ntmps131
  go_wp2_with fail
  go_ret2
  exact ⟨rfl, hw⟩
set_option maxRecDepth 100000 in
theorem still_r1 (x : InsT) (w : World) (h3 : (x.op == 11) = true) (h3' : (x.op != 11) = false) (h2 : (x.op == 30) = false) (h1 : ¬ x.op ≤ 10) (hb1 : 0 ≤ x.b) (hb2 : x.b ≤ 9) (hl : 1 ≤ x.a) (hh : x.a ≤ 3) :
    Calls Tryz.prog 131 #[.agg #[Value.int .i64 x.op, .int .i64 x.a, .int .i64 x.b, .int .i64 x.line, .string x.text]] w fun e w' => e = .returned (.tuple #[.int .i64 (1 - x.b), .bool (sureB x.a)]) ∧ Below w.heap.size w w' := by
  have hw : Below w.heap.size w (w.alloc (.cells #[Value.int .i64 x.op, .int .i64 x.a, .int .i64 x.b, .int .i64 x.line, .string x.text] 79)) := (Below.refl _ _).alloc (Nat.le_refl _) _
  have hs : sureB x.a = true := by simp [sureB]; omega
  rw [hs]
  clear hs
  have e6 : (x.a == 6) = false := by simp; omega
  have e10 : (x.a == 10) = false := by simp; omega
  have e73 : (x.a == 73) = false := by simp; omega
  have e74 : (x.a == 74) = false := by simp; omega
  have e79 : (x.a == 79) = false := by simp; omega
  have f1 : decide (1 ≤ x.a) = true := by simp; omega
  have f20 : decide (20 ≤ x.a) = false := by simp; omega
  have f50 : decide (50 ≤ x.a) = false := by simp; omega
  have f3 : decide (x.a ≤ 3) = true := by simp; omega
  have f25 : decide (x.a ≤ 25) = true := by simp; omega
  have f54 : decide (x.a ≤ 54) = true := by simp; omega
  go_enter Tryz.func131, Tryz.ntmps131
  go_wp2_with fail
  go_ret2
  exact ⟨rfl, hw⟩
set_option maxRecDepth 100000 in
theorem still_r2 (x : InsT) (w : World) (h3 : (x.op == 11) = true) (h3' : (x.op != 11) = false) (h2 : (x.op == 30) = false) (h1 : ¬ x.op ≤ 10) (hb1 : 0 ≤ x.b) (hb2 : x.b ≤ 9) (hl : 4 ≤ x.a) (hh : x.a ≤ 5) :
    Calls Tryz.prog 131 #[.agg #[Value.int .i64 x.op, .int .i64 x.a, .int .i64 x.b, .int .i64 x.line, .string x.text]] w fun e w' => e = .returned (.tuple #[.int .i64 (1 - x.b), .bool (sureB x.a)]) ∧ Below w.heap.size w w' := by
  have hw : Below w.heap.size w (w.alloc (.cells #[Value.int .i64 x.op, .int .i64 x.a, .int .i64 x.b, .int .i64 x.line, .string x.text] 79)) := (Below.refl _ _).alloc (Nat.le_refl _) _
  have hs : sureB x.a = false := by simp [sureB]; omega
  rw [hs]
  clear hs
  have e6 : (x.a == 6) = false := by simp; omega
  have e10 : (x.a == 10) = false := by simp; omega
  have e73 : (x.a == 73) = false := by simp; omega
  have e74 : (x.a == 74) = false := by simp; omega
  have e79 : (x.a == 79) = false := by simp; omega
  have f1 : decide (1 ≤ x.a) = true := by simp; omega
  have f20 : decide (20 ≤ x.a) = false := by simp; omega
  have f50 : decide (50 ≤ x.a) = false := by simp; omega
  have f3 : decide (x.a ≤ 3) = false := by simp; omega
  have f25 : decide (x.a ≤ 25) = true := by simp; omega
  have f54 : decide (x.a ≤ 54) = true := by simp; omega
  go_enter Tryz.func131, Tryz.ntmps131
  go_wp2_with fail
  go_ret2
  exact ⟨rfl, hw⟩
set_option maxRecDepth 100000 in
theorem still_r3 (x : InsT) (w : World) (h3 : (x.op == 11) = true) (h3' : (x.op != 11) = false) (h2 : (x.op == 30) = false) (h1 : ¬ x.op ≤ 10) (hb1 : 0 ≤ x.b) (hb2 : x.b ≤ 9) (hl : 6 ≤ x.a) (hh : x.a ≤ 6) :
    Calls Tryz.prog 131 #[.agg #[Value.int .i64 x.op, .int .i64 x.a, .int .i64 x.b, .int .i64 x.line, .string x.text]] w fun e w' => e = .returned (.tuple #[.int .i64 (1 - x.b), .bool (sureB x.a)]) ∧ Below w.heap.size w w' := by
  have hw : Below w.heap.size w (w.alloc (.cells #[Value.int .i64 x.op, .int .i64 x.a, .int .i64 x.b, .int .i64 x.line, .string x.text] 79)) := (Below.refl _ _).alloc (Nat.le_refl _) _
  have hs : sureB x.a = true := by simp [sureB]; omega
  rw [hs]
  clear hs
  have e6 : (x.a == 6) = true := by simp; omega
  have e10 : (x.a == 10) = false := by simp; omega
  have e73 : (x.a == 73) = false := by simp; omega
  have e74 : (x.a == 74) = false := by simp; omega
  have e79 : (x.a == 79) = false := by simp; omega
  have f1 : decide (1 ≤ x.a) = true := by simp; omega
  have f20 : decide (20 ≤ x.a) = false := by simp; omega
  have f50 : decide (50 ≤ x.a) = false := by simp; omega
  have f3 : decide (x.a ≤ 3) = false := by simp; omega
  have f25 : decide (x.a ≤ 25) = true := by simp; omega
  have f54 : decide (x.a ≤ 54) = true := by simp; omega
  go_enter Tryz.func131, Tryz.ntmps131
  go_wp2_with fail
  go_ret2
  exact ⟨rfl, hw⟩
set_option maxRecDepth 100000 in
theorem still_r4 (x : InsT) (w : World) (h3 : (x.op == 11) = true) (h3' : (x.op != 11) = false) (h2 : (x.op == 30) = false) (h1 : ¬ x.op ≤ 10) (hb1 : 0 ≤ x.b) (hb2 : x.b ≤ 9) (hl : 7 ≤ x.a) (hh : x.a ≤ 9) :
    Calls Tryz.prog 131 #[.agg #[Value.int .i64 x.op, .int .i64 x.a, .int .i64 x.b, .int .i64 x.line, .string x.text]] w fun e w' => e = .returned (.tuple #[.int .i64 (1 - x.b), .bool (sureB x.a)]) ∧ Below w.heap.size w w' := by
  have hw : Below w.heap.size w (w.alloc (.cells #[Value.int .i64 x.op, .int .i64 x.a, .int .i64 x.b, .int .i64 x.line, .string x.text] 79)) := (Below.refl _ _).alloc (Nat.le_refl _) _
  have hs : sureB x.a = false := by simp [sureB]; omega
  rw [hs]
  clear hs
  have e6 : (x.a == 6) = false := by simp; omega
  have e10 : (x.a == 10) = false := by simp; omega
  have e73 : (x.a == 73) = false := by simp; omega
  have e74 : (x.a == 74) = false := by simp; omega
  have e79 : (x.a == 79) = false := by simp; omega
  have f1 : decide (1 ≤ x.a) = true := by simp; omega
  have f20 : decide (20 ≤ x.a) = false := by simp; omega
  have f50 : decide (50 ≤ x.a) = false := by simp; omega
  have f3 : decide (x.a ≤ 3) = false := by simp; omega
  have f25 : decide (x.a ≤ 25) = true := by simp; omega
  have f54 : decide (x.a ≤ 54) = true := by simp; omega
  go_enter Tryz.func131, Tryz.ntmps131
  go_wp2_with fail
  go_ret2
  exact ⟨rfl, hw⟩
set_option maxRecDepth 100000 in
theorem still_r5 (x : InsT) (w : World) (h3 : (x.op == 11) = true) (h3' : (x.op != 11) = false) (h2 : (x.op == 30) = false) (h1 : ¬ x.op ≤ 10) (hb1 : 0 ≤ x.b) (hb2 : x.b ≤ 9) (hl : 10 ≤ x.a) (hh : x.a ≤ 10) :
    Calls Tryz.prog 131 #[.agg #[Value.int .i64 x.op, .int .i64 x.a, .int .i64 x.b, .int .i64 x.line, .string x.text]] w fun e w' => e = .returned (.tuple #[.int .i64 (1 - x.b), .bool (sureB x.a)]) ∧ Below w.heap.size w w' := by
  have hw : Below w.heap.size w (w.alloc (.cells #[Value.int .i64 x.op, .int .i64 x.a, .int .i64 x.b, .int .i64 x.line, .string x.text] 79)) := (Below.refl _ _).alloc (Nat.le_refl _) _
  have hs : sureB x.a = true := by simp [sureB]; omega
  rw [hs]
  clear hs
  have e6 : (x.a == 6) = false := by simp; omega
  have e10 : (x.a == 10) = true := by simp; omega
  have e73 : (x.a == 73) = false := by simp; omega
  have e74 : (x.a == 74) = false := by simp; omega
  have e79 : (x.a == 79) = false := by simp; omega
  have f1 : decide (1 ≤ x.a) = true := by simp; omega
  have f20 : decide (20 ≤ x.a) = false := by simp; omega
  have f50 : decide (50 ≤ x.a) = false := by simp; omega
  have f3 : decide (x.a ≤ 3) = false := by simp; omega
  have f25 : decide (x.a ≤ 25) = true := by simp; omega
  have f54 : decide (x.a ≤ 54) = true := by simp; omega
  go_enter Tryz.func131, Tryz.ntmps131
  go_wp2_with fail
  go_ret2
  exact ⟨rfl, hw⟩
set_option maxRecDepth 100000 in
theorem still_r6 (x : InsT) (w : World) (h3 : (x.op == 11) = true) (h3' : (x.op != 11) = false) (h2 : (x.op == 30) = false) (h1 : ¬ x.op ≤ 10) (hb1 : 0 ≤ x.b) (hb2 : x.b ≤ 9) (hl : 11 ≤ x.a) (hh : x.a ≤ 19) :
    Calls Tryz.prog 131 #[.agg #[Value.int .i64 x.op, .int .i64 x.a, .int .i64 x.b, .int .i64 x.line, .string x.text]] w fun e w' => e = .returned (.tuple #[.int .i64 (1 - x.b), .bool (sureB x.a)]) ∧ Below w.heap.size w w' := by
  have hw : Below w.heap.size w (w.alloc (.cells #[Value.int .i64 x.op, .int .i64 x.a, .int .i64 x.b, .int .i64 x.line, .string x.text] 79)) := (Below.refl _ _).alloc (Nat.le_refl _) _
  have hs : sureB x.a = false := by simp [sureB]; omega
  rw [hs]
  clear hs
  have e6 : (x.a == 6) = false := by simp; omega
  have e10 : (x.a == 10) = false := by simp; omega
  have e73 : (x.a == 73) = false := by simp; omega
  have e74 : (x.a == 74) = false := by simp; omega
  have e79 : (x.a == 79) = false := by simp; omega
  have f1 : decide (1 ≤ x.a) = true := by simp; omega
  have f20 : decide (20 ≤ x.a) = false := by simp; omega
  have f50 : decide (50 ≤ x.a) = false := by simp; omega
  have f3 : decide (x.a ≤ 3) = false := by simp; omega
  have f25 : decide (x.a ≤ 25) = true := by simp; omega
  have f54 : decide (x.a ≤ 54) = true := by simp; omega
  go_enter Tryz.func131, Tryz.ntmps131
  go_wp2_with fail
  go_ret2
  exact ⟨rfl, hw⟩
set_option maxRecDepth 100000 in
theorem still_r7 (x : InsT) (w : World) (h3 : (x.op == 11) = true) (h3' : (x.op != 11) = false) (h2 : (x.op == 30) = false) (h1 : ¬ x.op ≤ 10) (hb1 : 0 ≤ x.b) (hb2 : x.b ≤ 9) (hl : 20 ≤ x.a) (hh : x.a ≤ 25) :
    Calls Tryz.prog 131 #[.agg #[Value.int .i64 x.op, .int .i64 x.a, .int .i64 x.b, .int .i64 x.line, .string x.text]] w fun e w' => e = .returned (.tuple #[.int .i64 (1 - x.b), .bool (sureB x.a)]) ∧ Below w.heap.size w w' := by
  have hw : Below w.heap.size w (w.alloc (.cells #[Value.int .i64 x.op, .int .i64 x.a, .int .i64 x.b, .int .i64 x.line, .string x.text] 79)) := (Below.refl _ _).alloc (Nat.le_refl _) _
  have hs : sureB x.a = true := by simp [sureB]; omega
  rw [hs]
  clear hs
  have e6 : (x.a == 6) = false := by simp; omega
  have e10 : (x.a == 10) = false := by simp; omega
  have e73 : (x.a == 73) = false := by simp; omega
  have e74 : (x.a == 74) = false := by simp; omega
  have e79 : (x.a == 79) = false := by simp; omega
  have f1 : decide (1 ≤ x.a) = true := by simp; omega
  have f20 : decide (20 ≤ x.a) = true := by simp; omega
  have f50 : decide (50 ≤ x.a) = false := by simp; omega
  have f3 : decide (x.a ≤ 3) = false := by simp; omega
  have f25 : decide (x.a ≤ 25) = true := by simp; omega
  have f54 : decide (x.a ≤ 54) = true := by simp; omega
  go_enter Tryz.func131, Tryz.ntmps131
  go_wp2_with fail
  go_ret2
  exact ⟨rfl, hw⟩
set_option maxRecDepth 100000 in
theorem still_r8 (x : InsT) (w : World) (h3 : (x.op == 11) = true) (h3' : (x.op != 11) = false) (h2 : (x.op == 30) = false) (h1 : ¬ x.op ≤ 10) (hb1 : 0 ≤ x.b) (hb2 : x.b ≤ 9) (hl : 26 ≤ x.a) (hh : x.a ≤ 49) :
    Calls Tryz.prog 131 #[.agg #[Value.int .i64 x.op, .int .i64 x.a, .int .i64 x.b, .int .i64 x.line, .string x.text]] w fun e w' => e = .returned (.tuple #[.int .i64 (1 - x.b), .bool (sureB x.a)]) ∧ Below w.heap.size w w' := by
  have hw : Below w.heap.size w (w.alloc (.cells #[Value.int .i64 x.op, .int .i64 x.a, .int .i64 x.b, .int .i64 x.line, .string x.text] 79)) := (Below.refl _ _).alloc (Nat.le_refl _) _
  have hs : sureB x.a = false := by simp [sureB]; omega
  rw [hs]
  clear hs
  have e6 : (x.a == 6) = false := by simp; omega
  have e10 : (x.a == 10) = false := by simp; omega
  have e73 : (x.a == 73) = false := by simp; omega
  have e74 : (x.a == 74) = false := by simp; omega
  have e79 : (x.a == 79) = false := by simp; omega
  have f1 : decide (1 ≤ x.a) = true := by simp; omega
  have f20 : decide (20 ≤ x.a) = true := by simp; omega
  have f50 : decide (50 ≤ x.a) = false := by simp; omega
  have f3 : decide (x.a ≤ 3) = false := by simp; omega
  have f25 : decide (x.a ≤ 25) = false := by simp; omega
  have f54 : decide (x.a ≤ 54) = true := by simp; omega
  go_enter Tryz.func131, Tryz.ntmps131
  go_wp2_with fail
  go_ret2
  exact ⟨rfl, hw⟩
set_option maxRecDepth 100000 in
theorem still_r9 (x : InsT) (w : World) (h3 : (x.op == 11) = true) (h3' : (x.op != 11) = false) (h2 : (x.op == 30) = false) (h1 : ¬ x.op ≤ 10) (hb1 : 0 ≤ x.b) (hb2 : x.b ≤ 9) (hl : 50 ≤ x.a) (hh : x.a ≤ 54) :
    Calls Tryz.prog 131 #[.agg #[Value.int .i64 x.op, .int .i64 x.a, .int .i64 x.b, .int .i64 x.line, .string x.text]] w fun e w' => e = .returned (.tuple #[.int .i64 (1 - x.b), .bool (sureB x.a)]) ∧ Below w.heap.size w w' := by
  have hw : Below w.heap.size w (w.alloc (.cells #[Value.int .i64 x.op, .int .i64 x.a, .int .i64 x.b, .int .i64 x.line, .string x.text] 79)) := (Below.refl _ _).alloc (Nat.le_refl _) _
  have hs : sureB x.a = true := by simp [sureB]; omega
  rw [hs]
  clear hs
  have e6 : (x.a == 6) = false := by simp; omega
  have e10 : (x.a == 10) = false := by simp; omega
  have e73 : (x.a == 73) = false := by simp; omega
  have e74 : (x.a == 74) = false := by simp; omega
  have e79 : (x.a == 79) = false := by simp; omega
  have f1 : decide (1 ≤ x.a) = true := by simp; omega
  have f20 : decide (20 ≤ x.a) = true := by simp; omega
  have f50 : decide (50 ≤ x.a) = true := by simp; omega
  have f3 : decide (x.a ≤ 3) = false := by simp; omega
  have f25 : decide (x.a ≤ 25) = false := by simp; omega
  have f54 : decide (x.a ≤ 54) = true := by simp; omega
  go_enter Tryz.func131, Tryz.ntmps131
  go_wp2_with fail
  go_ret2
  exact ⟨rfl, hw⟩
set_option maxRecDepth 100000 in
theorem still_r10 (x : InsT) (w : World) (h3 : (x.op == 11) = true) (h3' : (x.op != 11) = false) (h2 : (x.op == 30) = false) (h1 : ¬ x.op ≤ 10) (hb1 : 0 ≤ x.b) (hb2 : x.b ≤ 9) (hl : 55 ≤ x.a) (hh : x.a ≤ 72) :
    Calls Tryz.prog 131 #[.agg #[Value.int .i64 x.op, .int .i64 x.a, .int .i64 x.b, .int .i64 x.line, .string x.text]] w fun e w' => e = .returned (.tuple #[.int .i64 (1 - x.b), .bool (sureB x.a)]) ∧ Below w.heap.size w w' := by
  have hw : Below w.heap.size w (w.alloc (.cells #[Value.int .i64 x.op, .int .i64 x.a, .int .i64 x.b, .int .i64 x.line, .string x.text] 79)) := (Below.refl _ _).alloc (Nat.le_refl _) _
  have hs : sureB x.a = false := by simp [sureB]; omega
  rw [hs]
  clear hs
  have e6 : (x.a == 6) = false := by simp; omega
  have e10 : (x.a == 10) = false := by simp; omega
  have e73 : (x.a == 73) = false := by simp; omega
  have e74 : (x.a == 74) = false := by simp; omega
  have e79 : (x.a == 79) = false := by simp; omega
  have f1 : decide (1 ≤ x.a) = true := by simp; omega
  have f20 : decide (20 ≤ x.a) = true := by simp; omega
  have f50 : decide (50 ≤ x.a) = true := by simp; omega
  have f3 : decide (x.a ≤ 3) = false := by simp; omega
  have f25 : decide (x.a ≤ 25) = false := by simp; omega
  have f54 : decide (x.a ≤ 54) = false := by simp; omega
  go_enter Tryz.func131, Tryz.ntmps131
  go_wp2_with fail
  go_ret2
  exact ⟨rfl, hw⟩
set_option maxRecDepth 100000 in
theorem still_r11 (x : InsT) (w : World) (h3 : (x.op == 11) = true) (h3' : (x.op != 11) = false) (h2 : (x.op == 30) = false) (h1 : ¬ x.op ≤ 10) (hb1 : 0 ≤ x.b) (hb2 : x.b ≤ 9) (hl : 73 ≤ x.a) (hh : x.a ≤ 73) :
    Calls Tryz.prog 131 #[.agg #[Value.int .i64 x.op, .int .i64 x.a, .int .i64 x.b, .int .i64 x.line, .string x.text]] w fun e w' => e = .returned (.tuple #[.int .i64 (1 - x.b), .bool (sureB x.a)]) ∧ Below w.heap.size w w' := by
  have hw : Below w.heap.size w (w.alloc (.cells #[Value.int .i64 x.op, .int .i64 x.a, .int .i64 x.b, .int .i64 x.line, .string x.text] 79)) := (Below.refl _ _).alloc (Nat.le_refl _) _
  have hs : sureB x.a = true := by simp [sureB]; omega
  rw [hs]
  clear hs
  have e6 : (x.a == 6) = false := by simp; omega
  have e10 : (x.a == 10) = false := by simp; omega
  have e73 : (x.a == 73) = true := by simp; omega
  have e74 : (x.a == 74) = false := by simp; omega
  have e79 : (x.a == 79) = false := by simp; omega
  have f1 : decide (1 ≤ x.a) = true := by simp; omega
  have f20 : decide (20 ≤ x.a) = true := by simp; omega
  have f50 : decide (50 ≤ x.a) = true := by simp; omega
  have f3 : decide (x.a ≤ 3) = false := by simp; omega
  have f25 : decide (x.a ≤ 25) = false := by simp; omega
  have f54 : decide (x.a ≤ 54) = false := by simp; omega
  go_enter Tryz.func131, Tryz.ntmps131
  go_wp2_with fail
  go_ret2
  exact ⟨rfl, hw⟩
set_option maxRecDepth 100000 in
theorem still_r12 (x : InsT) (w : World) (h3 : (x.op == 11) = true) (h3' : (x.op != 11) = false) (h2 : (x.op == 30) = false) (h1 : ¬ x.op ≤ 10) (hb1 : 0 ≤ x.b) (hb2 : x.b ≤ 9) (hl : 74 ≤ x.a) (hh : x.a ≤ 74) :
    Calls Tryz.prog 131 #[.agg #[Value.int .i64 x.op, .int .i64 x.a, .int .i64 x.b, .int .i64 x.line, .string x.text]] w fun e w' => e = .returned (.tuple #[.int .i64 (1 - x.b), .bool (sureB x.a)]) ∧ Below w.heap.size w w' := by
  have hw : Below w.heap.size w (w.alloc (.cells #[Value.int .i64 x.op, .int .i64 x.a, .int .i64 x.b, .int .i64 x.line, .string x.text] 79)) := (Below.refl _ _).alloc (Nat.le_refl _) _
  have hs : sureB x.a = true := by simp [sureB]; omega
  rw [hs]
  clear hs
  have e6 : (x.a == 6) = false := by simp; omega
  have e10 : (x.a == 10) = false := by simp; omega
  have e73 : (x.a == 73) = false := by simp; omega
  have e74 : (x.a == 74) = true := by simp; omega
  have e79 : (x.a == 79) = false := by simp; omega
  have f1 : decide (1 ≤ x.a) = true := by simp; omega
  have f20 : decide (20 ≤ x.a) = true := by simp; omega
  have f50 : decide (50 ≤ x.a) = true := by simp; omega
  have f3 : decide (x.a ≤ 3) = false := by simp; omega
  have f25 : decide (x.a ≤ 25) = false := by simp; omega
  have f54 : decide (x.a ≤ 54) = false := by simp; omega
  go_enter Tryz.func131, Tryz.ntmps131
  go_wp2_with fail
  go_ret2
  exact ⟨rfl, hw⟩
set_option maxRecDepth 100000 in
theorem still_r13 (x : InsT) (w : World) (h3 : (x.op == 11) = true) (h3' : (x.op != 11) = false) (h2 : (x.op == 30) = false) (h1 : ¬ x.op ≤ 10) (hb1 : 0 ≤ x.b) (hb2 : x.b ≤ 9) (hl : 75 ≤ x.a) (hh : x.a ≤ 78) :
    Calls Tryz.prog 131 #[.agg #[Value.int .i64 x.op, .int .i64 x.a, .int .i64 x.b, .int .i64 x.line, .string x.text]] w fun e w' => e = .returned (.tuple #[.int .i64 (1 - x.b), .bool (sureB x.a)]) ∧ Below w.heap.size w w' := by
  have hw : Below w.heap.size w (w.alloc (.cells #[Value.int .i64 x.op, .int .i64 x.a, .int .i64 x.b, .int .i64 x.line, .string x.text] 79)) := (Below.refl _ _).alloc (Nat.le_refl _) _
  have hs : sureB x.a = false := by simp [sureB]; omega
  rw [hs]
  clear hs
  have e6 : (x.a == 6) = false := by simp; omega
  have e10 : (x.a == 10) = false := by simp; omega
  have e73 : (x.a == 73) = false := by simp; omega
  have e74 : (x.a == 74) = false := by simp; omega
  have e79 : (x.a == 79) = false := by simp; omega
  have f1 : decide (1 ≤ x.a) = true := by simp; omega
  have f20 : decide (20 ≤ x.a) = true := by simp; omega
  have f50 : decide (50 ≤ x.a) = true := by simp; omega
  have f3 : decide (x.a ≤ 3) = false := by simp; omega
  have f25 : decide (x.a ≤ 25) = false := by simp; omega
  have f54 : decide (x.a ≤ 54) = false := by simp; omega
  go_enter Tryz.func131, Tryz.ntmps131
  go_wp2_with fail
  go_ret2
  exact ⟨rfl, hw⟩
set_option maxRecDepth 100000 in
theorem still_r14 (x : InsT) (w : World) (h3 : (x.op == 11) = true) (h3' : (x.op != 11) = false) (h2 : (x.op == 30) = false) (h1 : ¬ x.op ≤ 10) (hb1 : 0 ≤ x.b) (hb2 : x.b ≤ 9) (hl : 79 ≤ x.a) (hh : x.a ≤ 79) :
    Calls Tryz.prog 131 #[.agg #[Value.int .i64 x.op, .int .i64 x.a, .int .i64 x.b, .int .i64 x.line, .string x.text]] w fun e w' => e = .returned (.tuple #[.int .i64 (1 - x.b), .bool (sureB x.a)]) ∧ Below w.heap.size w w' := by
  have hw : Below w.heap.size w (w.alloc (.cells #[Value.int .i64 x.op, .int .i64 x.a, .int .i64 x.b, .int .i64 x.line, .string x.text] 79)) := (Below.refl _ _).alloc (Nat.le_refl _) _
  have hs : sureB x.a = true := by simp [sureB]; omega
  rw [hs]
  clear hs
  have e6 : (x.a == 6) = false := by simp; omega
  have e10 : (x.a == 10) = false := by simp; omega
  have e73 : (x.a == 73) = false := by simp; omega
  have e74 : (x.a == 74) = false := by simp; omega
  have e79 : (x.a == 79) = true := by simp; omega
  have f1 : decide (1 ≤ x.a) = true := by simp; omega
  have f20 : decide (20 ≤ x.a) = true := by simp; omega
  have f50 : decide (50 ≤ x.a) = true := by simp; omega
  have f3 : decide (x.a ≤ 3) = false := by simp; omega
  have f25 : decide (x.a ≤ 25) = false := by simp; omega
  have f54 : decide (x.a ≤ 54) = false := by simp; omega
  go_enter Tryz.func131, Tryz.ntmps131
  go_wp2_with fail
  go_ret2
  exact ⟨rfl, hw⟩
set_option maxRecDepth 100000 in
theorem still_r15 (x : InsT) (w : World) (h3 : (x.op == 11) = true) (h3' : (x.op != 11) = false) (h2 : (x.op == 30) = false) (h1 : ¬ x.op ≤ 10) (hb1 : 0 ≤ x.b) (hb2 : x.b ≤ 9) (hl : 80 ≤ x.a) :
    Calls Tryz.prog 131 #[.agg #[Value.int .i64 x.op, .int .i64 x.a, .int .i64 x.b, .int .i64 x.line, .string x.text]] w fun e w' => e = .returned (.tuple #[.int .i64 (1 - x.b), .bool (sureB x.a)]) ∧ Below w.heap.size w w' := by
  have hw : Below w.heap.size w (w.alloc (.cells #[Value.int .i64 x.op, .int .i64 x.a, .int .i64 x.b, .int .i64 x.line, .string x.text] 79)) := (Below.refl _ _).alloc (Nat.le_refl _) _
  have hs : sureB x.a = false := by simp [sureB]; omega
  rw [hs]
  clear hs
  have e6 : (x.a == 6) = false := by simp; omega
  have e10 : (x.a == 10) = false := by simp; omega
  have e73 : (x.a == 73) = false := by simp; omega
  have e74 : (x.a == 74) = false := by simp; omega
  have e79 : (x.a == 79) = false := by simp; omega
  have f1 : decide (1 ≤ x.a) = true := by simp; omega
  have f20 : decide (20 ≤ x.a) = true := by simp; omega
  have f50 : decide (50 ≤ x.a) = true := by simp; omega
  have f3 : decide (x.a ≤ 3) = false := by simp; omega
  have f25 : decide (x.a ≤ 25) = false := by simp; omega
  have f54 : decide (x.a ≤ 54) = false := by simp; omega
  go_enter Tryz.func131, Tryz.ntmps131
  go_wp2_with fail
  go_ret2
  exact ⟨rfl, hw⟩
theorem still_at11 (x : InsT) (w : World) (h : x.op = 11) (hb1 : 0 ≤ x.b) (hb2 : x.b ≤ 9) :
    Calls Tryz.prog 131 #[.agg #[Value.int .i64 x.op, .int .i64 x.a, .int .i64 x.b, .int .i64 x.line, .string x.text]] w fun e w' => e = .returned (.tuple #[.int .i64 (1 - x.b), .bool (sureB x.a)]) ∧ Below w.heap.size w w' := by
  have h1 : ¬ x.op ≤ 10 := by omega
  have h2 : (x.op == 30) = false := by simp; omega
  have h3 : (x.op == 11) = true := by simp; omega
  have h3' : (x.op != 11) = false := by simp; omega
  by_cases g0 : x.a ≤ 0
  · exact still_r0 x w h3 h3' h2 h1 hb1 hb2 g0
  by_cases g1 : x.a ≤ 3
  · exact still_r1 x w h3 h3' h2 h1 hb1 hb2 (by omega) g1
  by_cases g2 : x.a ≤ 5
  · exact still_r2 x w h3 h3' h2 h1 hb1 hb2 (by omega) g2
  by_cases g3 : x.a ≤ 6
  · exact still_r3 x w h3 h3' h2 h1 hb1 hb2 (by omega) g3
  by_cases g4 : x.a ≤ 9
  · exact still_r4 x w h3 h3' h2 h1 hb1 hb2 (by omega) g4
  by_cases g5 : x.a ≤ 10
  · exact still_r5 x w h3 h3' h2 h1 hb1 hb2 (by omega) g5
  by_cases g6 : x.a ≤ 19
  · exact still_r6 x w h3 h3' h2 h1 hb1 hb2 (by omega) g6
  by_cases g7 : x.a ≤ 25
  · exact still_r7 x w h3 h3' h2 h1 hb1 hb2 (by omega) g7
  by_cases g8 : x.a ≤ 49
  · exact still_r8 x w h3 h3' h2 h1 hb1 hb2 (by omega) g8
  by_cases g9 : x.a ≤ 54
  · exact still_r9 x w h3 h3' h2 h1 hb1 hb2 (by omega) g9
  by_cases g10 : x.a ≤ 72
  · exact still_r10 x w h3 h3' h2 h1 hb1 hb2 (by omega) g10
  by_cases g11 : x.a ≤ 73
  · exact still_r11 x w h3 h3' h2 h1 hb1 hb2 (by omega) g11
  by_cases g12 : x.a ≤ 74
  · exact still_r12 x w h3 h3' h2 h1 hb1 hb2 (by omega) g12
  by_cases g13 : x.a ≤ 78
  · exact still_r13 x w h3 h3' h2 h1 hb1 hb2 (by omega) g13
  by_cases g14 : x.a ≤ 79
  · exact still_r14 x w h3 h3' h2 h1 hb1 hb2 (by omega) g14
  exact still_r15 x w h3 h3' h2 h1 hb1 hb2 (by omega)
set_option maxRecDepth 100000 in
theorem spec_l35Still (x : InsT) (w : World) (hb : x.op = 11 → 0 ≤ x.b ∧ x.b ≤ 9) :
    Calls Tryz.prog 131 #[.agg #[Value.int .i64 x.op, .int .i64 x.a, .int .i64 x.b, .int .i64 x.line, .string x.text]] w fun e w' => e = .returned (.tuple #[.int .i64 (stD x), .bool (stB x)]) ∧ Below w.heap.size w w' := by
  have hw : Below w.heap.size w (w.alloc (.cells #[Value.int .i64 x.op, .int .i64 x.a, .int .i64 x.b, .int .i64 x.line, .string x.text] 79)) := (Below.refl _ _).alloc (Nat.le_refl _) _
  have H : ∀ d b, stD x = d → stB x = b → (Ending.returned (.tuple #[.int .i64 d, .bool b]) = .returned (.tuple #[.int .i64 (stD x), .bool (stB x)])) := by rintro d b rfl rfl; rfl
  by_cases h1 : 1 ≤ x.op ∧ x.op ≤ 10
  · obtain ⟨h1a, h1b⟩ := h1
    go_enter Tryz.func131, Tryz.ntmps131
    go_wp2_with fail
    go_ret2
    exact ⟨H _ _ (by unfold stD; rw [if_pos ⟨h1a, h1b⟩]) (by unfold stB; rw [if_pos ⟨h1a, h1b⟩]), hw⟩
  by_cases h2 : x.op = 30
  · have H2 := Lib.hid h1
    clear h1
    go_enter Tryz.func131, Tryz.ntmps131
    go_wp2_with fail
    go_ret2
    exact ⟨H _ _ (by unfold stD; rw [if_neg H2.out, if_pos h2]) (by unfold stB; rw [if_neg H2.out, if_pos h2]), by rw [h2] at hw; exact hw⟩
  by_cases h3 : x.op = 11
  · obtain ⟨hb1, hb2⟩ := hb h3
    refine (still_at11 x w h3 hb1 hb2).mono ?_; rintro e w1 ⟨rfl, hb⟩
    exact ⟨H _ _ (by unfold stD; rw [if_neg h1, if_neg h2, if_pos h3]) (by unfold stB; rw [if_neg h1, if_neg h2, if_pos h3]), hb⟩
  · have H2 := Lib.hid h1
    by_cases h4 : x.op < 1
    · clear h1
      go_enter Tryz.func131, Tryz.ntmps131
      go_wp2_with fail
      go_ret2
      exact ⟨H _ _ (by unfold stD; rw [if_neg H2.out, if_neg h2, if_neg h3]) (by unfold stB; rw [if_neg H2.out, if_neg h2, if_neg h3]), hw⟩
    · have h5 : ¬ x.op ≤ 10 := by omega
      clear h1
      go_enter Tryz.func131, Tryz.ntmps131
      go_wp2_with fail
      go_ret2
      exact ⟨H _ _ (by unfold stD; rw [if_neg H2.out, if_neg h2, if_neg h3]) (by unfold stB; rw [if_neg H2.out, if_neg h2, if_neg h3]), hw⟩
end Go.Proofs.YtekobbeoaalibaaGreatDoor
end

section
namespace Go.Proofs.YtekobbeoaalibaaGreatDoor
open Go.RowKit
set_option linter.unusedVariables false

def optI (o : Option Nat) : Int := match o with | none => -1 | some e => (e : Int)
theorem close_end {c : List InsT} {p i : Nat} {n : Int} (h : closeP c p = closeT noTg (c.drop i) i n) (hi : c.length ≤ i) : closeP c p = none := by
  rw [h, List.drop_eq_nil_of_le hi]; rfl
theorem close_un {c : List InsT} {p i : Nat} {n : Int} {x : InsT} (h : closeP c p = closeT noTg (c.drop i) i n) (hx : c[i]? = some x) (h14 : x.op = 14) : closeP c p = if n = 1 then some i else none := by
  rw [h, drop_at hx]; simp [closeT, noTg, h14]
theorem close_go {c : List InsT} {p i : Nat} {n : Int} {x : InsT} (h : closeP c p = closeT noTg (c.drop i) i n) (hx : c[i]? = some x) (h14 : ¬ x.op = 14) : closeP c p = match stillN x n with | none => none | some m => closeT noTg (c.drop (i + 1)) (i + 1) m := by
  rw [h, drop_at hx]; simp only [closeT, show noTg i = false from rfl, Bool.false_eq_true, if_false, h14]; try (cases stillN x n <;> rfl)
theorem still_no {x : InsT} {n : Int} (h : (x.op = 11 ∧ n < x.b) ∨ (x.op = 30 ∧ n < 1)) : stillN x n = none := by
  unfold stillN
  rcases h with ⟨h1, h2⟩ | ⟨h1, h2⟩
  · rw [if_neg (by omega), if_neg (by omega), if_pos h1, if_neg (by simp [h2])]
  · rw [if_neg (by omega), if_pos h1, if_pos h2]
theorem still_bad {x : InsT} {n : Int} (h : stB x = false) : stillN x n = none := by
  unfold stB at h; unfold stillN
  split at h
  · cases h
  · split at h
    · cases h
    · rw [if_neg (by assumption), if_neg (by assumption)]
      split at h
      · rw [if_pos (by assumption), if_neg (by simp [h])]
      · rw [if_neg (by assumption)]
theorem still_go {x : InsT} {n : Int} (h : stB x = true) (h1 : ¬ (x.op = 11 ∧ n < x.b)) (h2 : ¬ (x.op = 30 ∧ n < 1)) : stillN x n = some (n + stD x) := by
  unfold stB at h; unfold stillN stD
  by_cases a1 : 1 ≤ x.op ∧ x.op ≤ 10
  · rw [if_pos a1, if_pos a1]
  · rw [if_neg a1, if_neg a1]
    rw [if_neg a1] at h
    by_cases a2 : x.op = 30
    · rw [if_pos a2, if_pos a2, if_neg (fun hn => h2 ⟨a2, hn⟩)]; rfl
    · rw [if_neg a2, if_neg a2]
      rw [if_neg a2] at h
      by_cases a3 : x.op = 11
      · rw [if_pos a3] at h
        rw [if_pos a3, if_pos a3, if_pos ⟨h, fun hn => h1 ⟨a3, hn⟩⟩]
      · rw [if_neg a3] at h; cases h
theorem stD_bd {x : InsT} {n : Int} {k : Nat} (hv : InsV k x) (h1 : ¬ (x.op = 11 ∧ n < x.b)) (h2 : ¬ (x.op = 30 ∧ n < 1)) (hn : 0 ≤ n) : 0 ≤ n + stD x ∧ n + stD x ≤ n + 1 := by
  have := hv.arg
  unfold stD
  split
  · omega
  · split
    · omega
    · split
      · omega
      · omega
set_option maxRecDepth 100000 in
set_option maxHeartbeats 1000000 in
theorem spec_l35Close (c : CodeT) (v : Value) (p : Nat) (w : World) (lo hi : Nat) (h : SRep w lo hi CodeT.dats v c) (hhi : hi ≤ w.heap.size) (hp : p < c.instrs.length) (hn : c.instrs.length ≤ 60000) (hv : ∀ x ∈ c.instrs, InsV c.instrs.length x) :
    Calls Tryz.prog 98 #[v, .int .i64 p] w fun e w' => e = .returned (.int .i64 (optI (closeP c.instrs p))) ∧ Below w.heap.size w w' := by
  obtain ⟨Aroutines, nroutines, Arecords, nrecords, Aglobals, nglobals, Ainstrs, ninstrs, rfl, -, -, -, -, -, -, -, -, -, hi1, ui, mi⟩ := CodeT.form h
  unfold maxLen at mi
  have a0 := Blk.new w 34 #[.slice Aroutines c.routines.length nroutines, .slice Arecords c.records.length nrecords, .slice Aglobals c.globals.length nglobals, .int .i64 c.main, .slice Ainstrs c.instrs.length ninstrs]
  have hwa : Below w.heap.size w (w.alloc (.cells #[.slice Aroutines c.routines.length nroutines, .slice Arecords c.records.length nrecords, .slice Aglobals c.globals.length nglobals, .int .i64 c.main, .slice Ainstrs c.instrs.length ninstrs] 34)) := (Below.refl _ _).alloc (Nat.le_refl _) _
  have HV := Lib.hid hv
  clear hv h
  go_enter Tryz.func98, Tryz.ntmps98
  go_wp2_with fail
  go_loopw [5, 6] (fun nv i wr => ∃ (k : Nat) (n : Int), k ≤ c.instrs.length ∧ i = .int .i64 k ∧ nv = .int .i64 n ∧ 0 ≤ n ∧ n ≤ k ∧ Hid (closeP c.instrs p = closeT noTg (c.instrs.drop k) k n) ∧ Below (w.alloc (.cells #[.slice Aroutines c.routines.length nroutines, .slice Arecords c.records.length nrecords, .slice Aglobals c.globals.length nglobals, .int .i64 c.main, .slice Ainstrs c.instrs.length ninstrs] 34)).heap.size (w.alloc (.cells #[.slice Aroutines c.routines.length nroutines, .slice Arecords c.records.length nrecords, .slice Aglobals c.globals.length nglobals, .int .i64 c.main, .slice Ainstrs c.instrs.length ninstrs] 34)) wr) (fun _ i _ => c.instrs.length - (intOf i).toNat)
  case atStart => exact ⟨p + 1, 0, hp, by congr 1, rfl, by omega, by omega, rfl, Below.refl _ _⟩
  case round =>
    obtain ⟨k, n, hk, rfl, rfl, hn0, hn1, hc, hb⟩ := hrel
    have hw1 : Below w.heap.size w wr := hwa.trans (hb.mono hwa.size)
    have ca := (a0.later hb).cell
    have la := (a0.later hb).lt
    by_cases hlt : k < c.instrs.length
    · obtain ⟨x, hx⟩ : ∃ x, c.instrs[k]? = some x := ⟨_, List.getElem?_eq_getElem hlt⟩
      obtain ⟨g, off, rfl, hg1, hg2, hmem, -, q0, q1, q2, q3, q4⟩ := InsT.at_ (hi1.below hw1 hhi) hx
      have hiv := HV.out x hmem
      have hb2 := hb.alloc hb.size (.cells #[Value.int .i64 x.op, .int .i64 x.a, .int .i64 x.b, .int .i64 x.line, .string x.text] 79)
      have hw2 : Below w.heap.size w (wr.alloc (.cells #[Value.int .i64 x.op, .int .i64 x.a, .int .i64 x.b, .int .i64 x.line, .string x.text] 79)) := hwa.trans (hb2.mono hwa.size)
      by_cases h14 : x.op = 14
      · have HC := Lib.hid (close_un hc.out hx h14)
        have t14 : (x.op == 14) = true := by simp; exact h14
        clear hc hx h14 hmem hiv
        by_cases h1 : n = 1
        · have t1 : (n == 1) = true := by simp; exact h1
          have H1 := Lib.hid h1
          clear h1
          go_wp2_with fail
          go_ret
          exact ⟨ret_int (by rw [HC.out, if_pos H1.out]; rfl), hw2⟩
        · have t1 : (n == 1) = false := by simp; exact h1
          go_wp2_with fail
          go_ret
          exact ⟨ret_int (by rw [HC.out, if_neg h1]; rfl), hw2⟩
      · have HC := Lib.hid (close_go hc.out hx h14)
        have t14 : (x.op == 14) = false := by simp; exact h14
        have harg := hiv.arg
        have SH := spec_l35Still x (wr.alloc (.cells #[Value.int .i64 x.op, .int .i64 x.a, .int .i64 x.b, .int .i64 x.line, .string x.text] 79)) (fun e => harg (.inl e))
        obtain ⟨d, hd⟩ : ∃ d, stD x = d := ⟨_, rfl⟩
        obtain ⟨s, hs⟩ : ∃ s, stB x = s := ⟨_, rfl⟩
        rw [hd, hs] at SH
        have HS := Lib.hid SH
        have hb3 := Blk.new wr 79 #[Value.int .i64 x.op, .int .i64 x.a, .int .i64 x.b, .int .i64 x.line, .string x.text]
        by_cases hbad : (x.op = 11 ∧ n < x.b) ∨ (x.op = 30 ∧ n < 1)
        · have HN : Hid (closeP c.instrs p = none) := by show _ = _; rw [HC.out, still_no hbad]
          clear hc hx h14 hmem HC hd hs SH hiv harg
          rcases hbad with ⟨e1, e2⟩ | ⟨e1, e2⟩
          · have t1 : (x.op == 11) = true := by simp; exact e1
            have t2 : decide (n < x.b) = true := by simp; exact e2
            clear e1 e2
            go_wp2_with fail
            refine HS.out.mono ?_; rintro e w2 ⟨rfl, hb4⟩
            have hw3 := hw2.trans (hb4.mono hw2.size)
            have b4 := hb3.later hb4
            have cb := b4.cell
            have lb := b4.lt
            clear hb4 ca la
            go_wp2_with fail
            go_ret
            exact ⟨ret_int (by rw [HN.out]; rfl), hw3⟩
          · have t1 : (x.op == 11) = false := by simp; omega
            have t2 : (x.op == 30) = true := by simp; exact e1
            have t3 : decide (n < 1) = true := by simp; exact e2
            clear e1 e2
            go_wp2_with fail
            refine HS.out.mono ?_; rintro e w2 ⟨rfl, hb4⟩
            have hw3 := hw2.trans (hb4.mono hw2.size)
            have b4 := hb3.later hb4
            have cb := b4.cell
            have lb := b4.lt
            clear hb4 ca la
            go_wp2_with fail
            go_ret
            exact ⟨ret_int (by rw [HN.out]; rfl), hw3⟩
        · obtain ⟨nb1, nb2⟩ := not_or.1 hbad
          have hbd := stD_bd hiv nb1 nb2 hn0
          rw [hd] at hbd
          obtain ⟨d0, d1⟩ := hbd
          have hdl : -10 ≤ d ∧ d ≤ 1 := by
            rw [← hd]; unfold stD; have := hiv.arg
            split
            · omega
            · split
              · omega
              · split <;> omega
          obtain ⟨d2, d3⟩ := hdl
          -- the test of region 11 is false
          have hnext : s = true → closeP c.instrs p = closeT noTg (c.instrs.drop (k + 1)) (k + 1) (n + d) := fun e => by rw [HC.out, still_go (by rw [hs, e]) nb1 nb2, hd]
          have hstop : s = false → closeP c.instrs p = none := fun e => by rw [HC.out, still_bad (by rw [hs, e])]
          have HNX := Lib.hid hnext
          have HST := Lib.hid hstop
          have key : ∀ (T : Prop), (x.op == 11) = true ∧ (x.op == 30) = false ∧ decide (n < x.b) = false ∨ (x.op == 11) = false ∧ (x.op == 30) = true ∧ decide (n < 1) = false ∨ (x.op == 11) = false ∧ (x.op == 30) = false := by
            intro _
            by_cases e1 : x.op = 11
            · exact .inl ⟨by simp; exact e1, by simp; omega, by simp; exact Int.not_lt.1 fun hh => nb1 ⟨e1, hh⟩⟩
            · by_cases e2 : x.op = 30
              · exact .inr (.inl ⟨by simp; exact e1, by simp; exact e2, by simp; exact Int.not_lt.1 fun hh => nb2 ⟨e2, hh⟩⟩)
              · exact .inr (.inr ⟨by simp; exact e1, by simp; exact e2⟩)
          have key := key True
          clear hc hx h14 hmem HC hd hs SH hiv harg hbad nb1 nb2 hnext hstop
          cases s with
          | false =>
            rcases key with ⟨t1, t3, t2⟩ | ⟨t1, t2, t3⟩ | ⟨t1, t2⟩
            all_goals
              go_wp2_with fail
              refine HS.out.mono ?_; rintro e w2 ⟨rfl, hb4⟩
              have hw3 := hw2.trans (hb4.mono hw2.size)
              have b4 := hb3.later hb4
              have cb := b4.cell
              have lb := b4.lt
              clear hb4 ca la
              go_wp2_with fail
              go_ret
              exact ⟨ret_int (by rw [HST.out (by first | rfl | trivial)]; rfl), hw3⟩
          | true =>
            rcases key with ⟨t1, t3, t2⟩ | ⟨t1, t2, t3⟩ | ⟨t1, t2⟩
            all_goals
              go_wp2_with fail
              refine HS.out.mono ?_; rintro e w2 ⟨rfl, hb4⟩
              have hb5 := hb2.trans (hb4.mono hb2.size)
              have b4 := hb3.later hb4
              have cb := b4.cell
              have lb := b4.lt
              clear hb4 ca la
              go_wp2_with fail
              go_roundw
              case rel => exact ⟨k + 1, n + d, by omega, by go_num, rfl, by omega, by omega, HNX.out (by first | rfl | trivial), hb5⟩
              case measure => simp [intOf]; omega
    · have HN := Lib.hid (close_end hc.out (by omega))
      clear hc
      go_wp2_with fail
      go_ret
      exact ⟨ret_int (by rw [HN.out]; rfl), hw1⟩
theorem inB_eq (n a b : Int) : decide (a ≤ n ∧ n ≤ b) = inB n a b := by unfold inB; rw [Bool.decide_and]
theorem any_snoc {α : Type} {q : α → Bool} {l : List α} {k : Nat} {x : α} (h : l[k]? = some x) : (l.take (k + 1)).any q = ((l.take k).any q || q x) := by rw [take_snoc_of h]; simp
theorem any_yes {α : Type} {q : α → Bool} {l : List α} {x : α} (h : x ∈ l) (hq : q x = true) : l.any q = true := List.any_eq_true.2 ⟨x, h, hq⟩
set_option maxRecDepth 100000 in
set_option maxHeartbeats 1000000 in
theorem spec_l35Entered (c : CodeT) (v : Value) (a b : Int) (w : World) (lo hi : Nat) (h : SRep w lo hi CodeT.dats v c) (hhi : hi ≤ w.heap.size) :
    Calls Tryz.prog 99 #[v, .int .i64 a, .int .i64 b] w fun e w' => e = .returned (.bool (enterB c a b)) ∧ Below w.heap.size w w' := by
  obtain ⟨Aroutines, nroutines, Arecords, nrecords, Aglobals, nglobals, Ainstrs, ninstrs, rfl, hr, ur, mr, -, -, -, -, -, -, hi1, ui, mi⟩ := CodeT.form h
  unfold maxLen at mi mr
  have a0 := Blk.new w 34 #[.slice Aroutines c.routines.length nroutines, .slice Arecords c.records.length nrecords, .slice Aglobals c.globals.length nglobals, .int .i64 c.main, .slice Ainstrs c.instrs.length ninstrs]
  have hwa : Below w.heap.size w (w.alloc (.cells #[Value.slice Aroutines c.routines.length nroutines, .slice Arecords c.records.length nrecords, .slice Aglobals c.globals.length nglobals, .int .i64 c.main, .slice Ainstrs c.instrs.length ninstrs] 34)) := (Below.refl _ _).alloc (Nat.le_refl _) _
  have HE : Hid (enterB c a b = (c.routines.any (fun r => decide (a ≤ r.entry ∧ r.entry ≤ b)) || c.instrs.any (fun x => jumpB x.op && decide (a ≤ x.a ∧ x.a ≤ b)))) := rfl
  clear h
  go_enter Tryz.func99, Tryz.ntmps99
  go_wp2_with fail
  go_loopw [7] (fun i wr => ∃ k : Nat, k ≤ c.routines.length ∧ i = .int .i64 k ∧ Hid ((c.routines.take k).any (fun r => decide (a ≤ r.entry ∧ r.entry ≤ b)) = false) ∧ Below w.heap.size w wr ∧ Blk wr w.heap.size 34 #[Value.slice Aroutines c.routines.length nroutines, .slice Arecords c.records.length nrecords, .slice Aglobals c.globals.length nglobals, .int .i64 c.main, .slice Ainstrs c.instrs.length ninstrs]) (fun i _ => c.routines.length - (intOf i).toNat)
  case atStart => exact ⟨0, Nat.zero_le _, rfl, rfl, hwa, a0⟩
  case round =>
    clear hwa a0
    obtain ⟨k, hk, rfl, hgo, hwa, a0⟩ := hrel
    have ca := a0.cell
    have la := a0.lt
    by_cases hlt : k < c.routines.length
    · obtain ⟨x, hx⟩ : ∃ x, c.routines[k]? = some x := ⟨_, List.getElem?_eq_getElem hlt⟩
      obtain ⟨g, off, rfl, hg1, hg2, hmem, -, q0, q1, q2, q3⟩ := CRoT.at_ (hr.below hwa hhi) hx
      have HS := Lib.hid (any_snoc (q := fun r : CRoT => decide (a ≤ r.entry ∧ r.entry ≤ b)) hx)
      have HY : Hid (inB x.entry a b = true → enterB c a b = true) := fun e => by rw [HE.out, any_yes hmem (by show decide _ = true; rw [inB_eq]; exact e)]; rfl
      have HN : Hid (inB x.entry a b = false → (c.routines.take (k + 1)).any (fun r => decide (a ≤ r.entry ∧ r.entry ≤ b)) = false) := fun e => by rw [HS.out, hgo.out, inB_eq]; exact e
      obtain ⟨s, hs⟩ : ∃ s, inB x.entry a b = s := ⟨_, rfl⟩
      have HX := Lib.hid hs
      clear hs hx hmem hgo
      go_wp2_with fail
      refine (spec_l1In x.entry a b _).mono ?_; rw [HX.out]; rintro e w3 ⟨rfl, rfl⟩
      cases s with
      | true =>
        go_wp2_with fail
        go_ret
        exact ⟨ret_bool (HY.out HX.out).symm, hwa⟩
      | false =>
        go_wp2_with fail
        go_roundw
        case rel => exact ⟨k + 1, by omega, by go_num, HN.out HX.out, hwa, a0⟩
        case measure => simp [intOf]; omega
    · obtain rfl : k = c.routines.length := by omega
      rw [List.take_length] at hgo
      go_wp2_with fail
      go_loopw [8] (fun i wr => ∃ k : Nat, k ≤ c.instrs.length ∧ i = .int .i64 k ∧ Hid ((c.instrs.take k).any (fun x => jumpB x.op && decide (a ≤ x.a ∧ x.a ≤ b)) = false) ∧ Below w.heap.size w wr ∧ Blk wr w.heap.size 34 #[Value.slice Aroutines c.routines.length nroutines, .slice Arecords c.records.length nrecords, .slice Aglobals c.globals.length nglobals, .int .i64 c.main, .slice Ainstrs c.instrs.length ninstrs]) (fun i _ => c.instrs.length - (intOf i).toNat)
      case atStart => exact ⟨0, Nat.zero_le _, rfl, rfl, hwa, a0⟩
      case round =>
        clear hwa a0 ca la
        obtain ⟨k, hk, rfl, hgi, hwa, a0⟩ := hrel
        have ca := a0.cell
        have la := a0.lt
        by_cases hlt : k < c.instrs.length
        · obtain ⟨x, hx⟩ : ∃ x, c.instrs[k]? = some x := ⟨_, List.getElem?_eq_getElem hlt⟩
          obtain ⟨g, off, rfl, hg1, hg2, hmem, -, q0, q1, q2, q3, q4⟩ := InsT.at_ (hi1.below hwa hhi) hx
          have HS := Lib.hid (any_snoc (q := fun x : InsT => jumpB x.op && decide (a ≤ x.a ∧ x.a ≤ b)) hx)
          have HY : Hid (jumpB x.op = true → inB x.a a b = true → enterB c a b = true) := fun e1 e2 => by rw [HE.out, any_yes (l := c.instrs) hmem (by show (_ && decide _) = true; rw [inB_eq, e1, e2]; rfl), Bool.or_true]
          have HN : Hid ((jumpB x.op && inB x.a a b) = false → (c.instrs.take (k + 1)).any (fun x => jumpB x.op && decide (a ≤ x.a ∧ x.a ≤ b)) = false) := fun e => by rw [HS.out, hgi.out, inB_eq]; exact e
          obtain ⟨s, hs⟩ : ∃ s, inB x.a a b = s := ⟨_, rfl⟩
          obtain ⟨r, hrj⟩ : ∃ r, jumpB x.op = r := ⟨_, rfl⟩
          have HX := Lib.hid hs
          have HJ := Lib.hid hrj
          clear hs hx hmem hgi hrj
          go_wp2_with fail
          refine (spec_l28Jumps x.op _).mono ?_; rw [HJ.out]; rintro e w3 ⟨rfl, rfl⟩
          cases r with
          | false =>
            go_wp2_with fail
            go_roundw
            case rel => exact ⟨k + 1, by omega, by go_num, HN.out (by rw [HJ.out]; rfl), hwa, a0⟩
            case measure => simp [intOf]; omega
          | true =>
            go_wp2_with fail
            refine (spec_l1In x.a a b _).mono ?_; rw [HX.out]; rintro e w3 ⟨rfl, rfl⟩
            cases s with
            | true =>
              go_wp2_with fail
              go_ret
              exact ⟨ret_bool (HY.out HJ.out HX.out).symm, hwa⟩
            | false =>
              go_wp2_with fail
              go_roundw
              case rel => exact ⟨k + 1, by omega, by go_num, HN.out (by rw [HJ.out, HX.out]; rfl), hwa, a0⟩
              case measure => simp [intOf]; omega
        · obtain rfl : k = c.instrs.length := by omega
          rw [List.take_length] at hgi
          go_wp2_with fail
          go_ret
          exact ⟨ret_bool (by rw [HE.out, hgo.out, hgi.out]; rfl), hwa⟩
end Go.Proofs.YtekobbeoaalibaaGreatDoor
end

section
namespace Go.Proofs.YtekobbeoaalibaaGreatDoor
open Go.RowKit
set_option linter.unusedVariables false

theorem size0 (t : ByteArray) : (t.size = 0) = (t.toList = []) := by
  rw [ByteArray.toList_eq]
  exact propext ⟨fun h => List.eq_nil_of_length_eq_zero (by have : t.data.size = 0 := h; rw [Array.length_toList]; exact this), fun h => by have := congrArg List.length h; rw [Array.length_toList] at this; exact this⟩
set_option maxRecDepth 100000 in
set_option maxHeartbeats 1000000 in
theorem check_dead (c : CodeT) (sh : List ByteArray) (v u : Value) (x : InsT) (p : Nat) (w : World) (lo hi lo' hi' : Nat) (h : SRep w lo hi CodeT.dats v c) (hhi : hi ≤ w.heap.size) (hs : LRep w lo' hi' 1 strDats u sh) (hhi' : hi' ≤ w.heap.size) (hsl : sh.length = c.instrs.length) (hcv : CodeV c) (hx : c.instrs[p]? = some x) :
    Calls Tryz.prog 57 #[v, u, .agg #[Value.int .i64 3, .int .i64 p]] w fun e w' => e = .returned (.bool (deadB sh x p)) ∧ Below w.heap.size w w' := by
  obtain ⟨Aroutines, nroutines, Arecords, nrecords, Aglobals, nglobals, Ainstrs, ninstrs, rfl, -, -, -, -, -, -, -, -, -, hi1, ui, mi⟩ := CodeT.form h
  unfold maxLen at mi
  have hpl : p < c.instrs.length := (List.getElem?_eq_some_iff.1 hx).1
  have hn2 := hcv.n2
  obtain ⟨g, off, rfl, hg1, hg2, hmem, -, q0, q1, q2, q3, q4⟩ := InsT.at_ hi1 hx
  have HIN : Hid (inB (p : Int) 0 ((c.instrs.length : Int) - 1) = true) := by show _ = _; unfold inB; simp; omega
  obtain ⟨s, hsx⟩ : ∃ s, sh[p]? = some s := ⟨_, List.getElem?_eq_getElem (by omega)⟩
  obtain ⟨Au, capu, rfl, hu1, hu2⟩ := hs.shape
  obtain ⟨gs, offs, rfl, gs1, gs2, qs⟩ := hs.text hsx
  unfold maxLen at hu2
  have HD : Hid (deadB sh x p = (decide (s.size = 0) && !failB x)) := by show _ = _; unfold deadB; rw [List.getD, hsx]; rfl
  have hwa : Below w.heap.size w ((w.alloc (.cells #[Value.slice Aroutines c.routines.length nroutines, .slice Arecords c.records.length nrecords, .slice Aglobals c.globals.length nglobals, .int .i64 c.main, .slice (some ⟨g, off, none⟩) c.instrs.length ninstrs] 34)).alloc (.cells #[Value.int .i64 3, .int .i64 p] 46)) := ((Below.refl _ _).alloc (Nat.le_refl _) _).alloc (by simp) _
  have hwb := hwa.alloc hwa.size (.cells #[Value.int .i64 x.op, .int .i64 x.a, .int .i64 x.b, .int .i64 x.line, .string x.text] 79)
  rw [hsl] at hu1
  have hpl' : p < sh.length := by omega
  have hgl : g < w.heap.size := Nat.lt_of_lt_of_le hg2 hhi
  have hgs : gs < w.heap.size := Nat.lt_of_lt_of_le gs2 hhi'
  have qs3 := (hwb.cell (p := ⟨gs, offs + p, none⟩) hgs).trans qs
  clear h hcv hx hsx hi1 hs hmem qs
  go_enter Tryz.func57, Tryz.ntmps57
  go_wp2_with fail
  refine (spec_l1In (p : Int) 0 ((c.instrs.length : Int) - 1) _).mono ?_; rw [HIN.out]; rintro e w3 ⟨rfl, rfl⟩
  go_wp2_with fail
  all_goals
    go_ret
    refine ⟨ret_bool ?_, (((Below.refl _ _).alloc (Nat.le_refl _) _).alloc (by simp) _).alloc (by simp; omega) _⟩
    rw [HD.out]
    clear hwa hwb qs3 HIN q0 q1 q2 q3 q4 HD
    unfold failB
    simp only [size0]
    simp_all
set_option maxRecDepth 100000 in
set_option maxHeartbeats 1000000 in
theorem check_thread (c : CodeT) (sh : List ByteArray) (v u : Value) (x : InsT) (p : Nat) (w : World) (lo hi lo' hi' : Nat) (h : SRep w lo hi CodeT.dats v c) (hhi : hi ≤ w.heap.size) (hs : LRep w lo' hi' 1 strDats u sh) (hhi' : hi' ≤ w.heap.size) (hsl : sh.length = c.instrs.length) (hcv : CodeV c) (hx : c.instrs[p]? = some x) :
    Calls Tryz.prog 57 #[v, u, .agg #[Value.int .i64 1, .int .i64 p]] w fun e w' => e = .returned (.bool (threadB c.instrs x)) ∧ Below w.heap.size w w' := by
  obtain ⟨Aroutines, nroutines, Arecords, nrecords, Aglobals, nglobals, Ainstrs, ninstrs, rfl, -, -, -, -, -, -, -, -, -, hi1, ui, mi⟩ := CodeT.form h
  unfold maxLen at mi
  have hpl : p < c.instrs.length := (List.getElem?_eq_some_iff.1 hx).1
  have hn2 := hcv.n2
  obtain ⟨g, off, rfl, hg1, hg2, hmem, -, q0, q1, q2, q3, q4⟩ := InsT.at_ hi1 hx
  have hiv := hcv.ins x hmem
  have HIN : Hid (inB (p : Int) 0 ((c.instrs.length : Int) - 1) = true) := by show _ = _; unfold inB; simp; omega
  have hwa : Below w.heap.size w ((w.alloc (.cells #[Value.slice Aroutines c.routines.length nroutines, .slice Arecords c.records.length nrecords, .slice Aglobals c.globals.length nglobals, .int .i64 c.main, .slice (some ⟨g, off, none⟩) c.instrs.length ninstrs] 34)).alloc (.cells #[Value.int .i64 1, .int .i64 p] 46)) := ((Below.refl _ _).alloc (Nat.le_refl _) _).alloc (by simp) _
  have hwb := hwa.alloc hwa.size (.cells #[Value.int .i64 x.op, .int .i64 x.a, .int .i64 x.b, .int .i64 x.line, .string x.text] 79)
  have hgl : g < w.heap.size := Nat.lt_of_lt_of_le hg2 hhi
  have hlab := hiv.lab
  clear h hs hmem hiv
  have HT : Hid (threadB c.instrs x = (decide (x.op = 13 ∨ x.op = 15 ∨ x.op = 17) && decide (0 ≤ x.a) && gotoB c.instrs x.a)) := rfl
  by_cases hj : x.op = 13 ∨ x.op = 15 ∨ x.op = 17
  · have hjb : jumpB x.op = true := by unfold jumpB; simp; omega
    have hlab := hlab hjb
    have key : (x.op == 13) = true ∨ (x.op == 13) = false ∧ (x.op == 15) = true ∨ (x.op == 13) = false ∧ (x.op == 15) = false ∧ (x.op == 17) = true := by
      simp; omega
    have HJ : Hid (decide (x.op = 13 ∨ x.op = 15 ∨ x.op = 17) = true) := by show _ = _; simp; exact hj
    by_cases ha : 0 ≤ x.a
    · have hal : x.a < c.instrs.length := by omega
      obtain ⟨q, hq⟩ : ∃ q : Nat, x.a = q := ⟨x.a.toNat, by omega⟩
      obtain ⟨y, hy⟩ : ∃ y, c.instrs[q]? = some y := ⟨_, List.getElem?_eq_getElem (by omega)⟩
      obtain ⟨g', off', hA, -, -, -, -, y0, -, -, -, -⟩ := InsT.at_ hi1 hy
      injection hA with hA
      injection hA with hA1 hA2
      subst hA1 hA2
      have y0' := (hwb.cell (p := ⟨g, off + q * 5, none⟩) hgl).trans y0
      have HG : Hid (gotoB c.instrs x.a = (y.op == 15)) := by show _ = _; unfold gotoB; rw [hq, Int.toNat_natCast, hy]; rw [Bool.eq_iff_iff]; simp
      have HQ := Lib.hid hq
      have hqn : q < c.instrs.length := by omega
      have ha' : decide (0 ≤ x.a) = true := by simp; exact ha
      have HA := Lib.hid ha'
      rw [hq] at q1 hwb y0' ha'
      obtain ⟨r, hr⟩ : ∃ r, (y.op == 15) = r := ⟨_, rfl⟩
      have HR := Lib.hid hr
      clear hj hjb hlab hx hi1 hy hq ha hal y0 hcv
      rcases key with t1 | ⟨t1, t2⟩ | ⟨t1, t2, t3⟩
      all_goals
        go_enter Tryz.func57, Tryz.ntmps57
        go_wp2_with fail
        refine (spec_l1In (p : Int) 0 ((c.instrs.length : Int) - 1) _).mono ?_; rw [HIN.out]; rintro e w3 ⟨rfl, rfl⟩
        go_wp2_with fail
        go_ret
        exact ⟨ret_bool (by rw [HT.out, HJ.out, HA.out, HG.out, HR.out]; cases r <;> rfl), hwb⟩
    · have ha' : decide (0 ≤ x.a) = false := by simp; omega
      have HA := Lib.hid ha'
      clear hj hjb hlab hx hi1 ha hcv
      rcases key with t1 | ⟨t1, t2⟩ | ⟨t1, t2, t3⟩
      all_goals
        go_enter Tryz.func57, Tryz.ntmps57
        go_wp2_with fail
        refine (spec_l1In (p : Int) 0 ((c.instrs.length : Int) - 1) _).mono ?_; rw [HIN.out]; rintro e w3 ⟨rfl, rfl⟩
        go_wp2_with fail
        go_ret
        exact ⟨ret_bool (by rw [HT.out, HJ.out, HA.out]; rfl), hwb⟩
  · have HJ : Hid (decide (x.op = 13 ∨ x.op = 15 ∨ x.op = 17) = false) := by show _ = _; simp; omega
    have t1 : (x.op == 13) = false := by simp; omega
    have t2 : (x.op == 15) = false := by simp; omega
    have t3 : (x.op == 17) = false := by simp; omega
    clear hj hlab hx hi1 hcv
    go_enter Tryz.func57, Tryz.ntmps57
    go_wp2_with fail
    refine (spec_l1In (p : Int) 0 ((c.instrs.length : Int) - 1) _).mono ?_; rw [HIN.out]; rintro e w3 ⟨rfl, rfl⟩
    go_wp2_with fail
    go_ret
    exact ⟨ret_bool (by rw [HT.out, HJ.out]; rfl), hwb⟩
set_option maxRecDepth 100000 in
set_option maxHeartbeats 1000000 in
theorem check_unmark (c : CodeT) (sh : List ByteArray) (v u : Value) (x : InsT) (p : Nat) (w : World) (lo hi lo' hi' : Nat) (h : SRep w lo hi CodeT.dats v c) (hhi : hi ≤ w.heap.size) (hs : LRep w lo' hi' 1 strDats u sh) (hhi' : hi' ≤ w.heap.size) (hsl : sh.length = c.instrs.length) (hcv : CodeV c) (hx : c.instrs[p]? = some x) :
    Calls Tryz.prog 57 #[v, u, .agg #[Value.int .i64 2, .int .i64 p]] w fun e w' => e = .returned (.bool (unmarkB c x p)) ∧ Below w.heap.size w w' := by
  obtain ⟨Aroutines, nroutines, Arecords, nrecords, Aglobals, nglobals, Ainstrs, ninstrs, rfl, -, -, -, -, -, -, -, -, -, hi1, ui, mi⟩ := CodeT.form h
  unfold maxLen at mi
  have hpl : p < c.instrs.length := (List.getElem?_eq_some_iff.1 hx).1
  have hn2 := hcv.n2
  obtain ⟨g, off, rfl, hg1, hg2, hmem, -, q0, q1, q2, q3, q4⟩ := InsT.at_ hi1 hx
  have hiv := hcv.ins x hmem
  have HIN : Hid (inB (p : Int) 0 ((c.instrs.length : Int) - 1) = true) := by show _ = _; unfold inB; simp; omega
  have hwa : Below w.heap.size w ((w.alloc (.cells #[Value.slice Aroutines c.routines.length nroutines, .slice Arecords c.records.length nrecords, .slice Aglobals c.globals.length nglobals, .int .i64 c.main, .slice (some ⟨g, off, none⟩) c.instrs.length ninstrs] 34)).alloc (.cells #[Value.int .i64 2, .int .i64 p] 46)) := ((Below.refl _ _).alloc (Nat.le_refl _) _).alloc (by simp) _
  have hwb := hwa.alloc hwa.size (.cells #[Value.int .i64 x.op, .int .i64 x.a, .int .i64 x.b, .int .i64 x.line, .string x.text] 79)
  have hgl : g < w.heap.size := Nat.lt_of_lt_of_le hg2 hhi
  have HT : Hid (unmarkB c x p = (decide (x.op = 13) && (match closeP c.instrs p with | none => false | some e => !enterB c ((p : Int) + 1) e))) := rfl
  by_cases h13 : x.op = 13
  · have t1 : (x.op != 13) = false := by simp; exact h13
    have HJ : Hid (decide (x.op = 13) = true) := by show _ = _; simp; exact h13
    have hsc : SRep w lo hi CodeT.dats (.agg #[Value.slice Aroutines c.routines.length nroutines, .slice Arecords c.records.length nrecords, .slice Aglobals c.globals.length nglobals, .int .i64 c.main, .slice (some ⟨g, off, none⟩) c.instrs.length ninstrs]) c := h
    have HC := Lib.hid (spec_l35Close c _ p _ lo hi (hsc.below hwb hhi) (Nat.le_trans hhi hwb.size) hpl hn2 hcv.ins)
    have HSC := Lib.hid hsc
    have bb := Blk.new w 34 #[Value.slice Aroutines c.routines.length nroutines, .slice Arecords c.records.length nrecords, .slice Aglobals c.globals.length nglobals, .int .i64 c.main, .slice (some ⟨g, off, none⟩) c.instrs.length ninstrs]
    have be := Blk.newAt (w.alloc (.cells #[Value.slice Aroutines c.routines.length nroutines, .slice Arecords c.records.length nrecords, .slice Aglobals c.globals.length nglobals, .int .i64 c.main, .slice (some ⟨g, off, none⟩) c.instrs.length ninstrs] 34)) 46 #[Value.int .i64 2, .int .i64 p] (w.heap.size + 1) (by simp)
    have b1 := (bb.alloc (.cells #[Value.int .i64 2, .int .i64 p] 46)).alloc (.cells #[Value.int .i64 x.op, .int .i64 x.a, .int .i64 x.b, .int .i64 x.line, .string x.text] 79)
    have e1 := be.alloc (.cells #[Value.int .i64 x.op, .int .i64 x.a, .int .i64 x.b, .int .i64 x.line, .string x.text] 79)
    obtain ⟨r, hr⟩ : ∃ r, closeP c.instrs p = r := ⟨_, rfl⟩
    have HR := Lib.hid hr
    clear h hsc h13 hr hx hi1 hcv hs hmem hiv bb be
    go_enter Tryz.func57, Tryz.ntmps57
    go_wp2_with fail
    refine (spec_l1In (p : Int) 0 ((c.instrs.length : Int) - 1) _).mono ?_; rw [HIN.out]; rintro e w3 ⟨rfl, rfl⟩
    go_wp2_with fail
    refine HC.out.mono ?_; rw [HR.out]; rintro e w4 ⟨rfl, hb4⟩
    have hw4 := hwb.trans (hb4.mono hwb.size)
    have b2 := b1.later hb4
    have e2 := e1.later hb4
    clear b1 e1 hb4 q0 q1 q2 q3 q4
    have ca := b2.cell
    have la := b2.lt
    have ce := e2.cell
    have le := e2.lt
    cases r with
    | none =>
      have o0 : optI none = -1 := rfl
      rw [o0]
      go_wp2_with fail
      go_ret
      exact ⟨ret_bool (by rw [HT.out, HJ.out, HR.out]; rfl), hw4⟩
    | some e =>
      have o0 : optI (some e) = (e : Int) := rfl
      rw [o0]
      have HE := Lib.hid (spec_l35Entered c _ ((p : Int) + 1) e w4 lo hi (HSC.out.below hw4 hhi) (Nat.le_trans hhi hw4.size))
      obtain ⟨z, hz⟩ : ∃ z, enterB c ((p : Int) + 1) e = z := ⟨_, rfl⟩
      have HZ := Lib.hid hz
      clear hz o0
      go_wp2_with fail
      refine HE.out.mono ?_; rw [HZ.out]; rintro e w5 ⟨rfl, hb5⟩
      have hw5 := hw4.trans (hb5.mono hw4.size)
      go_wp2_with fail
      go_ret
      exact ⟨ret_bool (by rw [HT.out, HJ.out, HR.out]; simp only []; rw [HZ.out]; cases z <;> rfl), hw5⟩
  · have t1 : (x.op != 13) = true := by simp; exact h13
    have HJ : Hid (decide (x.op = 13) = false) := by show _ = _; simp; exact h13
    clear h hs hmem hiv h13 hx hi1 hcv
    go_enter Tryz.func57, Tryz.ntmps57
    go_wp2_with fail
    refine (spec_l1In (p : Int) 0 ((c.instrs.length : Int) - 1) _).mono ?_; rw [HIN.out]; rintro e w3 ⟨rfl, rfl⟩
    go_wp2_with fail
    go_ret
    exact ⟨ret_bool (by rw [HT.out, HJ.out]; rfl), hwb⟩
set_option maxRecDepth 100000 in
set_option maxHeartbeats 1000000 in
theorem check_other (c : CodeT) (sh : List ByteArray) (v u : Value) (x : InsT) (p : Nat) (w : World) (lo hi lo' hi' : Nat) (h : SRep w lo hi CodeT.dats v c) (hhi : hi ≤ w.heap.size) (hs : LRep w lo' hi' 1 strDats u sh) (hhi' : hi' ≤ w.heap.size) (hsl : sh.length = c.instrs.length) (hcv : CodeV c) (hx : c.instrs[p]? = some x) (k : Int) (k1 : ¬ k = 1) (k2 : ¬ k = 2) (k3 : ¬ k = 3) :
    Calls Tryz.prog 57 #[v, u, .agg #[Value.int .i64 k, .int .i64 p]] w fun e w' => e = .returned (.bool (false)) ∧ Below w.heap.size w w' := by
  obtain ⟨Aroutines, nroutines, Arecords, nrecords, Aglobals, nglobals, Ainstrs, ninstrs, rfl, -, -, -, -, -, -, -, -, -, hi1, ui, mi⟩ := CodeT.form h
  unfold maxLen at mi
  have hpl : p < c.instrs.length := (List.getElem?_eq_some_iff.1 hx).1
  have hn2 := hcv.n2
  obtain ⟨g, off, rfl, hg1, hg2, hmem, -, q0, q1, q2, q3, q4⟩ := InsT.at_ hi1 hx
  have hiv := hcv.ins x hmem
  have HIN : Hid (inB (p : Int) 0 ((c.instrs.length : Int) - 1) = true) := by show _ = _; unfold inB; simp; omega
  have hwa : Below w.heap.size w ((w.alloc (.cells #[Value.slice Aroutines c.routines.length nroutines, .slice Arecords c.records.length nrecords, .slice Aglobals c.globals.length nglobals, .int .i64 c.main, .slice (some ⟨g, off, none⟩) c.instrs.length ninstrs] 34)).alloc (.cells #[Value.int .i64 k, .int .i64 p] 46)) := ((Below.refl _ _).alloc (Nat.le_refl _) _).alloc (by simp) _
  have hwb := hwa.alloc hwa.size (.cells #[Value.int .i64 x.op, .int .i64 x.a, .int .i64 x.b, .int .i64 x.line, .string x.text] 79)
  have hgl : g < w.heap.size := Nat.lt_of_lt_of_le hg2 hhi
  clear h hs hmem hiv hx hi1 hcv
  go_enter Tryz.func57, Tryz.ntmps57
  go_wp2_with fail
  refine (spec_l1In (p : Int) 0 ((c.instrs.length : Int) - 1) _).mono ?_; rw [HIN.out]; rintro e w3 ⟨rfl, rfl⟩
  go_wp2_with fail
  go_ret
  exact ⟨rfl, hwb⟩
set_option maxRecDepth 100000 in
set_option maxHeartbeats 1000000 in
theorem check_out (c : CodeT) (v u : Value) (k p : Int) (w : World) (lo hi : Nat) (h : SRep w lo hi CodeT.dats v c) (hn : c.instrs.length ≤ 60000) (hp : p < 0 ∨ (c.instrs.length : Int) ≤ p) :
    Calls Tryz.prog 57 #[v, u, .agg #[Value.int .i64 k, .int .i64 p]] w fun e w' => e = .returned (.bool false) ∧ Below w.heap.size w w' := by
  obtain ⟨Aroutines, nroutines, Arecords, nrecords, Aglobals, nglobals, Ainstrs, ninstrs, rfl, -⟩ := CodeT.form h
  have HIN : Hid (inB p 0 ((c.instrs.length : Int) - 1) = false) := by show _ = _; unfold inB; simp; omega
  have hwa : Below w.heap.size w ((w.alloc (.cells #[Value.slice Aroutines c.routines.length nroutines, .slice Arecords c.records.length nrecords, .slice Aglobals c.globals.length nglobals, .int .i64 c.main, .slice Ainstrs c.instrs.length ninstrs] 34)).alloc (.cells #[Value.int .i64 k, .int .i64 p] 46)) := ((Below.refl _ _).alloc (Nat.le_refl _) _).alloc (by simp) _
  clear hp h
  go_enter Tryz.func57, Tryz.ntmps57
  go_wp2_with fail
  refine (spec_l1In p 0 ((c.instrs.length : Int) - 1) _).mono ?_; rw [HIN.out]; rintro e w3 ⟨rfl, rfl⟩
  go_wp2_with fail
  go_ret
  exact ⟨rfl, hwa⟩
theorem edit_out {c : CodeT} {sh : List ByteArray} {k p : Int} (hp : p < 0 ∨ (c.instrs.length : Int) ≤ p) : editB c sh k p = false := by
  unfold editB
  split
  · rfl
  · rw [List.getElem?_eq_none (by omega)]
theorem edit_at {c : CodeT} {sh : List ByteArray} {k : Int} {p : Nat} {x : InsT} (hx : c.instrs[p]? = some x) : editB c sh k p = editAt c sh k p x := by
  unfold editB
  rw [if_neg (by omega), Int.toNat_natCast, hx]
theorem spec_l35Check (c : CodeT) (sh : List ByteArray) (v u : Value) (k p : Int) (w : World) (lo hi lo' hi' : Nat) (h : SRep w lo hi CodeT.dats v c) (hhi : hi ≤ w.heap.size) (hs : LRep w lo' hi' 1 strDats u sh) (hhi' : hi' ≤ w.heap.size) (hsl : sh.length = c.instrs.length) (hcv : CodeV c) :
    Calls Tryz.prog 57 #[v, u, .agg #[Value.int .i64 k, .int .i64 p]] w fun e w' => e = .returned (.bool (editB c sh k p)) ∧ Below w.heap.size w w' := by
  by_cases hp : p < 0 ∨ (c.instrs.length : Int) ≤ p
  · rw [edit_out hp]; exact check_out c v u k p w lo hi h hcv.n2 hp
  · obtain ⟨q, rfl⟩ : ∃ q : Nat, p = q := ⟨p.toNat, by omega⟩
    obtain ⟨x, hx⟩ : ∃ x, c.instrs[q]? = some x := ⟨_, List.getElem?_eq_getElem (by omega)⟩
    rw [edit_at hx]
    unfold editAt
    by_cases k1 : k = 1
    · subst k1; rw [if_pos rfl]; exact check_thread c sh v u x q w lo hi lo' hi' h hhi hs hhi' hsl hcv hx
    rw [if_neg k1]
    by_cases k2 : k = 2
    · subst k2; rw [if_pos rfl]; exact check_unmark c sh v u x q w lo hi lo' hi' h hhi hs hhi' hsl hcv hx
    rw [if_neg k2]
    by_cases k3 : k = 3
    · subst k3; rw [if_pos rfl]; exact check_dead c sh v u x q w lo hi lo' hi' h hhi hs hhi' hsl hcv hx
    rw [if_neg k3]
    exact check_other c sh v u x q w lo hi lo' hi' h hhi hs hhi' hsl hcv hx k k1 k2 k3
end Go.Proofs.YtekobbeoaalibaaGreatDoor
end
