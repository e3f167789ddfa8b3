/- Which codes are valid: the plain law. -/
import Derived.Test.YtekobbeoaalibaaGreatDoorInsDefs
import Derived.Test.YtekobbeoaalibaaGreatDoorRecsI
import Derived.Test.YtekobbeoaalibaaGreatDoorVerJ
namespace Go.Proofs.YtekobbeoaalibaaGreatDoor
open Go.RowKit
set_option linter.unusedVariables false

noncomputable def roOk (n : Nat) (r : CRoT) : Bool := isNameB r.name && decide (0 ≤ r.slots) && decide (r.slots ≤ 24) && decide (0 ≤ r.params) && decide (r.params ≤ r.slots) && decide (0 ≤ r.entry) && decide (r.entry < n)
def mainOk (c : CodeT) : Bool := decide (0 ≤ c.main) && decide (c.main < c.routines.length) && (match c.routines[c.main.toNat]? with | some r => decide (r.params = 0) | none => false)
noncomputable def headOk (c : CodeT) : Bool := decide (1 ≤ c.routines.length) && decide (c.routines.length ≤ 12) && recsOk c.records && decide (c.globals.length ≤ 12) && c.globals.all isNameB && decide (1 ≤ c.instrs.length) && decide (c.instrs.length ≤ 60000)
noncomputable def validCode (c : CodeT) : Bool := headOk c && c.routines.all (roOk c.instrs.length) && mainOk c && c.instrs.all (insOk (codeD c) c.instrs.length)
theorem valid_head {c : CodeT} (h : headOk c = false) : validCode c = false := by unfold validCode; rw [h]; rfl
theorem valid_ro {c : CodeT} (h : c.routines.all (roOk c.instrs.length) = false) : validCode c = false := by unfold validCode; rw [h, Bool.and_false]; rfl
theorem valid_main {c : CodeT} (h : mainOk c = false) : validCode c = false := by unfold validCode; rw [h, Bool.and_false]; rfl
theorem valid_ins {c : CodeT} (h : c.instrs.all (insOk (codeD c) c.instrs.length) = false) : validCode c = false := by unfold validCode; rw [h, Bool.and_false]
theorem valid_yes {c : CodeT} (h1 : headOk c = true) (h2 : c.routines.all (roOk c.instrs.length) = true) (h3 : mainOk c = true) (h4 : c.instrs.all (insOk (codeD c) c.instrs.length) = true) : validCode c = true := by unfold validCode; rw [h1, h2, h3, h4]; rfl
theorem arity_bd (op : Int) : 0 ≤ arityLo op ∧ arityHi op ≤ 9 := by
  unfold arityLo arityHi
  constructor
  · repeat' split
    all_goals decide
  · repeat' split
    all_goals decide
theorem ins_v {d : WdT} {n : Nat} {x : InsT} (h : insOk d n x = true) : InsV n x := by
  unfold insOk at h
  simp only [Bool.and_eq_true, decide_eq_true_eq] at h
  obtain ⟨⟨⟨⟨h1, h2⟩, h3⟩, h4⟩, h5⟩ := h
  refine ⟨h1, fun hj => ?_, fun ho => ?_⟩
  · rw [insA, if_pos hj] at h5
    simp only [Bool.or_eq_true, Bool.and_eq_true, decide_eq_true_eq, inB] at h5
    rcases h5 with h5 | h5
    · exact .inl ⟨h5.1, by omega⟩
    · exact .inr h5
  · rcases ho with ho | ho
    · rw [insB, if_pos ho] at h4
      have := arity_bd x.a
      simp only [decide_eq_true_eq] at h4
      omega
    · rw [insB, if_neg (by omega), if_pos ho] at h4
      simp only [inB, Bool.and_eq_true, decide_eq_true_eq] at h4
      omega
theorem valid_v {c : CodeT} (h : validCode c = true) : CodeV c := by
  unfold validCode headOk at h
  simp only [Bool.and_eq_true, decide_eq_true_eq, List.all_eq_true] at h
  obtain ⟨⟨⟨⟨⟨⟨⟨⟨⟨h1, h2⟩, h3⟩, h4⟩, h5⟩, h6⟩, h7⟩, hr⟩, hm⟩, hi⟩ := h
  refine ⟨h6, h7, h2, fun r hrm => ?_, fun x hx => ins_v (hi x hx)⟩
  have := hr r hrm
  unfold roOk at this
  simp only [Bool.and_eq_true, decide_eq_true_eq] at this
  omega
end Go.Proofs.YtekobbeoaalibaaGreatDoor
