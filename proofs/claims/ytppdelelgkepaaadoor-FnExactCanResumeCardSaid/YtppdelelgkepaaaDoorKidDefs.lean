/- How many kids a node has. -/
import Derived.Test.YtppdelelgkepaaaDoorCore
import Derived.Test.YtppdelelgkepaaaDoorOpDefs
namespace Go.Proofs.YtppdelelgkepaaaDoor
open Go.RowKit
set_option linter.unusedVariables false

theorem ret_intsK {a b c d : Int} (h1 : a = c) (h2 : b = d) : Ending.returned (.tuple #[.int .i64 a, .int .i64 b]) = .returned (.tuple #[.int .i64 c, .int .i64 d]) := by rw [h1, h2]
/-- how many kids a node of kind k (and operator op) has, at least and at most -/
def kidsLo (k op : Int) : Int := if k = 11 then arityLo op else if k = 12 ∨ k = 16 ∨ k = 14 ∨ k = 20 ∨ k = 23 ∨ k = 26 ∨ k = 27 then 1 else if k = 13 ∨ k = 15 ∨ k = 18 ∨ k = 19 ∨ k = 22 ∨ k = 25 then 2 else if k = 17 then 3 else 0
def kidsHi (k op : Int) : Int := if k = 11 then arityHi op else if k = 12 then 9 else if k = 16 then 24 else if k = 14 ∨ k = 20 ∨ k = 23 ∨ k = 26 ∨ k = 27 then 1 else if k = 13 ∨ k = 15 ∨ k = 18 ∨ k = 19 ∨ k = 22 ∨ k = 25 then 2 else if k = 17 then 3 else 0
theorem kids_op {k op : Int} (h : k = 11) : kidsLo k op = arityLo op ∧ kidsHi k op = arityHi op := by subst h; exact ⟨rfl, rfl⟩
theorem kids_none {k op : Int} (h : ¬ (k = 11 ∨ k = 12 ∨ k = 13 ∨ k = 14 ∨ k = 15 ∨ k = 16 ∨ k = 17 ∨ k = 18 ∨ k = 19 ∨ k = 20 ∨ k = 22 ∨ k = 23 ∨ k = 25 ∨ k = 26 ∨ k = 27)) : kidsLo k op = 0 ∧ kidsHi k op = 0 := by
  simp only [not_or] at h
  obtain ⟨h1, h2, h3, h4, h5, h6, h7, h8, h9, h10, h11, h12, h13, h14, h15⟩ := h
  simp [kidsLo, kidsHi, h1, h2, h3, h4, h5, h6, h7, h8, h9, h10, h11, h12, h13, h14, h15]
theorem kids_12 {k op : Int} (h : k = 12) : kidsLo k op = 1 ∧ kidsHi k op = 9 := by subst h; exact ⟨rfl, rfl⟩
theorem kids_13 {k op : Int} (h : k = 13) : kidsLo k op = 2 ∧ kidsHi k op = 2 := by subst h; exact ⟨rfl, rfl⟩
theorem kids_14 {k op : Int} (h : k = 14) : kidsLo k op = 1 ∧ kidsHi k op = 1 := by subst h; exact ⟨rfl, rfl⟩
theorem kids_15 {k op : Int} (h : k = 15) : kidsLo k op = 2 ∧ kidsHi k op = 2 := by subst h; exact ⟨rfl, rfl⟩
theorem kids_16 {k op : Int} (h : k = 16) : kidsLo k op = 1 ∧ kidsHi k op = 24 := by subst h; exact ⟨rfl, rfl⟩
theorem kids_17 {k op : Int} (h : k = 17) : kidsLo k op = 3 ∧ kidsHi k op = 3 := by subst h; exact ⟨rfl, rfl⟩
theorem kids_18 {k op : Int} (h : k = 18) : kidsLo k op = 2 ∧ kidsHi k op = 2 := by subst h; exact ⟨rfl, rfl⟩
theorem kids_19 {k op : Int} (h : k = 19) : kidsLo k op = 2 ∧ kidsHi k op = 2 := by subst h; exact ⟨rfl, rfl⟩
theorem kids_20 {k op : Int} (h : k = 20) : kidsLo k op = 1 ∧ kidsHi k op = 1 := by subst h; exact ⟨rfl, rfl⟩
theorem kids_22 {k op : Int} (h : k = 22) : kidsLo k op = 2 ∧ kidsHi k op = 2 := by subst h; exact ⟨rfl, rfl⟩
theorem kids_23 {k op : Int} (h : k = 23) : kidsLo k op = 1 ∧ kidsHi k op = 1 := by subst h; exact ⟨rfl, rfl⟩
theorem kids_25 {k op : Int} (h : k = 25) : kidsLo k op = 2 ∧ kidsHi k op = 2 := by subst h; exact ⟨rfl, rfl⟩
theorem kids_26 {k op : Int} (h : k = 26) : kidsLo k op = 1 ∧ kidsHi k op = 1 := by subst h; exact ⟨rfl, rfl⟩
theorem kids_27 {k op : Int} (h : k = 27) : kidsLo k op = 1 ∧ kidsHi k op = 1 := by subst h; exact ⟨rfl, rfl⟩
end Go.Proofs.YtppdelelgkepaaaDoor
