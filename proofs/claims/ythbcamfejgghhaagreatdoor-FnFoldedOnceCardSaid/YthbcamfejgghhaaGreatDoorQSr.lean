/- A box laid. -/
import Derived.Test.YthbcamfejgghhaaGreatDoorQ01
import Derived.WalkSmall
set_option maxRecDepth 100000
set_option maxHeartbeats 8000000
set_option linter.unusedVariables false
set_option linter.unusedSimpArgs false
namespace Go.Proofs.YthbcamfejgghhaaGreatDoor
open Go.IntKind (i64)
open Go.RowKit
theorem dQ (w : World) (t : TypeId) (a : Array Value) : Blk (w.alloc (.cells a t)) w.heap.size t a ∧ Below w.heap.size w (w.alloc (.cells a t)) := ⟨Blk.new w t a, (Below.refl w.heap.size w).alloc (Nat.le_refl _) _⟩
theorem bE (b : Bool) : b = true ∨ b = false := Bool.eq_false_or_eq_true b
theorem mA {α : Type} {a : α} {s t : List α} (h : a ∈ s ++ t) : a ∈ s ∨ a ∈ t := List.mem_append.1 h
theorem mS {α : Type} {a b : α} (h : a ∈ [b]) : a = b := List.mem_singleton.1 h
theorem mC {α : Type} {a b : α} {l : List α} (h : a ∈ b :: l) : a = b ∨ a ∈ l := List.mem_cons.1 h
theorem dT {p : Prop} [Decidable p] (h : p) : decide p = true := decide_eq_true h
theorem dF {p : Prop} [Decidable p] (h : ¬ p) : decide p = false := decide_eq_false h
theorem nT {a b c : Nat} (h : a ≤ b) (k : b ≤ c) : a ≤ c := Nat.le_trans h k
theorem nL {a b c : Nat} (h : a < b) (k : b ≤ c) : a < c := Nat.lt_of_lt_of_le h k
theorem gE {α : Type} {l : List α} {i : Nat} (h : i < l.length) : l[i]? = some l[i] := List.getElem?_eq_getElem h
theorem dC (p : Prop) [Decidable p] : (p ∧ decide p = true) ∨ (¬ p ∧ decide p = false) := by
  by_cases h : p
  · exact .inl ⟨h, decide_eq_true h⟩
  · exact .inr ⟨h, decide_eq_false h⟩
theorem nZ (n : Nat) : 0 ≤ n := Nat.zero_le n
theorem lH {p : Prop} (h : p) : Hid p := Lib.hid h
theorem nR (n : Nat) : n ≤ n := Nat.le_refl n
theorem bN {B : Nat} {a w : World} (h : Below B a w) (n : Nat) : Below B a (w.drewN n) := Go.below_drewN h n
theorem bR (B : Nat) (w : World) : Below B w w := Below.refl B w
theorem bF {α : Type} [BEq α] [LawfulBEq α] {a b : α} (h : a ≠ b) : (a == b) = false := beq_eq_false_iff_ne.2 h
theorem mG {α : Type} {l : List α} {i : Nat} {a : α} (h : l[i]? = some a) : a ∈ l := List.mem_of_getElem? h
theorem bA (w : World) (o : Obj) : Below w.heap.size w (w.alloc o) := (Below.refl _ _).alloc (Nat.le_refl _) _
theorem nX {g : Nat} {t : TypeId} {cs : Array Value} {w0 w w1 : World} (h : Below w0.heap.size w0 w) (a : Blk w g t cs) (b : Below w.heap.size w w1) : Below w0.heap.size w0 w1 ∧ Blk w1 g t cs ∧ (∀ i, w1.cell? ⟨g, i, none⟩ = cs[i]?) ∧ g < w1.heap.size :=
  have c := a.later b
  ⟨h.trans (b.mono h.size), c, c.cell, c.lt⟩
theorem nW (w : World) : ∃ x : World, x = w := ⟨w, rfl⟩
theorem nF {P : Program} : ∀ (fn : Fn) (first cap : Array Value) (w : World), (Instr.makeFunc fn first cap).run P w = .ok (.func fn first cap) w := fun _ _ _ _ => rfl
theorem nE {op n : Int} (h : op = n) : (op == 1) = (n == 1) ∧ (op == 2) = (n == 2) ∧ (op == 3) = (n == 3) ∧ (op == 4) = (n == 4) ∧ (op == 5) = (n == 5) ∧ (op == 6) = (n == 6) ∧ (op == 7) = (n == 7) ∧ (op == 8) = (n == 8) ∧ (op == 9) = (n == 9) ∧ (op == 10) = (n == 10) ∧ (op == 13) = (n == 13) ∧ (op == 14) = (n == 14) ∧ (op == 15) = (n == 15) ∧ (op == 16) = (n == 16) ∧ (op == 17) = (n == 17) ∧ (op == 18) = (n == 18) ∧ (op == 20) = (n == 20) := by
  subst h; simp

end Go.Proofs.YthbcamfejgghhaaGreatDoor
