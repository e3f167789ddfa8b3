/- (*verifier).visit of the program: every operation. -/
import Derived.Test.YtekobbeoaalibaaGreatDoorVisitA
import Derived.Test.YtekobbeoaalibaaGreatDoorVisitB
import Derived.Test.YtekobbeoaalibaaGreatDoorVisitC
import Derived.Test.YtekobbeoaalibaaGreatDoorVisitD
import Derived.Test.YtekobbeoaalibaaGreatDoorVisitE
namespace Go.Proofs.YtekobbeoaalibaaGreatDoor
open Go.RowKit
set_option linter.unusedVariables false

theorem impl_visit {w0 wr : World} {b : Nat} {v0 v1 v2 v3 : Value} {Ai : Option Addr} {ni : Nat} {c : List InsT} {st : St} {i : Nat} {x : InsT} {sv tv : Value} {lo hi : Nat} (h : VisIn w0 wr b v0 v1 v2 v3 Ai ni c st i x sv tv lo hi) :
    Calls Tryz.prog 52 #[.pointer (some ⟨b, 0, none⟩), .int .i64 i] wr (VisPost w0 c.length b v0 v1 v2 v3 Ai ni (stepAt c st i x)) := by
  obtain ⟨h1, h30⟩ := h.ok.op
  have hop : x.op = 1 ∨ x.op = 2 ∨ x.op = 3 ∨ x.op = 4 ∨ x.op = 5 ∨ x.op = 6 ∨ x.op = 7 ∨ x.op = 8 ∨ x.op = 9 ∨ x.op = 10 ∨ x.op = 11 ∨ x.op = 12 ∨ x.op = 13 ∨ x.op = 14 ∨ x.op = 15 ∨ x.op = 16 ∨ x.op = 17 ∨ x.op = 18 ∨ x.op = 19 ∨ x.op = 20 ∨ x.op = 21 ∨ x.op = 22 ∨ x.op = 23 ∨ x.op = 24 ∨ x.op = 25 ∨ x.op = 26 ∨ x.op = 27 ∨ x.op = 28 ∨ x.op = 29 ∨ x.op = 30 := by omega
  rcases hop with k | k | k | k | k | k | k | k | k | k | k | k | k | k | k | k | k | k | k | k | k | k | k | k | k | k | k | k | k | k
  · exact visit_1 h k
  · exact visit_2 h k
  · exact visit_3 h k
  · exact visit_4 h k
  · exact visit_5 h k
  · exact visit_6 h k
  · exact visit_7 h k
  · exact visit_8 h k
  · exact visit_9 h k
  · exact visit_10 h k
  · exact visit_11 h k
  · exact visit_12 h k
  · by_cases ha : x.a = -1
    · exact visit_13m h k ha
    · have hl := h.ok.lab (by rw [k]; decide)
      by_cases hf : (i : Int) < x.a
      · exact visit_13f h k hf
      · exact visit_13b h k (by omega) (by omega)
  · exact visit_14 h k
  · have hl := h.ok.lab (by rw [k]; decide)
    by_cases hf : (i : Int) < x.a
    · exact visit_15f h k hf
    · exact visit_15b h k (by omega) (by omega)
  · exact visit_16 h k
  · have hl := h.ok.lab (by rw [k]; decide)
    by_cases hf : (i : Int) < x.a
    · exact visit_17f h k hf
    · exact visit_17b h k (by omega) (by omega)
  · exact visit_18 h k
  · have hl := h.ok.lab (by rw [k]; decide)
    by_cases hf : (i : Int) < x.a
    · exact visit_19f h k hf
    · exact visit_19b h k (by omega) (by omega)
  · exact visit_20 h k
  · exact visit_21 h k
  · exact visit_22 h k
  · exact visit_23 h k
  · exact visit_24 h k
  · exact visit_25 h k
  · exact visit_26 h k
  · have hl := h.ok.lab (by rw [k]; decide)
    by_cases hf : (i : Int) < x.a
    · exact visit_27f h k hf
    · exact visit_27b h k (by omega) (by omega)
  · exact visit_28 h k
  · exact visit_29 h k
  · exact visit_30 h k
end Go.Proofs.YtekobbeoaalibaaGreatDoor
