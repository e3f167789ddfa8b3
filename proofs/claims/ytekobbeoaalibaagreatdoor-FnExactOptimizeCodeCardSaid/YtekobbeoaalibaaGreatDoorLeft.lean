/- What is left of a budget: the plain words of the laws' size counts. -/
import Derived.Test.YtekobbeoaalibaaGreatDoorMem
namespace Go.Proofs.YtekobbeoaalibaaGreatDoor
def leftOf (left : Int) (b : Nat) : Int := if left < b then -1 else left - b
theorem leftOf_no {left : Int} {b : Nat} (h : left < b) : leftOf left b = -1 := by simp [leftOf, h]
theorem leftOf_yes {left : Int} {b : Nat} (h : ¬ left < b) : leftOf left b = left - b := by simp [leftOf, h]
end Go.Proofs.YtekobbeoaalibaaGreatDoor
