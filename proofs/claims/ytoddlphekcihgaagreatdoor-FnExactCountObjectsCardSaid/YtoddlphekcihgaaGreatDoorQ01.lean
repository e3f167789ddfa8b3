/- The row's last step where the world is known by Below alone (turned from the TP page of small lemmas). -/
import Derived.Test.YtoddlphekcihgaaGreatDoorQSr
import Derived.Test.YtoddlphekcihgaaGreatDoorRows
import Derived.ProofKit
import Derived.OpenShut
import Derived.ShutString
import Derived.ChangeSame
set_option maxRecDepth 100000
set_option maxHeartbeats 8000000
set_option linter.unusedVariables false
set_option linter.unusedSimpArgs false
namespace Go.Proofs.YtoddlphekcihgaaGreatDoor
section
open Go.RowKit Go.WideShapes Go.ChangeShapes
theorem EF : ownKnob Tryz.prog.godebug = none := by kernel_rfl
section
variable {H : Type} {enc : TypeId × Value → H} {P : Program}
end
end
end Go.Proofs.YtoddlphekcihgaaGreatDoor
