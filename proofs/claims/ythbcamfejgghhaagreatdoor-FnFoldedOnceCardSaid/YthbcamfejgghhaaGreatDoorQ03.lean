/- The row's last step where the world is known by Below alone (turned from the YM page of small lemmas). -/
import Derived.Test.YthbcamfejgghhaaGreatDoorQ02
import Derived.Test.YthbcamfejgghhaaGreatDoorRows
set_option maxRecDepth 100000
set_option maxHeartbeats 8000000
set_option linter.unusedVariables false
set_option linter.unusedSimpArgs false
namespace Go.Proofs.YthbcamfejgghhaaGreatDoor
open Go.IntKind (i64)
section
open Go.RowKit Go.WideShapes Go.ChangeShapes
theorem GI : ownKnob Tryz.prog.godebug = none := aI
section
variable {H : Type} {enc : TypeId × Value → H} {P : Program}
end
end
end Go.Proofs.YthbcamfejgghhaaGreatDoor
