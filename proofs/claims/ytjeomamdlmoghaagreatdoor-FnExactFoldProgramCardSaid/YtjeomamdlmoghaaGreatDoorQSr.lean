/- A box laid. -/
import Derived.Test.YtjeomamdlmoghaaGreatDoorQ00
set_option maxRecDepth 100000
set_option maxHeartbeats 8000000
set_option linter.unusedVariables false
set_option linter.unusedSimpArgs false
section
namespace Go.Proofs.YtjeomamdlmoghaaGreatDoor
open Go.RowKit
theorem boxes1 (w : World) (t : TypeId) (a : Array Value) : Blk (w.alloc (.cells a t)) w.heap.size t a ∧ Below w.heap.size w (w.alloc (.cells a t)) := ⟨Blk.new w t a, (Below.refl w.heap.size w).alloc (Nat.le_refl _) _⟩
end Go.Proofs.YtjeomamdlmoghaaGreatDoor
end
