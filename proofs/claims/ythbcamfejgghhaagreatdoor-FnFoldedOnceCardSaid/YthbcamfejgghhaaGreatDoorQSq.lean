/- aeO laid one after the other. -/
import Derived.Test.YthbcamfejgghhaaGreatDoorQ01
set_option maxRecDepth 100000
set_option maxHeartbeats 8000000
set_option linter.unusedVariables false
set_option linter.unusedSimpArgs false
namespace Go.Proofs.YthbcamfejgghhaaGreatDoor
open Go.IntKind (i64)
open Go.RowKit
theorem kK (w : World) (t : TypeId) (a : Array Value) (u : TypeId) (b : Array Value) : Blk ((w.alloc (.cells a t)).alloc (.cells b u)) w.heap.size t a ∧ Blk ((w.alloc (.cells a t)).alloc (.cells b u)) (w.heap.size + 1) u b ∧ Below w.heap.size w ((w.alloc (.cells a t)).alloc (.cells b u)) :=
  ⟨(Blk.new w t a).alloc _, Blk.newAt _ u b _ (by simp), ((Below.refl w.heap.size w).alloc (Nat.le_refl _) _).alloc (by simp) _⟩
theorem kN (w : World) (t : TypeId) (a : Array Value) (u : TypeId) (b : Array Value) (v : TypeId) (c : Array Value) : Blk (((w.alloc (.cells a t)).alloc (.cells b u)).alloc (.cells c v)) w.heap.size t a ∧ Blk (((w.alloc (.cells a t)).alloc (.cells b u)).alloc (.cells c v)) (w.heap.size + 1) u b ∧ Blk (((w.alloc (.cells a t)).alloc (.cells b u)).alloc (.cells c v)) (w.heap.size + 1 + 1) v c ∧ Below w.heap.size w (((w.alloc (.cells a t)).alloc (.cells b u)).alloc (.cells c v)) :=
  ⟨((Blk.new w t a).alloc _).alloc _, (Blk.newAt _ u b _ (by simp)).alloc _, Blk.newAt _ v c _ (by simp), (((Below.refl w.heap.size w).alloc (Nat.le_refl _) _).alloc (by simp) _).alloc (by simp <;> omega) _⟩

end Go.Proofs.YthbcamfejgghhaaGreatDoor
