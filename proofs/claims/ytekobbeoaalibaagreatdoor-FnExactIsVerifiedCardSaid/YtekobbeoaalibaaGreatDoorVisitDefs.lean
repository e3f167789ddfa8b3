/- What a visit is given and what it leaves. -/
import Derived.Test.YtekobbeoaalibaaGreatDoorVerI
import Derived.Deep.RegionHeld3
import Derived.Test.YtekobbeoaalibaaGreatDoorInsDefs
import Derived.StillTailTactics
import Derived.IntWalk
namespace Go.Proofs.YtekobbeoaalibaaGreatDoor
open Go.RowKit
set_option linter.unusedVariables false

theorem wrap8 (n : Int) (h0 : 0 ≤ n) (h1 : n ≤ 255) : IntKind.u8.wrap n = n := by
  simp [IntKind.wrap, IntKind.bits, IntKind.signed]; omega
/-- what the visit is given -/
structure VisIn (w0 wr : World) (b : Nat) (v0 v1 v2 v3 : Value) (Ai : Option Addr) (ni : Nat) (c : List InsT) (st : St) (i : Nat) (x : InsT) (sv tv : Value) (lo hi : Nat) : Prop where
  vb : VB w0 wr c.length b v0 v1 v2 v3 Ai ni [] (st, false) sv tv
  inv : Inv c.length st
  code : LRep wr lo hi 5 InsT.dats (.slice Ai c.length ni) c
  hi_ : hi ≤ w0.heap.size
  big : c.length ≤ 60000
  at_ : c[i]? = some x
  shp : 0 < (st.at_ i).size
  ok : InsV c.length x
def VisPost (w0 : World) (n b : Nat) (v0 v1 v2 v3 : Value) (Ai : Option Addr) (ni : Nat) (r : Option St) (e : Ending) (w' : World) : Prop :=
  e = .returned (.tuple #[]) ∧ ∃ q : St × Bool, VPost w0 n b v0 v1 v2 v3 Ai ni [] q w' ∧ Inv n q.1 ∧ r = if q.2 = true then none else some q.1
theorem size_dup (w : World) : w.heap.size = w.heap.size := rfl
end Go.Proofs.YtekobbeoaalibaaGreatDoor
