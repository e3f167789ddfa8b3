/- Which instructions are valid: the plain law; isLabel of the program, l28Jumps of the reference. -/
import Derived.Test.YtekobbeoaalibaaGreatDoorVer
import Derived.Test.YtekobbeoaalibaaGreatDoorLeaf
import Derived.Test.YtekobbeoaalibaaGreatDoorOpDefs
import Derived.Test.YtekobbeoaalibaaGreatDoorCsetAll
namespace Go.Proofs.YtekobbeoaalibaaGreatDoor
open Go.RowKit
set_option linter.unusedVariables false

set_option maxRecDepth 100000 in
theorem impl_isLabel (op : Int) (w : World) : Calls Tryz.prog 91 #[.int .i64 op] w fun e w' => e = .returned (.bool (jumpB op)) ∧ w = w' := by
  go_enter Tryz.func91, Tryz.ntmps91
  go_wp2_with fail
  all_goals
    go_ret
    exact ⟨ret_bool (by rw [Bool.eq_iff_iff]; simp [jumpB]; omega), rfl⟩
set_option maxRecDepth 100000 in
theorem spec_l28Jumps (op : Int) (w : World) : Calls Tryz.prog 48 #[.int .i64 op] w fun e w' => e = .returned (.bool (jumpB op)) ∧ w = w' := by
  go_enter Tryz.func48, Tryz.ntmps48
  go_wp2_with fail
  all_goals
    go_ret
    exact ⟨ret_bool (by rw [Bool.eq_iff_iff]; simp [jumpB]; omega), rfl⟩
/-- the text of an instruction -/
def insText (x : InsT) : Bool := if x.op = 2 then decide (x.text.size ≤ 120) else if x.op = 3 then csetOk x.text else decide (x.text.size = 0)
/-- its B -/
def insB (x : InsT) : Bool := if x.op = 11 then decide (arityLo x.a ≤ x.b ∧ x.b ≤ arityHi x.a) else if x.op = 12 then inB x.b 1 9 else decide (x.b = 0)
/-- its A, in a code of n instructions -/
def insA (d : WdT) (n : Nat) (x : InsT) : Bool := if jumpB x.op = true then inB x.a 0 (n - 1) || (decide (x.op = 13) && decide (x.a = -1)) else if x.op = 11 then true else leafOk d x.op x.a
def insOk (d : WdT) (n : Nat) (x : InsT) : Bool := decide (1 ≤ x.op ∧ x.op ≤ 30) && decide (0 ≤ x.line) && insText x && insB x && insA d n x
def codeD (c : CodeT) : WdT := ⟨24, c.globals.length, c.routines.length, c.records.length⟩
def InsOk (F : Nat) (c : CodeT) (x : InsT) : Prop := ∀ (vc vx : Value) (w : World) (lo hi lo' hi' : Nat), SRep w lo hi CodeT.dats vc c → SRep w lo' hi' InsT.dats vx x → x.text.size ≤ 1048576 →
  Calls Tryz.prog F #[vc, vx] w fun e w' => e = .returned (.bool (insOk (codeD c) c.instrs.length x)) ∧ Below w.heap.size w w'
end Go.Proofs.YtekobbeoaalibaaGreatDoor
