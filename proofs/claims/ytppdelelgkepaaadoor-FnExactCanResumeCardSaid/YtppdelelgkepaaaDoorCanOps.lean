/- Which operators never fail, which resume: neverFails of the program, l33Resumes and l33Breaks of the reference. -/
import Derived.Test.YtppdelelgkepaaaDoorCoreTo
namespace Go.Proofs.YtppdelelgkepaaaDoor
open Go.RowKit

def sureOp (op : Int) : Bool := decide ((1 ≤ op ∧ op ≤ 3) ∨ op = 6 ∨ (9 ≤ op ∧ op ≤ 11) ∨ (20 ≤ op ∧ op ≤ 25) ∨ (50 ≤ op ∧ op ≤ 54) ∨ op = 73 ∨ op = 74 ∨ (76 ≤ op ∧ op ≤ 81))
def resOp (op : Int) : Bool := decide (op = 7 ∨ op = 8 ∨ op = 61 ∨ op = 63 ∨ op = 72)
set_option maxRecDepth 100000 in
set_option maxHeartbeats 2000000 in
theorem spec_l33Resumes (op : Int) (w : World) : Calls Tryd.prog 23 #[.int .i64 op] w fun e w' => e = .returned (.bool (resOp op)) ∧ w = w' := by
  go_enter Tryd.func23, Tryd.ntmps23
  go_wp2_with fail
  all_goals
    go_ret
    exact ⟨ret_bool (by rw [Bool.eq_iff_iff]; simp [resOp]; omega), rfl⟩
set_option maxRecDepth 100000 in
set_option maxHeartbeats 2000000 in
theorem impl_neverFails (op : Int) (w : World) : Calls Tryd.prog 30 #[.int .i64 op] w fun e w' => e = .returned (.bool (sureOp op)) ∧ w = w' := by
  go_enter Tryd.func30, Tryd.ntmps30
  go_wp2_with fail
  all_goals
    go_ret
    exact ⟨ret_bool (by rw [Bool.eq_iff_iff]; simp [sureOp]; omega), rfl⟩
end Go.Proofs.YtppdelelgkepaaaDoor
