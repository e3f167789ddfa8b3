/- l33Sure of the reference. -/
import Derived.Test.YtppdelelgkepaaaDoorCanOps
import Derived.Test.YtppdelelgkepaaaDoorCanFn
namespace Go.Proofs.YtppdelelgkepaaaDoor
open Go.RowKit

def isVarT (c : CoreT) : Bool := decide (c.kind = 5 ∨ c.kind = 6)
def kid0 (c : CoreT) : CoreT := c.kids.getD 0 (.mk 0 0 0 0 ByteArray.empty [])
def sureT (c : CoreT) : Bool := if c.op = 60 ∨ 220 ≤ c.op then isVarT (kid0 c) else sureOp c.op
set_option maxRecDepth 100000 in
set_option maxHeartbeats 4000000 in
theorem spec_l33Sure (x : Value) (c : CoreT) (w : World) (lo hi : Nat) (hr : CRep w lo hi x c) (hhi : hi ≤ w.heap.size) (hn : c.op = 60 ∨ 220 ≤ c.op → 0 < c.kids.length) :
    Calls Tryd.prog 22 #[x] w fun e w' => e = .returned (.bool (sureT c)) ∧ Below w.heap.size w w' := by
  obtain ⟨A, cap, rfl, hk, -, -⟩ := hr.form
  by_cases hs : c.op = 60 ∨ 220 ≤ c.op
  · have hlt := hn hs
    obtain ⟨g, off, kd, B, d, rfl, hg1, hg2, hkd, hmem, hrep, c0, c1, c2, c3, c4, c5⟩ := (hk.alloc hhi (.cells #[.int .i64 c.kind, .int .i64 c.op, .int .i64 c.number, .int .i64 c.line, .string c.text, .slice A c.kids.length cap] 29)).kid hlt
    have HV : Hid (sureT c = isVarT kd) := by show _ = _; rw [sureT, if_pos hs, kid0, List.getD, hkd]; rfl
    have hlt2 : (0 : Int) < (c.kids.length : Int) := by omega
    rw [Nat.zero_mul, Nat.add_zero] at c0
    clear hn hkd hr c1 c2 c3 c4 c5 hrep
    by_cases h60 : c.op = 60
    · have b : (c.op == 60) = true := beq_iff_eq.2 h60
      clear hs h60
      go_enter Tryd.func22, Tryd.ntmps22
      go_wp2_with fail
      all_goals
        go_ret
        exact ⟨ret_bool (by rw [HV.out, Bool.eq_iff_iff]; simp [isVarT] <;> omega), (Below.refl _ _).alloc (Nat.le_refl _) _⟩
    · have b : (c.op == 60) = false := beq_eq_false_iff_ne.2 h60
      have h2 : 220 ≤ c.op := by omega
      clear hs h60
      go_enter Tryd.func22, Tryd.ntmps22
      go_wp2_with fail
      all_goals
        go_ret
        exact ⟨ret_bool (by rw [HV.out, Bool.eq_iff_iff]; simp [isVarT] <;> omega), (Below.refl _ _).alloc (Nat.le_refl _) _⟩
  · have HV : Hid (sureT c = sureOp c.op) := by show _ = _; rw [sureT, if_neg hs]
    have b : (c.op == 60) = false := beq_eq_false_iff_ne.2 (by omega)
    have h2 : ¬ 220 ≤ c.op := by omega
    clear hs hn hr
    go_enter Tryd.func22, Tryd.ntmps22
    go_wp2_with fail
    all_goals
      go_ret
      exact ⟨ret_bool (by rw [HV.out, Bool.eq_iff_iff]; simp [sureOp]; omega), (Below.refl _ _).alloc (Nat.le_refl _) _⟩
end Go.Proofs.YtppdelelgkepaaaDoor
