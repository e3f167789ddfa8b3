/- Which trees are taken: validTree of the program. A valid tree has its kids. -/
import Derived.Test.YtppdelelgkepaaaDoorValI
import Derived.Test.YtppdelelgkepaaaDoorCanF
namespace Go.Proofs.YtppdelelgkepaaaDoor
open Go.RowKit

/-- what a lone tree may refer to -/
def loneD : WdT := ⟨24, 12, 13, 8⟩
noncomputable def treeOk (c : CoreT) : Bool := decide (c.depth ≤ 400) && decide (c.nodes ≤ 40000) && validT loneD c true false
theorem wk_of {d : WdT} (c : CoreT) : ∀ loop create, validT d c loop create = true → c.WK := by
  refine CoreT.ind (P := fun c => ∀ loop create, validT d c loop create = true → c.WK) (fun c ih loop create hv => ?_) c
  obtain ⟨hn, hk⟩ := (validT_iff d c loop create).1 hv
  simp only [nodeOk, Bool.and_eq_true] at hn
  have h1 := hn.1.1.1.1
  simp only [headOk, Bool.and_eq_true, decide_eq_true_eq] at h1
  refine .mk h1.1.1.2 h1.1.2 fun x hx => ?_
  obtain ⟨j, hj⟩ := List.getElem?_of_mem hx
  exact ih x hx _ _ (hk j x hj)
theorem treeOk_wk {c : CoreT} (h : treeOk c = true) : c.WK := by
  simp only [treeOk, Bool.and_eq_true] at h
  exact wk_of c _ _ h.2

set_option maxRecDepth 100000 in
set_option maxHeartbeats 1000000 in
theorem impl_validTree (c : CoreT) (x : Value) (w : World) (lo hi : Nat) (h : CRep w lo hi x c) (hhi : hi ≤ w.heap.size) (hst : SpaceTab w) (hbk : c.bulk ≤ 1048576) :
    Calls Tryd.prog 16 #[x] w fun e w' => e = .returned (.bool (treeOk c)) ∧ Below w.heap.size w w' := by
  obtain ⟨A, cap, rfl, hk, hc1, hc2⟩ := h.form
  have HD := Lib.hid (impl_coreDepth c)
  have HC := Lib.hid (impl_CountCore c)
  have HV := Lib.hid (impl_validCore loneD c)
  have hw0 : Below w.heap.size w (w.alloc (.cells #[.int .i64 c.kind, .int .i64 c.op, .int .i64 c.number, .int .i64 c.line, .string c.text, .slice A c.kids.length cap] 29)) := (Below.refl _ _).alloc (Nat.le_refl _) _
  by_cases h1 : c.depth ≤ 400
  · by_cases h2 : c.nodes ≤ 40000
    · have HT : Hid (treeOk c = validT loneD c true false) := by show _ = _; rw [treeOk, decide_eq_true h1, decide_eq_true h2]; rfl
      go_enter Tryd.func16, Tryd.ntmps16
      go_wp2_with fail
      refine (HD.out _ _ lo hi (h.below hw0 hhi) (by simp; omega) hbk).mono ?_; rintro e w1 ⟨rfl, hb1⟩
      have a1 := (Blk.new w 29 #[.int .i64 c.kind, .int .i64 c.op, .int .i64 c.number, .int .i64 c.line, .string c.text, .slice A c.kids.length cap]).later hb1
      have hw1 : Below w.heap.size w w1 := hw0.trans (hb1.mono (by simp))
      have ca := a1.cell
      have la := a1.lt
      go_wp2_with fail
      refine (HC.out _ _ lo hi (h.below hw1 hhi) (Nat.le_trans hhi hw1.size) hbk).mono ?_; rintro e w2 ⟨rfl, hb2⟩
      have a2 := a1.later hb2
      have hw2 : Below w.heap.size w w2 := hw1.trans (hb2.mono hw1.size)
      clear ca la
      have ca := a2.cell
      have la := a2.lt
      go_wp2_with fail
      refine (HV.out _ true false _ lo hi (h.below hw2 hhi) (Nat.le_trans hhi hw2.size) (hst.below hw2 hst.2) hbk).mono ?_; rintro e w3 ⟨rfl, hb3⟩
      clear ca la
      go_wp2_with fail
      go_ret
      exact ⟨ret_bool HT.out.symm, hw2.trans (hb3.mono hw2.size)⟩
    · have HT : Hid (treeOk c = false) := by show _ = _; rw [treeOk, decide_eq_false h2]; simp
      go_enter Tryd.func16, Tryd.ntmps16
      go_wp2_with fail
      refine (HD.out _ _ lo hi (h.below hw0 hhi) (by simp; omega) hbk).mono ?_; rintro e w1 ⟨rfl, hb1⟩
      have a1 := (Blk.new w 29 #[.int .i64 c.kind, .int .i64 c.op, .int .i64 c.number, .int .i64 c.line, .string c.text, .slice A c.kids.length cap]).later hb1
      have hw1 : Below w.heap.size w w1 := hw0.trans (hb1.mono (by simp))
      have ca := a1.cell
      have la := a1.lt
      go_wp2_with fail
      refine (HC.out _ _ lo hi (h.below hw1 hhi) (Nat.le_trans hhi hw1.size) hbk).mono ?_; rintro e w2 ⟨rfl, hb2⟩
      have hw2 : Below w.heap.size w w2 := hw1.trans (hb2.mono hw1.size)
      clear ca la
      go_wp2_with fail
      go_ret
      exact ⟨ret_bool HT.out.symm, hw2⟩
  · have HT : Hid (treeOk c = false) := by show _ = _; rw [treeOk, decide_eq_false h1]; simp
    go_enter Tryd.func16, Tryd.ntmps16
    go_wp2_with fail
    refine (HD.out _ _ lo hi (h.below hw0 hhi) (by simp; omega) hbk).mono ?_; rintro e w1 ⟨rfl, hb1⟩
    have hw1 : Below w.heap.size w w1 := hw0.trans (hb1.mono (by simp))
    go_wp2_with fail
    go_ret
    exact ⟨ret_bool HT.out.symm, hw1⟩
end Go.Proofs.YtppdelelgkepaaaDoor
