/- l33Breaks of the reference. -/
import Derived.Test.YtppdelelgkepaaaDoorCanFn
namespace Go.Proofs.YtppdelelgkepaaaDoor
open Go.RowKit

set_option maxRecDepth 100000 in
set_option maxHeartbeats 1000000 in
theorem spec_l33Breaks_of (c : CoreT) (H : ∀ x ∈ c.kids, AskOk 25 CoreT.brk x) : AskOk 25 CoreT.brk c := by
  intro x w lo hi h hhi
  obtain ⟨A, cap, rfl, hk, hc1, hc2⟩ := h.form
  unfold maxLen at hc2
  have HH := Lib.hid H
  have HB := Lib.hid c.brk_eq
  clear H h
  by_cases h20 : c.kind = 20
  · have b : (c.kind == 20) = true := beq_iff_eq.2 h20
    have HT : Hid (c.brk = true) := by show _ = _; rw [HB.out, b]; rfl
    clear h20
    go_enter Tryd.func25, Tryd.ntmps25
    go_wp2_with fail
    go_ret
    exact ⟨ret_bool HT.out.symm, (Below.refl _ _).alloc (Nat.le_refl _) _⟩
  have b : (c.kind == 20) = false := beq_eq_false_iff_ne.2 h20
  have HT : Hid (c.brk = c.kids.any CoreT.brk) := by show _ = _; rw [HB.out, b]; rfl
  clear h20
  go_enter Tryd.func25, Tryd.ntmps25
  go_wp2_with fail
  go_loopw [3] (fun i wr => ∃ k : Nat, k ≤ c.kids.length ∧ i = .int .i64 k ∧ Hid ((c.kids.take k).any CoreT.brk = false) ∧ Below w.heap.size w wr ∧ Blk wr w.heap.size 29 #[.int .i64 c.kind, .int .i64 c.op, .int .i64 c.number, .int .i64 c.line, .string c.text, .slice A c.kids.length cap]) (fun i _ => c.kids.length - (intOf i).toNat)
  case atStart => exact ⟨0, Nat.zero_le _, rfl, by simp [Hid], (Below.refl _ _).alloc (Nat.le_refl _) _, Blk.new w _ _⟩
  case round =>
    obtain ⟨k, hk', rfl, hno, hb, ha⟩ := hrel
    obtain ⟨wo, rfl⟩ : ∃ wo : World, wo = wr := ⟨_, rfl⟩
    have hz := hb.size
    have ca := ha.cell 5
    simp only [List.getElem?_toArray, List.getElem?_cons_succ, List.getElem?_cons_zero] at ca
    by_cases hlt : k < c.kids.length
    · obtain ⟨g, off, kd, B, d, rfl, hg1, hg2, hkd, hmem, hrep, c0, c1, c2, c3, c4, c5⟩ := (hk.below hb hhi).kid hlt
      have HS := Lib.hid (HH.out kd hmem)
      cases hq : kd.brk with
      | true =>
        have HF : Hid (c.kids.any CoreT.brk = true) := List.any_eq_true.2 ⟨kd, hmem, hq⟩
        have HQ := Lib.hid hq
        clear hkd hq hno
        go_wp2_with fail
        refine (HS.out _ _ _ _ hrep (by omega)).mono ?_
        rw [HQ.out]
        rintro e w1 ⟨rfl, hb1⟩
        go_wp2_with fail
        go_ret
        exact ⟨ret_bool (by rw [HT.out, HF.out]), hb.trans (hb1.mono hz)⟩
      | false =>
        have HN : Hid ((c.kids.take (k + 1)).any CoreT.brk = false) := by show _ = _; rw [any_take_snoc hkd, hno.out, hq]; rfl
        have HQ := Lib.hid hq
        clear hkd hq hno
        go_wp2_with fail
        refine (HS.out _ _ _ _ hrep (by omega)).mono ?_
        rw [HQ.out]
        rintro e w1 ⟨rfl, hb1⟩
        have hb2 := hb.trans (hb1.mono hz)
        have ha1 := ha.later hb1
        clear c0 c1 c2 c3 c4 c5 hrep hb1 ca ha
        go_wp2_with fail
        go_roundw
        case rel => exact ⟨k + 1, by omega, by go_num, HN, hb2, ha1⟩
        case measure => simp [intOf]; omega
    · obtain rfl : k = c.kids.length := by omega
      rw [List.take_length] at hno
      go_wp2_with fail
      go_ret
      exact ⟨ret_bool (by rw [HT.out, hno.out]), hb⟩
theorem spec_l33Breaks (c : CoreT) : AskOk 25 CoreT.brk c := CoreT.ind spec_l33Breaks_of c
end Go.Proofs.YtppdelelgkepaaaDoor
