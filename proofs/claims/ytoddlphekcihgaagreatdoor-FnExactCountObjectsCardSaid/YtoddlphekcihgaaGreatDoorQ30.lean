/- The rows of a machine: which are good, of the reference. -/
import Derived.Test.YtoddlphekcihgaaGreatDoorQ20
set_option maxRecDepth 100000
set_option maxHeartbeats 8000000
set_option linter.unusedVariables false
set_option linter.unusedSimpArgs false
namespace Go.Proofs.YtoddlphekcihgaaGreatDoor
open Go.RowKit
theorem jV (m : eG) (l : List aQ) (v : Value) (w : World) {g off lo hi lo' hi' : Nat} (h : At w g off lo hi eG.ay m) (hv : dz w lo' hi' 6 aQ.ay v l) (hhi : hi' ≤ w.heap.size) :
 Calls Tryz.prog 37 #[.pointer (some ⟨g, off, none⟩), v] w fun e w' => e = .returned (.bool (l.all (pN m.store))) ∧ Below w.heap.size w w' := by
 obtain ⟨A, cap, rfl, hc1, hc2⟩ := hv.shape
 unfold maxLen at hc2
 obtain ⟨A0, n0, A4, n4, hg, r1, r2, r3, r4, cr, ci⟩ := eG.lens h
 go_enter Tryz.func37, Tryz.ntmps37
 go_wp2_with fail
 go_loopw [5] (fun i wr => ∃ k : Nat, k ≤ l.length ∧ i = .int .i64 k ∧ Hid ((l.take k).all (pN m.store) = true) ∧ Below w.heap.size w wr) (fun i _ => l.length - (intOf i).toNat)
 case atStart => exact ⟨0, nZ _, rfl, by simp [Hid], bR _ _⟩
 case round =>
  obtain ⟨k, hk, rfl, hgo, hb⟩ := hrel
  obtain ⟨wo, rfl⟩ := nW wr
  have hz := hb.size
  have hgo' : g < wo.heap.size := nL hg hz
  replace cr := (hb.cell (p := ⟨g, off, none⟩) hg).trans cr
  replace ci := (hb.cell (p := ⟨g, off + 4, none⟩) hg).trans ci
  by_cases hlt : k < l.length
  ·obtain ⟨c, hc⟩ : ∃ c, l[k]? = some c := ⟨_, gE hlt⟩
   obtain ⟨g', off', rfl, hg1, hg2, hmem, hrep, q0, q1, q2, q3, q4, q5⟩ := aQ.at_ (hv.below hb hhi) hc
   have HN := lH (fun h => fJ (q := (pN m.store)) hc hgo.out h)
   have HF := lH (fun h => lI (q := (pN m.store)) (mG hc) h)
   clear hc hgo hmem hrep
   have hwa := hb
   have h0 := h.below hwa
   have hs0 := eG.qF h0
   go_upto_region 4 with fail
   by_cases Ma : 18 < c.kind
   ·have HV : pN m.store c = false := by rw [pN, dF (by omega)]; rfl
    have P8 := dT Ma
    go_quiet (fail)
    have HF := lH (HF.out HV)
    clear HN
    go_wp2_with fail
    go_ret
    exact ⟨ah HF.out.symm, (by first | exact hwa | exact bN hwa _ | exact aC hwa)⟩
   ·have HV : Hid (pN m.store c = cK m.store c) := lH (by rw [pN, dT (by omega)]; rfl)
    have P8 := dF Ma
    first | go_region_with (first | (go_at_call 76; refine (mH m.store c _ _ (by first | exact hs0 | exact hs0.drew | exact hs0.drewN _) (aQ.mk_ (lo := 0) (hi := 0))).mono ?_; rintro e w1 ⟨rfl, hb1⟩) | fail) | fail
    have hw1 : Below w.heap.size w w1 := ((by first | exact hwa | exact bN hwa _ | exact aC hwa) : Below w.heap.size w _).trans (hb1.mono (by first | exact hwa.size | simpa using hwa.size))
    clear q0 q1 q2 q3 q4 q5 hb1 h0 hs0
    cases hq : cK m.store c with
    | true =>
      have HN := lH (HN.out (HV.out.trans hq))
      clear HF
      go_wp2_with fail
      go_roundw
      case rel => exact ⟨k + 1, by omega, by go_num, HN, hw1⟩
      case measure => simp [intOf]; omega
    | false =>
      have HF := lH (HF.out (HV.out.trans hq))
      clear HN
      go_wp2_with fail
      go_ret
      exact ⟨ah HF.out.symm, hw1⟩
  ·obtain rfl : k = l.length := by omega
   rw [List.take_length] at hgo
   go_wp2_with fail
   go_ret
   exact ⟨ah hgo.out.symm, hb⟩
end Go.Proofs.YtoddlphekcihgaaGreatDoor
