/- A Qa of a machine: is it Ml Of the program. -/
import Derived.Test.YtoddlphekcihgaaGreatDoorQ25
set_option maxRecDepth 100000
set_option maxHeartbeats 40000000
set_option linter.unusedVariables false
set_option linter.unusedSimpArgs false
namespace Go.Proofs.YtoddlphekcihgaaGreatDoor
open Go.RowKit
theorem Bp (m : eG) (k : Nat) (t : jS) (w : World) {g off lo hi : Nat} (h : At w g off lo hi eG.ay m) (hk : m.bY[k]? = some t) (hst : iw w) (hsv : sV m.store = true) :
 Calls Tryz.prog 53 #[.pointer (some ⟨g, off, none⟩), .int .i64 k] w fun e w' => e = .returned (.bool (zN m k t)) ∧ Below w.heap.size w w' := by
 generalize hV : zN m k t = V
 have HE : Hid (V = (jE m t && uX m k t && t.dZ.all (pN m.store) && t.dU.all (kF m.code.av.length) && t.eu.all (iD m) && t.dx.all (vL m) && t.eT.all (mI m.store))) := by rw [← hV]; rfl
 clear hV
 obtain ⟨AS, nS, hgm, hhi, hSr, uS, mS, cS⟩ := eG.Sm h
 unfold maxLen at mS
 obtain ⟨A0, n0, A4, n4, -, r1, r2, r3, r4, cr, ci⟩ := eG.lens h
 clear cr
 obtain ⟨g', off', As, ns, Am, nm, Ac, nc, Ah, nh, Ae, ne, rfl, hg1, hg2, -, hrep, q0, q1, q2, q3, q4, q5, q6, q7, q8, q9, q10, q11⟩ := jS.at_ hSr hk
 obtain ⟨hs, hm, hc, hh, he⟩ := jS.rows hrep
 obtain ⟨Ah', nh', hv1, uh, mh⟩ := hh.shape
 injection hv1 with e1 _ e2
 subst e1 e2
 unfold maxLen at mh
 clear hrep
 have hkl : (k : Int) < (m.bY.length : Int) := by have := (List.getElem?_eq_some_iff.1 hk).1; omega
 have hkn : k < m.bY.length := (List.getElem?_eq_some_iff.1 hk).1
 clear hk hSr
 obtain ⟨a0, hW⟩ := eZ w 111 #[.int .i64 t.state, .int .i64 t.entry, .int .i64 t.object, .int .i64 t.pc, .int .i64 t.frame, .slice As t.dZ.length ns, .slice Am t.dU.length nm, .slice Ac t.eu.length nc, .slice Ah t.dx.length nh, .slice Ae t.eT.length ne, .string t.dR, .int .i64 t.dL]
 go_enter Tryz.func53, Tryz.ntmps53
 go_upto_region 3 with fail
 clear q0 q1 q2 q3 q4 q5 q6 q7 q8 q9 q10 q11 cS
 replace ci := (hW.cell (p := ⟨g, off + 4, none⟩) hgm).trans ci
 replace hgm := nL hgm hW.size
 generalize w.alloc (.cells #[Value.int .i64 t.state, .int .i64 t.entry, .int .i64 t.object, .int .i64 t.pc, .int .i64 t.frame, .slice As t.dZ.length ns, .slice Am t.dU.length nm, .slice Ac t.eu.length nc, .slice Ah t.dx.length nh, .slice Ae t.eT.length ne, .string t.dR, .int .i64 t.dL] 111) = W at *
 have ca := a0.cell
 have la := a0.lt
 have hs0 := eG.qF (h.below hW)
 rcases dC (t.state < 0) with ⟨t0, d0⟩ | ⟨t0, d0⟩
 ·have HO : Hid (V = false) := lH (by rw [HE.out, show jE m t = false by rw [Bool.eq_false_iff]; intro h; simp [jE] at h; omega]; rfl)
  clear HE t0
  go_quiet (fail)
  go_wp2_with fail
  all_goals go_ret <;> exact ⟨ah (by first | rfl | exact HO.out.symm), (by first | exact hW | exact bN hW _ | exact aC hW)⟩
 rcases dC (2 < t.state) with ⟨t1, d1⟩ | ⟨t1, d1⟩
 ·have HO : Hid (V = false) := lH (by rw [HE.out, show jE m t = false by rw [Bool.eq_false_iff]; intro h; simp [jE] at h; omega]; rfl)
  clear HE t0 t1
  go_quiet (fail)
  go_wp2_with fail
  all_goals go_ret <;> exact ⟨ah (by first | rfl | exact HO.out.symm), (by first | exact hW | exact bN hW _ | exact aC hW)⟩
 rcases dC (t.entry < 0) with ⟨t2, d2⟩ | ⟨t2, d2⟩
 ·have HO : Hid (V = false) := lH (by rw [HE.out, show jE m t = false by rw [Bool.eq_false_iff]; intro h; simp [jE] at h; omega]; rfl)
  clear HE t0 t1 t2
  go_quiet (fail)
  go_wp2_with fail
  all_goals go_ret <;> exact ⟨ah (by first | rfl | exact HO.out.symm), (by first | exact hW | exact bN hW _ | exact aC hW)⟩
 rcases dC ((m.code.av.length : Int) ≤ t.entry) with ⟨t3, d3⟩ | ⟨t3, d3⟩
 ·have HO : Hid (V = false) := lH (by rw [HE.out, show jE m t = false by rw [Bool.eq_false_iff]; intro h; simp [jE] at h; omega]; rfl)
  clear HE t0 t1 t2 t3
  go_quiet (fail)
  go_wp2_with fail
  all_goals go_ret <;> exact ⟨ah (by first | rfl | exact HO.out.symm), (by first | exact hW | exact bN hW _ | exact aC hW)⟩
 rcases dC (t.pc < -1) with ⟨t4, d4⟩ | ⟨t4, d4⟩
 ·have HO : Hid (V = false) := lH (by rw [HE.out, show jE m t = false by rw [Bool.eq_false_iff]; intro h; simp [jE] at h; omega]; rfl)
  clear HE t0 t1 t2 t3 t4
  go_quiet (fail)
  go_wp2_with fail
  all_goals go_ret <;> exact ⟨ah (by first | rfl | exact HO.out.symm), (by first | exact hW | exact bN hW _ | exact aC hW)⟩
 rcases dC ((m.code.av.length : Int) < t.pc) with ⟨t5, d5⟩ | ⟨t5, d5⟩
 ·have HO : Hid (V = false) := lH (by rw [HE.out, show jE m t = false by rw [Bool.eq_false_iff]; intro h; simp [jE] at h; omega]; rfl)
  clear HE t0 t1 t2 t3 t4 t5
  go_quiet (fail)
  go_wp2_with fail
  all_goals go_ret <;> exact ⟨ah (by first | rfl | exact HO.out.symm), (by first | exact hW | exact bN hW _ | exact aC hW)⟩
 rcases dC ((120 : Int) < (t.dR.size : Int)) with ⟨t6, d6⟩ | ⟨t6, d6⟩
 ·have HO : Hid (V = false) := lH (by rw [HE.out, show jE m t = false by rw [Bool.eq_false_iff]; intro h; simp [jE] at h; omega]; rfl)
  clear HE t0 t1 t2 t3 t4 t5 t6
  go_quiet (fail)
  go_wp2_with fail
  all_goals go_ret <;> exact ⟨ah (by first | rfl | exact HO.out.symm), (by first | exact hW | exact bN hW _ | exact aC hW)⟩
 rcases dC (t.dL < 1) with ⟨t7, d7⟩ | ⟨t7, d7⟩
 ·have HO : Hid (V = false) := lH (by rw [HE.out, show jE m t = false by rw [Bool.eq_false_iff]; intro h; simp [jE] at h; omega]; rfl)
  clear HE t0 t1 t2 t3 t4 t5 t6 t7
  go_quiet (fail)
  go_wp2_with fail
  all_goals go_ret <;> exact ⟨ah (by first | rfl | exact HO.out.symm), (by first | exact hW | exact bN hW _ | exact aC hW)⟩
 have hwr : IntKind.i64.wrap ((t.dR.size : Int) + 1) = (t.dR.size : Int) + 1 := IntWalk.i64_in _ (by omega)
 rcases dC ((t.dR.size : Int) + 1 < t.dL) with ⟨t8, d8⟩ | ⟨t8, d8⟩
 ·have HO : Hid (V = false) := lH (by rw [HE.out, show jE m t = false by rw [Bool.eq_false_iff]; intro h; simp [jE] at h; omega]; rfl)
  clear HE t0 t1 t2 t3 t4 t5 t6 t7 t8
  go_quiet (fail)
  go_wp2_with fail
  all_goals go_ret <;> exact ⟨ah (by first | rfl | exact HO.out.symm), (by first | exact hW | exact bN hW _ | exact aC hW)⟩
 have HH : Hid (jE m t = kU m.store t.frame 1) := lH (by rw [jE, dT (by omega : 0 ≤ t.state), dT (by omega : t.state ≤ 2), dT (by omega : 0 ≤ t.entry), dT (by omega : t.entry < (m.code.av.length : Int)), dT (by omega : -1 ≤ t.pc), dT (by omega : t.pc ≤ (m.code.av.length : Int)), dT (by omega : t.dR.size ≤ 120), dT (by omega : 1 ≤ t.dL), dT (by omega : t.dL ≤ (t.dR.size : Int) + 1)]; rfl)
 clear t0 t1 t2 t3 t4 t5 t6 t7 t8
 cases hq : kU m.store t.frame 1 with
 | false =>
   have HQ := lH hq
   have HO : Hid (V = false) := lH (by rw [HE.out, HH.out, HQ.out]; rfl)
   clear HE HH hq
   go_quiet (first | (go_at_call 94; exact mR ((fF m.store t.frame 1 _ (hs0.drewN _)).mono fun _ _ ⟨a, b⟩ => ⟨a.trans (by rw [HQ.out]), b⟩)) | fail)
   go_wp2_with fail
   all_goals go_ret <;> exact ⟨ah (by first | rfl | exact HO.out.symm), (by first | exact hW | exact bN hW _ | exact aC hW)⟩
 | true =>
 have HQ := lH hq
 replace HE : Hid (V = (uX m k t && t.dZ.all (pN m.store) && t.dU.all (kF m.code.av.length) && t.eu.all (iD m) && t.dx.all (vL m) && t.eT.all (mI m.store))) := by show _ = _; rw [HE.out, HH.out, HQ.out]; simp [Bool.and_assoc]
 clear HH hq
 go_quiet (first | (go_at_call 94; exact mR ((fF m.store t.frame 1 _ (hs0.drewN _)).mono fun _ _ ⟨a, b⟩ => ⟨a.trans (by rw [HQ.out]), b⟩)) | fail)
 clear HQ hs0 hwr d0 d1 d2 d3 d4 d5 d6 d7 d8
 go_upto_region 5 with fail
 replace a0 := a0.drewN nq
 replace hW := bN hW nq
 clear ca la ci hgm
 generalize World.drewN W nq = W1 at *
 clear W
 obtain ⟨W, rfl⟩ : ∃ X : World, X = W1 := ⟨_, rfl⟩
 have ca := a0.cell
 have la := a0.lt
 have hs0 := eG.qF (h.below hW)
 by_cases k0 : k = 0
 ·have e0 : ((k : Int) == 0) = true := by simp [k0]
  have e1 : decide (0 < (k : Int)) = false := dF (by omega)
  have e2 : decide (0 < k) = false := dF (by omega)
  have HS : Hid (uX m k t = decide (t.object = 0)) := lH (by rw [uX, if_pos k0])
  clear k0
  by_cases o0 : t.object = 0
  rotate_left
  ·have e3 : (t.object != 0) = true := by simp [o0]
   have HO : Hid (V = false) := lH (by rw [HE.out, HS.out, dF o0]; rfl)
   clear HE HS o0
   go_quiet (fail)
   go_wp2_with fail
   all_goals go_ret <;> exact ⟨ah (by first | rfl | exact HO.out.symm), (by first | exact hW | exact bN hW _ | exact aC hW)⟩
  have e3 : (t.object != 0) = false := by simp [o0]
  replace HE : Hid (V = (t.dZ.all (pN m.store) && t.dU.all (kF m.code.av.length) && t.eu.all (iD m) && t.dx.all (vL m) && t.eT.all (mI m.store))) := by show _ = _; rw [HE.out, HS.out, dT o0, Bool.true_and]
  clear HS o0
  go_quiet (fail)
  clear hs0 e0 e1 e2 e3
  replace a0 := a0.drewN nq
  replace hW := bN hW nq
  clear ca la
  generalize World.drewN W nq = W1 at *
  clear W
  obtain ⟨W, rfl⟩ : ∃ X : World, X = W1 := ⟨_, rfl⟩
  have ca := a0.cell
  have la := a0.lt
  go_wp2_with fail
  go_loopw [118] (fun i wr => ∃ n : Nat, n ≤ t.dx.length ∧ i = .int .i64 n ∧ Hid ((t.dx.take n).all (vL m) = true) ∧ Below W.heap.size W wr) (fun i _ => t.dx.length - (intOf i).toNat)
  case atStart => exact ⟨0, nZ _, rfl, by simp [Hid], bR _ _⟩
  case round =>
   obtain ⟨i, hin, rfl, hgo, hb⟩ := hrel
   obtain ⟨wo, rfl⟩ := nW wr
   have hWo := hW.trans (hb.mono hW.size)
   have a1 := a0.later hb
   clear ca la
   have ca := a1.cell
   have la := a1.lt
   by_cases hlt : i < t.dx.length
   ·obtain ⟨c, hcc⟩ : ∃ c, t.dx[i]? = some c := ⟨_, gE hlt⟩
    obtain ⟨g2, off2, Bs, bs, Bm, bm, Bc, bc, Be, be, BG, bG, rfl, hg3, hg4, -, hrc, q0, q1, q2, q3, q4, q5, q6, q7, q8, q9, q10, q11, q12, q13⟩ := jG.at_ (hh.below hWo hhi) hcc
    have HN := lH (fun h => fJ (q := vL m) hcc hgo.out h)
    have HF := lH (fun h => lI (q := vL m) (mG hcc) h)
    clear hcc hgo
    have hba : Below W.heap.size W (wo.alloc (.cells #[Value.int .i64 c.kind, .int .i64 c.pc, .int .i64 c.frame, .int .i64 c.base, .int .i64 c.line, .int .i64 c.object, .slice Bs c.dZ.length bs, .slice Bm c.dU.length bm, .slice Bc c.eu.length bc, .slice Be c.cells.length be, .int .i64 c.gN, .int .i64 c.kJ, .int .i64 c.fQ, .slice BG c.fP.length bG] 160)) := hb.alloc hb.size _
    have hWa : Below w.heap.size w (wo.alloc (.cells #[Value.int .i64 c.kind, .int .i64 c.pc, .int .i64 c.frame, .int .i64 c.base, .int .i64 c.line, .int .i64 c.object, .slice Bs c.dZ.length bs, .slice Bm c.dU.length bm, .slice Bc c.eu.length bc, .slice Be c.cells.length be, .int .i64 c.gN, .int .i64 c.kJ, .int .i64 c.fQ, .slice BG c.fP.length bG] 160)) := hWo.alloc hWo.size _
    have b0 := Blk.new wo 160 #[Value.int .i64 c.kind, .int .i64 c.pc, .int .i64 c.frame, .int .i64 c.base, .int .i64 c.line, .int .i64 c.object, .slice Bs c.dZ.length bs, .slice Bm c.dU.length bm, .slice Bc c.eu.length bc, .slice Be c.cells.length be, .int .i64 c.gN, .int .i64 c.kJ, .int .i64 c.fQ, .slice BG c.fP.length bG]
    go_wp2_with fail
    refine (xC m c _ _ (h.below hWa) (hrc.below (bA _ _) (nT hhi hWo.size)) (nT hhi hWa.size) (hst.below hWa hst.2) hsv).mono ?_; rintro e w2 ⟨rfl, hb2⟩
    have hw2 := hba.trans (hb2.mono hba.size)
    clear q0 q1 q2 q3 q4 q5 q6 q7 q8 q9 q10 q11 q12 q13 hb2 hrc
    cases hq : vL m c with
    | true =>
      have HN := lH (HN.out hq)
      clear HF hq
      go_wp2_with fail
      go_roundw
      case rel => exact ⟨i + 1, by omega, by go_num, HN, hw2⟩
      case measure => simp [intOf]; omega
    | false =>
      have HF := lH (HF.out hq)
      have HO : Hid (V = false) := lH (by rw [HE.out, HF.out]; simp)
      clear HN HF HE hq
      go_wp2_with fail
      go_ret
      exact ⟨ah HO.out.symm, hW.trans (hw2.mono hW.size)⟩
   obtain rfl : i = t.dx.length := by omega
   rw [List.take_length] at hgo
   replace HE : Hid (V = (t.dZ.all (pN m.store) && t.dU.all (kF m.code.av.length) && t.eu.all (iD m) && t.eT.all (mI m.store))) := by show _ = _; rw [HE.out, hgo.out]; simp
   replace hW := hWo
   replace a0 := a1
   clear hlt hin hb a1 hWo hgo
   obtain ⟨W, rfl⟩ : ∃ X : World, X = wo := ⟨_, rfl⟩
   cases x0 : t.dZ.all (pN m.store) with
   | false =>
     have HX0 := lH x0
     have HO : Hid (V = false) := lH (by rw [HE.out, HX0.out]; simp)
     clear HE x0
     go_wp2_with (first | (go_at_call 51; refine (gB m t.dZ _ _ (h.below hW) (hs.below hW hhi) (nT hhi hW.size)).mono ?_; rw [HX0.out]; rintro e w1 ⟨rfl, hb1⟩; replace hb1 := nX hW a0 hb1; clear hW a0 ca la; obtain ⟨hW, a0, ca, la⟩ := hb1) | fail)
     go_wp2_with fail
     all_goals go_ret <;> exact ⟨ah (by first | rfl | exact HO.out.symm), (by first | exact hW | exact bN hW _ | exact aC hW)⟩
   | true =>
   have HX0 := lH x0
   clear x0
   cases x1 : t.dU.all (kF m.code.av.length) with
   | false =>
     have HX1 := lH x1
     have HO : Hid (V = false) := lH (by rw [HE.out, HX1.out]; simp)
     clear HE x1
     go_wp2_with (first | (go_at_call 51; refine (gB m t.dZ _ _ (h.below hW) (hs.below hW hhi) (nT hhi hW.size)).mono ?_; rw [HX0.out]; rintro e w1 ⟨rfl, hb1⟩; replace hb1 := nX hW a0 hb1; clear hW a0 ca la; obtain ⟨hW, a0, ca, la⟩ := hb1) | (go_at_call 100; refine (jH m t.dU _ _ (h.below hW) (hm.below hW hhi) (nT hhi hW.size)).mono ?_; rw [HX1.out]; rintro e w1 ⟨rfl, hb1⟩; replace hb1 := nX hW a0 hb1; clear hW a0 ca la; obtain ⟨hW, a0, ca, la⟩ := hb1) | fail)
     go_wp2_with fail
     all_goals go_ret <;> exact ⟨ah (by first | rfl | exact HO.out.symm), (by first | exact hW | exact bN hW _ | exact aC hW)⟩
   | true =>
   have HX1 := lH x1
   clear x1
   cases x2 : t.eu.all (iD m) with
   | false =>
     have HX2 := lH x2
     have HO : Hid (V = false) := lH (by rw [HE.out, HX2.out]; simp)
     clear HE x2
     go_wp2_with (first | (go_at_call 51; refine (gB m t.dZ _ _ (h.below hW) (hs.below hW hhi) (nT hhi hW.size)).mono ?_; rw [HX0.out]; rintro e w1 ⟨rfl, hb1⟩; replace hb1 := nX hW a0 hb1; clear hW a0 ca la; obtain ⟨hW, a0, ca, la⟩ := hb1) | (go_at_call 100; refine (jH m t.dU _ _ (h.below hW) (hm.below hW hhi) (nT hhi hW.size)).mono ?_; rw [HX1.out]; rintro e w1 ⟨rfl, hb1⟩; replace hb1 := nX hW a0 hb1; clear hW a0 ca la; obtain ⟨hW, a0, ca, la⟩ := hb1) | (go_at_call 101; refine (ny m t.eu _ _ (h.below hW) (hc.below hW hhi) (nT hhi hW.size)).mono ?_; rw [HX2.out]; rintro e w1 ⟨rfl, hb1⟩; replace hb1 := nX hW a0 hb1; clear hW a0 ca la; obtain ⟨hW, a0, ca, la⟩ := hb1) | fail)
     go_wp2_with fail
     all_goals go_ret <;> exact ⟨ah (by first | rfl | exact HO.out.symm), (by first | exact hW | exact bN hW _ | exact aC hW)⟩
   | true =>
   have HX2 := lH x2
   clear x2
   cases x3 : t.eT.all (mI m.store)
   have HX3 := lH x3
   have HO : Hid (V = false) := lH (by rw [HE.out, HX3.out]; simp)
   clear HE x3
   rotate_left
   have HX3 := lH x3
   clear x3
   have HO : Hid (V = true) := lH (by rw [HE.out, HX0.out, HX1.out, HX2.out, HX3.out]; rfl)
   clear HE
   iterate 2 focus
    go_wp2_with (first | (go_at_call 51; refine (gB m t.dZ _ _ (h.below hW) (hs.below hW hhi) (nT hhi hW.size)).mono ?_; rw [HX0.out]; rintro e w1 ⟨rfl, hb1⟩; replace hb1 := nX hW a0 hb1; clear hW a0 ca la; obtain ⟨hW, a0, ca, la⟩ := hb1) | (go_at_call 100; refine (jH m t.dU _ _ (h.below hW) (hm.below hW hhi) (nT hhi hW.size)).mono ?_; rw [HX1.out]; rintro e w1 ⟨rfl, hb1⟩; replace hb1 := nX hW a0 hb1; clear hW a0 ca la; obtain ⟨hW, a0, ca, la⟩ := hb1) | (go_at_call 101; refine (ny m t.eu _ _ (h.below hW) (hc.below hW hhi) (nT hhi hW.size)).mono ?_; rw [HX2.out]; rintro e w1 ⟨rfl, hb1⟩; replace hb1 := nX hW a0 hb1; clear hW a0 ca la; obtain ⟨hW, a0, ca, la⟩ := hb1) | (go_at_call 102; refine (rP m t.eT _ _ (h.below hW) (he.below hW hhi) (nT hhi hW.size)).mono ?_; rw [HX3.out]; rintro e w1 ⟨rfl, hb1⟩; replace hb1 := nX hW a0 hb1; clear hW a0 ca la; obtain ⟨hW, a0, ca, la⟩ := hb1) | fail)
    go_wp2_with fail
    all_goals go_ret <;> exact ⟨ah (by first | rfl | exact HO.out.symm), (by first | exact hW | exact bN hW _ | exact aC hW)⟩
 have e0 : ((k : Int) == 0) = false := by simp; omega
 have e1 : decide (0 < (k : Int)) = true := dT (by omega)
 have e2 : decide (0 < k) = true := dT (by omega)
 have HS : Hid (uX m k t = (kU m.store t.object 6 && decide (Gu m.store t.object = k))) := lH (by rw [uX, if_neg k0])
 clear k0
 generalize t.object = tob at *
 cases hq : kU m.store tob 6
 have HQ := lH hq
 have HO : Hid (V = false) := lH (by rw [HE.out, HS.out, HQ.out]; rfl)
 clear HE HS hq
 rotate_left
 have HQ := lH hq
 have hob : 0 ≤ tob ∧ tob < (m.store.aI.length : Int) := by
  constructor
  ·by_cases hn : tob < 0
   ·rw [uE hn] at hq; cases hq
   ·omega
  ·by_cases hn : tob < (m.store.aI.length : Int)
   ·exact hn
   ·rw [lJ (by omega)] at hq; cases hq
 clear hq
 obtain ⟨j, rfl⟩ : ∃ j : Nat, tob = j := ⟨tob.toNat, by omega⟩
 obtain ⟨ob, hcj⟩ : ∃ o, m.store.aI[j]? = some o := ⟨_, gE (by omega)⟩
 obtain ⟨AO, nO, hgm, -, hO, uO, mO, cO⟩ := eG.Sn (h.below hW)
 unfold maxLen at mO
 obtain ⟨g3, UN, Ai, ni, Ak, nk, rfl, -, -, -, -, p0, p1, p2, p3, p4⟩ := fV.at_ hO hcj
 have HT := lH (LK hcj)
 clear hO hcj p0 p2 p3 p4
 obtain ⟨Sq, Sr⟩ := hob
 rcases (Classical.em (ob.tag = k)).symm with tk | tk
 have e4 : (ob.tag != (k : Int)) = true := by simp [tk]
 have HO : Hid (V = false) := lH (by rw [HE.out, HS.out, HT.out, dF tk]; simp)
 clear HE HS tk
 rotate_left
 rotate_right 2
 iterate 2 focus
  go_quiet (first | (go_at_call 94; exact mR ((fF m.store _ 6 _ (hs0.drewN _)).mono fun _ _ ⟨a, b⟩ => ⟨a.trans (by rw [HQ.out]), b⟩)) | fail)
  go_wp2_with fail
  all_goals go_ret <;> exact ⟨ah (by first | rfl | exact HO.out.symm), (by first | exact hW | exact bN hW _ | exact aC hW)⟩
 have e4 : (ob.tag != (k : Int)) = false := by simp [tk]
 replace HE : Hid (V = (t.dZ.all (pN m.store) && t.dU.all (kF m.code.av.length) && t.eu.all (iD m) && t.dx.all (vL m) && t.eT.all (mI m.store))) := by show _ = _; rw [HE.out, HS.out, HQ.out, HT.out, dT tk]; rfl
 clear HS tk
 go_quiet (first | (go_at_call 94; exact mR ((fF m.store _ 6 _ (hs0.drewN _)).mono fun _ _ ⟨a, b⟩ => ⟨a.trans (by rw [HQ.out]), b⟩)) | fail)
 clear hs0 e0 e1 e2 e4 HQ p1 cO HT hgm Sq Sr uO mO
 replace a0 := a0.drewN nq
 replace hW := bN hW nq
 clear ca la
 generalize World.drewN W nq = W1 at *
 clear W
 obtain ⟨W, rfl⟩ : ∃ X : World, X = W1 := ⟨_, rfl⟩
 have ca := a0.cell
 have la := a0.lt
 go_wp2_with fail
 go_loopw [118] (fun i wr => ∃ n : Nat, n ≤ t.dx.length ∧ i = .int .i64 n ∧ Hid ((t.dx.take n).all (vL m) = true) ∧ Below W.heap.size W wr) (fun i _ => t.dx.length - (intOf i).toNat)
 case atStart => exact ⟨0, nZ _, rfl, by simp [Hid], bR _ _⟩
 case round =>
  obtain ⟨i, hin, rfl, hgo, hb⟩ := hrel
  obtain ⟨wo, rfl⟩ := nW wr
  have hWo := hW.trans (hb.mono hW.size)
  have a1 := a0.later hb
  clear ca la
  have ca := a1.cell
  have la := a1.lt
  by_cases hlt : i < t.dx.length
  ·obtain ⟨c, hcc⟩ : ∃ c, t.dx[i]? = some c := ⟨_, gE hlt⟩
   obtain ⟨g2, off2, Bs, bs, Bm, bm, Bc, bc, Be, be, BG, bG, rfl, hg3, hg4, -, hrc, q0, q1, q2, q3, q4, q5, q6, q7, q8, q9, q10, q11, q12, q13⟩ := jG.at_ (hh.below hWo hhi) hcc
   have HN := lH (fun h => fJ (q := vL m) hcc hgo.out h)
   have HF := lH (fun h => lI (q := vL m) (mG hcc) h)
   clear hcc hgo
   have hba : Below W.heap.size W (wo.alloc (.cells #[Value.int .i64 c.kind, .int .i64 c.pc, .int .i64 c.frame, .int .i64 c.base, .int .i64 c.line, .int .i64 c.object, .slice Bs c.dZ.length bs, .slice Bm c.dU.length bm, .slice Bc c.eu.length bc, .slice Be c.cells.length be, .int .i64 c.gN, .int .i64 c.kJ, .int .i64 c.fQ, .slice BG c.fP.length bG] 160)) := hb.alloc hb.size _
   have hWa : Below w.heap.size w (wo.alloc (.cells #[Value.int .i64 c.kind, .int .i64 c.pc, .int .i64 c.frame, .int .i64 c.base, .int .i64 c.line, .int .i64 c.object, .slice Bs c.dZ.length bs, .slice Bm c.dU.length bm, .slice Bc c.eu.length bc, .slice Be c.cells.length be, .int .i64 c.gN, .int .i64 c.kJ, .int .i64 c.fQ, .slice BG c.fP.length bG] 160)) := hWo.alloc hWo.size _
   have b0 := Blk.new wo 160 #[Value.int .i64 c.kind, .int .i64 c.pc, .int .i64 c.frame, .int .i64 c.base, .int .i64 c.line, .int .i64 c.object, .slice Bs c.dZ.length bs, .slice Bm c.dU.length bm, .slice Bc c.eu.length bc, .slice Be c.cells.length be, .int .i64 c.gN, .int .i64 c.kJ, .int .i64 c.fQ, .slice BG c.fP.length bG]
   go_wp2_with fail
   refine (xC m c _ _ (h.below hWa) (hrc.below (bA _ _) (nT hhi hWo.size)) (nT hhi hWa.size) (hst.below hWa hst.2) hsv).mono ?_; rintro e w2 ⟨rfl, hb2⟩
   have hw2 := hba.trans (hb2.mono hba.size)
   clear q0 q1 q2 q3 q4 q5 q6 q7 q8 q9 q10 q11 q12 q13 hb2 hrc
   cases hq : vL m c with
   | true =>
     have HN := lH (HN.out hq)
     clear HF hq
     go_wp2_with fail
     go_roundw
     case rel => exact ⟨i + 1, by omega, by go_num, HN, hw2⟩
     case measure => simp [intOf]; omega
   | false =>
     have HF := lH (HF.out hq)
     have HO : Hid (V = false) := lH (by rw [HE.out, HF.out]; simp)
     clear HN HF HE hq
     go_wp2_with fail
     go_ret
     exact ⟨ah HO.out.symm, hW.trans (hw2.mono hW.size)⟩
  obtain rfl : i = t.dx.length := by omega
  rw [List.take_length] at hgo
  replace HE : Hid (V = (t.dZ.all (pN m.store) && t.dU.all (kF m.code.av.length) && t.eu.all (iD m) && t.eT.all (mI m.store))) := by show _ = _; rw [HE.out, hgo.out]; simp
  replace hW := hWo
  replace a0 := a1
  clear hlt hin hb a1 hWo hgo
  obtain ⟨W, rfl⟩ : ∃ X : World, X = wo := ⟨_, rfl⟩
  cases x0 : t.dZ.all (pN m.store) with
  | false =>
    have HX0 := lH x0
    have HO : Hid (V = false) := lH (by rw [HE.out, HX0.out]; simp)
    clear HE x0
    go_wp2_with (first | (go_at_call 51; refine (gB m t.dZ _ _ (h.below hW) (hs.below hW hhi) (nT hhi hW.size)).mono ?_; rw [HX0.out]; rintro e w1 ⟨rfl, hb1⟩; replace hb1 := nX hW a0 hb1; clear hW a0 ca la; obtain ⟨hW, a0, ca, la⟩ := hb1) | fail)
    go_wp2_with fail
    all_goals go_ret <;> exact ⟨ah (by first | rfl | exact HO.out.symm), (by first | exact hW | exact bN hW _ | exact aC hW)⟩
  | true =>
  have HX0 := lH x0
  clear x0
  cases x1 : t.dU.all (kF m.code.av.length) with
  | false =>
    have HX1 := lH x1
    have HO : Hid (V = false) := lH (by rw [HE.out, HX1.out]; simp)
    clear HE x1
    go_wp2_with (first | (go_at_call 51; refine (gB m t.dZ _ _ (h.below hW) (hs.below hW hhi) (nT hhi hW.size)).mono ?_; rw [HX0.out]; rintro e w1 ⟨rfl, hb1⟩; replace hb1 := nX hW a0 hb1; clear hW a0 ca la; obtain ⟨hW, a0, ca, la⟩ := hb1) | (go_at_call 100; refine (jH m t.dU _ _ (h.below hW) (hm.below hW hhi) (nT hhi hW.size)).mono ?_; rw [HX1.out]; rintro e w1 ⟨rfl, hb1⟩; replace hb1 := nX hW a0 hb1; clear hW a0 ca la; obtain ⟨hW, a0, ca, la⟩ := hb1) | fail)
    go_wp2_with fail
    all_goals go_ret <;> exact ⟨ah (by first | rfl | exact HO.out.symm), (by first | exact hW | exact bN hW _ | exact aC hW)⟩
  | true =>
  have HX1 := lH x1
  clear x1
  cases x2 : t.eu.all (iD m) with
  | false =>
    have HX2 := lH x2
    have HO : Hid (V = false) := lH (by rw [HE.out, HX2.out]; simp)
    clear HE x2
    go_wp2_with (first | (go_at_call 51; refine (gB m t.dZ _ _ (h.below hW) (hs.below hW hhi) (nT hhi hW.size)).mono ?_; rw [HX0.out]; rintro e w1 ⟨rfl, hb1⟩; replace hb1 := nX hW a0 hb1; clear hW a0 ca la; obtain ⟨hW, a0, ca, la⟩ := hb1) | (go_at_call 100; refine (jH m t.dU _ _ (h.below hW) (hm.below hW hhi) (nT hhi hW.size)).mono ?_; rw [HX1.out]; rintro e w1 ⟨rfl, hb1⟩; replace hb1 := nX hW a0 hb1; clear hW a0 ca la; obtain ⟨hW, a0, ca, la⟩ := hb1) | (go_at_call 101; refine (ny m t.eu _ _ (h.below hW) (hc.below hW hhi) (nT hhi hW.size)).mono ?_; rw [HX2.out]; rintro e w1 ⟨rfl, hb1⟩; replace hb1 := nX hW a0 hb1; clear hW a0 ca la; obtain ⟨hW, a0, ca, la⟩ := hb1) | fail)
    go_wp2_with fail
    all_goals go_ret <;> exact ⟨ah (by first | rfl | exact HO.out.symm), (by first | exact hW | exact bN hW _ | exact aC hW)⟩
  | true =>
  have HX2 := lH x2
  clear x2
  cases x3 : t.eT.all (mI m.store)
  have HX3 := lH x3
  have HO : Hid (V = false) := lH (by rw [HE.out, HX3.out]; simp)
  clear HE x3
  rotate_left
  have HX3 := lH x3
  clear x3
  have HO : Hid (V = true) := lH (by rw [HE.out, HX0.out, HX1.out, HX2.out, HX3.out]; rfl)
  clear HE
  iterate 2 focus
   go_wp2_with (first | (go_at_call 51; refine (gB m t.dZ _ _ (h.below hW) (hs.below hW hhi) (nT hhi hW.size)).mono ?_; rw [HX0.out]; rintro e w1 ⟨rfl, hb1⟩; replace hb1 := nX hW a0 hb1; clear hW a0 ca la; obtain ⟨hW, a0, ca, la⟩ := hb1) | (go_at_call 100; refine (jH m t.dU _ _ (h.below hW) (hm.below hW hhi) (nT hhi hW.size)).mono ?_; rw [HX1.out]; rintro e w1 ⟨rfl, hb1⟩; replace hb1 := nX hW a0 hb1; clear hW a0 ca la; obtain ⟨hW, a0, ca, la⟩ := hb1) | (go_at_call 101; refine (ny m t.eu _ _ (h.below hW) (hc.below hW hhi) (nT hhi hW.size)).mono ?_; rw [HX2.out]; rintro e w1 ⟨rfl, hb1⟩; replace hb1 := nX hW a0 hb1; clear hW a0 ca la; obtain ⟨hW, a0, ca, la⟩ := hb1) | (go_at_call 102; refine (rP m t.eT _ _ (h.below hW) (he.below hW hhi) (nT hhi hW.size)).mono ?_; rw [HX3.out]; rintro e w1 ⟨rfl, hb1⟩; replace hb1 := nX hW a0 hb1; clear hW a0 ca la; obtain ⟨hW, a0, ca, la⟩ := hb1) | fail)
   go_wp2_with fail
   all_goals go_ret <;> exact ⟨ah (by first | rfl | exact HO.out.symm), (by first | exact hW | exact bN hW _ | exact aC hW)⟩
end Go.Proofs.YtoddlphekcihgaaGreatDoor
