/- A Qa of a machine: is it Ml Of the reference. Is a machine QH Of the reference. FP of the reference. TA, QZ of the laws. An ar -/
import Derived.Test.YtoddlphekcihgaaGreatDoorQ01
import Derived.Test.YtoddlphekcihgaaGreatDoorQ31
import Derived.Test.YtoddlphekcihgaaGreatDoorQ33
import Derived.Test.YtoddlphekcihgaaGreatDoorQ41
import Derived.Deep.Slices
import Derived.Deep.Fields
set_option maxRecDepth 100000
set_option maxHeartbeats 40000000
set_option linter.unusedVariables false
set_option linter.unusedSimpArgs false
namespace Go.Proofs.YtoddlphekcihgaaGreatDoor
section
open Go.RowKit
theorem CX (m : eG) (k : Nat) (t : jS) (w : World) {g off lo hi : Nat} (h : At w g off lo hi eG.ay m) (hk : m.bY[k]? = some t) :
 Calls Tryz.prog 39 #[.pointer (some ⟨g, off, none⟩), .int .i64 k] w fun e w' => e = .returned (.bool (zN m k t)) ∧ Below w.heap.size w w' := by
 generalize hV : zN m k t = V
 have HE : Hid (V = (jE m t && uX m k t && t.dZ.all (pN m.store) && t.dU.all (kF m.code.av.length) && t.eu.all (iD m) && t.dx.all (vL m) && t.eT.all (mI m.store))) := by rw [← hV]; rfl
 clear hV
 obtain ⟨AS, nS, hgm, hhi, hSr, uS, mS, cS⟩ := eG.Sm h
 unfold maxLen at mS
 obtain ⟨A0, n0, A4, n4, -, r1, r2, r3, r4, cr, ci⟩ := eG.lens h
 clear cr
 obtain ⟨g', off', As, ns, Am, nm, Ac, nc, Ah, nh, Ae, ne, rfl, hg1, hg2, -, hrep, q0, q1, q2, q3, q4, q5, q6, q7, q8, q9, q10, q11⟩ := jS.at_ hSr hk
 obtain ⟨hs, hm, hc, hh, he⟩ := jS.rows hrep
 obtain ⟨Ah', nh', hv1, uh, mh⟩ := hh.shape
 injection hv1 with e1 _ e2
 subst e1 e2
 unfold maxLen at mh
 clear hrep
 have hkl : (k : Int) < (m.bY.length : Int) := by have := (List.getElem?_eq_some_iff.1 hk).1; omega
 have hkn : k < m.bY.length := (List.getElem?_eq_some_iff.1 hk).1
 clear hk hSr
 obtain ⟨a0, hW⟩ := eZ w 111 #[.int .i64 t.state, .int .i64 t.entry, .int .i64 t.object, .int .i64 t.pc, .int .i64 t.frame, .slice As t.dZ.length ns, .slice Am t.dU.length nm, .slice Ac t.eu.length nc, .slice Ah t.dx.length nh, .slice Ae t.eT.length ne, .string t.dR, .int .i64 t.dL]
 go_enter Tryz.func39, Tryz.ntmps39
 go_upto_region 2 with fail
 dsimp only [List.append]
 clear q0 q1 q2 q3 q4 q5 q6 q7 q8 q9 q10 q11 cS
 replace ci := (hW.cell (p := ⟨g, off + 4, none⟩) hgm).trans ci
 replace hgm := nL hgm hW.size
 generalize w.alloc (.cells #[Value.int .i64 t.state, .int .i64 t.entry, .int .i64 t.object, .int .i64 t.pc, .int .i64 t.frame, .slice As t.dZ.length ns, .slice Am t.dU.length nm, .slice Ac t.eu.length nc, .slice Ah t.dx.length nh, .slice Ae t.eT.length ne, .string t.dR, .int .i64 t.dL] 111) = W at *
 have ca := a0.cell
 have la := a0.lt
 have kcb := qC (B := W.heap.size) a0 la
 have kci := aW (B := W.heap.size) ci hgm
 have hwl : IntKind.i64.wrap ((m.code.av.length : Int) - 1) = (m.code.av.length : Int) - 1 := IntWalk.i64_in _ (by omega)
 cases b0 : inB t.state 0 2 with
 | false =>
   have HK := lH b0
   have HO : Hid (V = false) := lH (by rw [HE.out, show jE m t = false by rw [Bool.eq_false_iff]; intro h; simp [jE] at h; simp [inB] at b0; omega]; rfl)
   clear HE b0
   as_aux_lemma =>
    refine fI (B := W.heap.size) (by kernel_rfl) (by kernel_rfl) ?_
    repeat (go_big_quiet_step (first | (go_at_call_of 36 (Value.int .i64 t.state); exact dB ((bJ t.state 0 (2) _).mono fun _ _ ⟨a, b⟩ => ⟨a.trans (by rw [HK.out]), b⟩)) | fail))
    refine wpQuiet_nil ?_
    intro w' hw'
    obtain ⟨v, rfl⟩ := hw'
    replace hW := Kept.of hW hW.size v
    go_wp2_with fail
    all_goals go_ret <;> exact ⟨ah (by first | rfl | exact HO.out.symm), (by first | exact hW | exact bN hW _ | exact aC hW)⟩
 | true =>
 have HK := lH b0
 have zb0 := b0
 simp [inB] at zb0
 have Zb0 := lH zb0
 clear b0 zb0
 cases b1 : inB t.entry 0 ((m.code.av.length : Int) - 1) with
 | false =>
   have HP := lH b1
   have HO : Hid (V = false) := lH (by rw [HE.out, show jE m t = false by rw [Bool.eq_false_iff]; intro h; simp [jE] at h; simp [inB] at b1; omega]; rfl)
   clear HE b1
   as_aux_lemma =>
    refine fI (B := W.heap.size) (by kernel_rfl) (by kernel_rfl) ?_
    repeat (go_big_quiet_step (first | (go_at_call_of 36 (Value.int .i64 t.state); exact dB ((bJ t.state 0 (2) _).mono fun _ _ ⟨a, b⟩ => ⟨a.trans (by rw [HK.out]), b⟩)) | (go_at_call_of 36 (Value.int .i64 t.entry); exact dB ((bJ t.entry 0 ((m.code.av.length : Int) - 1) _).mono fun _ _ ⟨a, b⟩ => ⟨a.trans (by rw [HP.out]), b⟩)) | fail))
    refine wpQuiet_nil ?_
    intro w' hw'
    obtain ⟨v, rfl⟩ := hw'
    replace hW := Kept.of hW hW.size v
    go_wp2_with fail
    all_goals go_ret <;> exact ⟨ah (by first | rfl | exact HO.out.symm), (by first | exact hW | exact bN hW _ | exact aC hW)⟩
 | true =>
 have HP := lH b1
 have zb1 := b1
 simp [inB] at zb1
 have Zb1 := lH zb1
 clear b1 zb1
 rcases dC (t.pc < -1) with ⟨t0, d0⟩ | ⟨t0, d0⟩
 ·have HO : Hid (V = false) := lH (by rw [HE.out, show jE m t = false by rw [Bool.eq_false_iff]; intro h; simp [jE] at h; omega]; rfl)
  clear HE t0
  as_aux_lemma =>
   refine fI (B := W.heap.size) (by kernel_rfl) (by kernel_rfl) ?_
   repeat (go_big_quiet_step (first | (go_at_call_of 36 (Value.int .i64 t.state); exact dB ((bJ t.state 0 (2) _).mono fun _ _ ⟨a, b⟩ => ⟨a.trans (by rw [HK.out]), b⟩)) | (go_at_call_of 36 (Value.int .i64 t.entry); exact dB ((bJ t.entry 0 ((m.code.av.length : Int) - 1) _).mono fun _ _ ⟨a, b⟩ => ⟨a.trans (by rw [HP.out]), b⟩)) | fail))
   refine wpQuiet_nil ?_
   intro w' hw'
   obtain ⟨v, rfl⟩ := hw'
   replace hW := Kept.of hW hW.size v
   go_wp2_with fail
   all_goals go_ret <;> exact ⟨ah (by first | rfl | exact HO.out.symm), (by first | exact hW | exact bN hW _ | exact aC hW)⟩
 rcases dC ((m.code.av.length : Int) < t.pc) with ⟨t1, d1⟩ | ⟨t1, d1⟩
 ·have HO : Hid (V = false) := lH (by rw [HE.out, show jE m t = false by rw [Bool.eq_false_iff]; intro h; simp [jE] at h; omega]; rfl)
  clear HE t0 t1
  as_aux_lemma =>
   refine fI (B := W.heap.size) (by kernel_rfl) (by kernel_rfl) ?_
   repeat (go_big_quiet_step (first | (go_at_call_of 36 (Value.int .i64 t.state); exact dB ((bJ t.state 0 (2) _).mono fun _ _ ⟨a, b⟩ => ⟨a.trans (by rw [HK.out]), b⟩)) | (go_at_call_of 36 (Value.int .i64 t.entry); exact dB ((bJ t.entry 0 ((m.code.av.length : Int) - 1) _).mono fun _ _ ⟨a, b⟩ => ⟨a.trans (by rw [HP.out]), b⟩)) | fail))
   refine wpQuiet_nil ?_
   intro w' hw'
   obtain ⟨v, rfl⟩ := hw'
   replace hW := Kept.of hW hW.size v
   go_wp2_with fail
   all_goals go_ret <;> exact ⟨ah (by first | rfl | exact HO.out.symm), (by first | exact hW | exact bN hW _ | exact aC hW)⟩
 cases b2 : kU m.store t.frame 1 with
 | false =>
   have HF1 := lH b2
   have HO : Hid (V = false) := lH (by rw [HE.out, show jE m t = false by rw [jE, HF1.out, Bool.and_false]]; rfl)
   clear HE b2 t0 t1
   as_aux_lemma =>
    refine fI (B := W.heap.size) (by kernel_rfl) (by kernel_rfl) ?_
    repeat (go_big_quiet_step (first | (go_at_call_of 36 (Value.int .i64 t.state); exact dB ((bJ t.state 0 (2) _).mono fun _ _ ⟨a, b⟩ => ⟨a.trans (by rw [HK.out]), b⟩)) | (go_at_call_of 36 (Value.int .i64 t.entry); exact dB ((bJ t.entry 0 ((m.code.av.length : Int) - 1) _).mono fun _ _ ⟨a, b⟩ => ⟨a.trans (by rw [HP.out]), b⟩)) | (go_at_call 77; exact dB ((gD m t.frame _ (h.below (Kept.of hW hW.size _))).mono fun _ _ ⟨a, b⟩ => ⟨a.trans (by rw [HF1.out]), b⟩)) | fail))
    refine wpQuiet_nil ?_
    intro w' hw'
    obtain ⟨v, rfl⟩ := hw'
    replace hW := Kept.of hW hW.size v
    go_wp2_with fail
    all_goals go_ret <;> exact ⟨ah (by first | rfl | exact HO.out.symm), (by first | exact hW | exact bN hW _ | exact aC hW)⟩
 | true =>
 have HF1 := lH b2
 clear b2
 cases x0 : t.dZ.all (pN m.store) with
 | false =>
   have HX0 := lH x0
   have HO : Hid (V = false) := lH (by rw [HE.out, HX0.out]; simp)
   clear HE x0 t0 t1
   as_aux_lemma =>
    refine fI (B := W.heap.size) (by kernel_rfl) (by kernel_rfl) ?_
    repeat (go_big_quiet_step (first | (go_at_call_of 36 (Value.int .i64 t.state); exact dB ((bJ t.state 0 (2) _).mono fun _ _ ⟨a, b⟩ => ⟨a.trans (by rw [HK.out]), b⟩)) | (go_at_call_of 36 (Value.int .i64 t.entry); exact dB ((bJ t.entry 0 ((m.code.av.length : Int) - 1) _).mono fun _ _ ⟨a, b⟩ => ⟨a.trans (by rw [HP.out]), b⟩)) | (go_at_call 77; exact dB ((gD m t.frame _ (h.below (Kept.of hW hW.size _))).mono fun _ _ ⟨a, b⟩ => ⟨a.trans (by rw [HF1.out]), b⟩)) | (go_at_call 37; exact fB (nR _) ((jV m t.dZ _ _ (h.below (Kept.of hW hW.size _)) (hs.below (Kept.of hW hW.size _) hhi) (nT hhi (Kept.of hW hW.size _).size)).mono fun _ _ ⟨a, b⟩ => ⟨a.trans (by rw [HX0.out]), b⟩)) | fail))
    refine wpQuiet_nil ?_
    intro w' hw'
    obtain ⟨v, rfl⟩ := hw'
    replace hW := Kept.of hW hW.size v
    go_wp2_with fail
    all_goals go_ret <;> exact ⟨ah (by first | rfl | exact HO.out.symm), (by first | exact hW | exact bN hW _ | exact aC hW)⟩
 | true =>
 have HX0 := lH x0
 clear x0
 cases x1 : t.dU.all (kF m.code.av.length) with
 | false =>
   have HX1 := lH x1
   have HO : Hid (V = false) := lH (by rw [HE.out, HX1.out]; simp)
   clear HE x1 t0 t1
   as_aux_lemma =>
    refine fI (B := W.heap.size) (by kernel_rfl) (by kernel_rfl) ?_
    repeat (go_big_quiet_step (first | (go_at_call_of 36 (Value.int .i64 t.state); exact dB ((bJ t.state 0 (2) _).mono fun _ _ ⟨a, b⟩ => ⟨a.trans (by rw [HK.out]), b⟩)) | (go_at_call_of 36 (Value.int .i64 t.entry); exact dB ((bJ t.entry 0 ((m.code.av.length : Int) - 1) _).mono fun _ _ ⟨a, b⟩ => ⟨a.trans (by rw [HP.out]), b⟩)) | (go_at_call 77; exact dB ((gD m t.frame _ (h.below (Kept.of hW hW.size _))).mono fun _ _ ⟨a, b⟩ => ⟨a.trans (by rw [HF1.out]), b⟩)) | (go_at_call 37; exact fB (nR _) ((jV m t.dZ _ _ (h.below (Kept.of hW hW.size _)) (hs.below (Kept.of hW hW.size _) hhi) (nT hhi (Kept.of hW hW.size _).size)).mono fun _ _ ⟨a, b⟩ => ⟨a.trans (by rw [HX0.out]), b⟩)) | (go_at_call 78; exact fB (nR _) ((nC m t.dU _ _ (h.below (Kept.of hW hW.size _)) (hm.below (Kept.of hW hW.size _) hhi) (nT hhi (Kept.of hW hW.size _).size)).mono fun _ _ ⟨a, b⟩ => ⟨a.trans (by rw [HX1.out]), b⟩)) | fail))
    refine wpQuiet_nil ?_
    intro w' hw'
    obtain ⟨v, rfl⟩ := hw'
    replace hW := Kept.of hW hW.size v
    go_wp2_with fail
    all_goals go_ret <;> exact ⟨ah (by first | rfl | exact HO.out.symm), (by first | exact hW | exact bN hW _ | exact aC hW)⟩
 | true =>
 have HX1 := lH x1
 clear x1
 cases x2 : t.eu.all (iD m) with
 | false =>
   have HX2 := lH x2
   have HO : Hid (V = false) := lH (by rw [HE.out, HX2.out]; simp)
   clear HE x2 t0 t1
   as_aux_lemma =>
    refine fI (B := W.heap.size) (by kernel_rfl) (by kernel_rfl) ?_
    repeat (go_big_quiet_step (first | (go_at_call_of 36 (Value.int .i64 t.state); exact dB ((bJ t.state 0 (2) _).mono fun _ _ ⟨a, b⟩ => ⟨a.trans (by rw [HK.out]), b⟩)) | (go_at_call_of 36 (Value.int .i64 t.entry); exact dB ((bJ t.entry 0 ((m.code.av.length : Int) - 1) _).mono fun _ _ ⟨a, b⟩ => ⟨a.trans (by rw [HP.out]), b⟩)) | (go_at_call 77; exact dB ((gD m t.frame _ (h.below (Kept.of hW hW.size _))).mono fun _ _ ⟨a, b⟩ => ⟨a.trans (by rw [HF1.out]), b⟩)) | (go_at_call 37; exact fB (nR _) ((jV m t.dZ _ _ (h.below (Kept.of hW hW.size _)) (hs.below (Kept.of hW hW.size _) hhi) (nT hhi (Kept.of hW hW.size _).size)).mono fun _ _ ⟨a, b⟩ => ⟨a.trans (by rw [HX0.out]), b⟩)) | (go_at_call 78; exact fB (nR _) ((nC m t.dU _ _ (h.below (Kept.of hW hW.size _)) (hm.below (Kept.of hW hW.size _) hhi) (nT hhi (Kept.of hW hW.size _).size)).mono fun _ _ ⟨a, b⟩ => ⟨a.trans (by rw [HX1.out]), b⟩)) | (go_at_call 79; exact fB (nR _) ((pF m t.eu _ _ (h.below (Kept.of hW hW.size _)) (hc.below (Kept.of hW hW.size _) hhi) (nT hhi (Kept.of hW hW.size _).size)).mono fun _ _ ⟨a, b⟩ => ⟨a.trans (by rw [HX2.out]), b⟩)) | fail))
    refine wpQuiet_nil ?_
    intro w' hw'
    obtain ⟨v, rfl⟩ := hw'
    replace hW := Kept.of hW hW.size v
    go_wp2_with fail
    all_goals go_ret <;> exact ⟨ah (by first | rfl | exact HO.out.symm), (by first | exact hW | exact bN hW _ | exact aC hW)⟩
 | true =>
 have HX2 := lH x2
 clear x2
 cases x3 : t.eT.all (mI m.store) with
 | false =>
   have HX3 := lH x3
   have HO : Hid (V = false) := lH (by rw [HE.out, HX3.out]; simp)
   clear HE x3 t0 t1
   as_aux_lemma =>
    refine fI (B := W.heap.size) (by kernel_rfl) (by kernel_rfl) ?_
    repeat (go_big_quiet_step (first | (go_at_call_of 36 (Value.int .i64 t.state); exact dB ((bJ t.state 0 (2) _).mono fun _ _ ⟨a, b⟩ => ⟨a.trans (by rw [HK.out]), b⟩)) | (go_at_call_of 36 (Value.int .i64 t.entry); exact dB ((bJ t.entry 0 ((m.code.av.length : Int) - 1) _).mono fun _ _ ⟨a, b⟩ => ⟨a.trans (by rw [HP.out]), b⟩)) | (go_at_call 77; exact dB ((gD m t.frame _ (h.below (Kept.of hW hW.size _))).mono fun _ _ ⟨a, b⟩ => ⟨a.trans (by rw [HF1.out]), b⟩)) | (go_at_call 37; exact fB (nR _) ((jV m t.dZ _ _ (h.below (Kept.of hW hW.size _)) (hs.below (Kept.of hW hW.size _) hhi) (nT hhi (Kept.of hW hW.size _).size)).mono fun _ _ ⟨a, b⟩ => ⟨a.trans (by rw [HX0.out]), b⟩)) | (go_at_call 78; exact fB (nR _) ((nC m t.dU _ _ (h.below (Kept.of hW hW.size _)) (hm.below (Kept.of hW hW.size _) hhi) (nT hhi (Kept.of hW hW.size _).size)).mono fun _ _ ⟨a, b⟩ => ⟨a.trans (by rw [HX1.out]), b⟩)) | (go_at_call 79; exact fB (nR _) ((pF m t.eu _ _ (h.below (Kept.of hW hW.size _)) (hc.below (Kept.of hW hW.size _) hhi) (nT hhi (Kept.of hW hW.size _).size)).mono fun _ _ ⟨a, b⟩ => ⟨a.trans (by rw [HX2.out]), b⟩)) | (go_at_call 80; exact fB (nR _) ((qp m t.eT _ _ (h.below (Kept.of hW hW.size _)) (he.below (Kept.of hW hW.size _) hhi) (nT hhi (Kept.of hW hW.size _).size)).mono fun _ _ ⟨a, b⟩ => ⟨a.trans (by rw [HX3.out]), b⟩)) | fail))
    refine wpQuiet_nil ?_
    intro w' hw'
    obtain ⟨v, rfl⟩ := hw'
    replace hW := Kept.of hW hW.size v
    go_wp2_with fail
    all_goals go_ret <;> exact ⟨ah (by first | rfl | exact HO.out.symm), (by first | exact hW | exact bN hW _ | exact aC hW)⟩
 | true =>
 have HX3 := lH x3
 clear x3
 rcases dC ((120 : Int) < (t.dR.size : Int)) with ⟨t2, d2⟩ | ⟨t2, d2⟩
 ·have HO : Hid (V = false) := lH (by rw [HE.out, show jE m t = false by rw [Bool.eq_false_iff]; intro h; simp [jE] at h; omega]; rfl)
  clear HE t0 t1 t2
  as_aux_lemma =>
   refine fI (B := W.heap.size) (by kernel_rfl) (by kernel_rfl) ?_
   repeat (go_big_quiet_step (first | (go_at_call_of 36 (Value.int .i64 t.state); exact dB ((bJ t.state 0 (2) _).mono fun _ _ ⟨a, b⟩ => ⟨a.trans (by rw [HK.out]), b⟩)) | (go_at_call_of 36 (Value.int .i64 t.entry); exact dB ((bJ t.entry 0 ((m.code.av.length : Int) - 1) _).mono fun _ _ ⟨a, b⟩ => ⟨a.trans (by rw [HP.out]), b⟩)) | (go_at_call 77; exact dB ((gD m t.frame _ (h.below (Kept.of hW hW.size _))).mono fun _ _ ⟨a, b⟩ => ⟨a.trans (by rw [HF1.out]), b⟩)) | (go_at_call 37; exact fB (nR _) ((jV m t.dZ _ _ (h.below (Kept.of hW hW.size _)) (hs.below (Kept.of hW hW.size _) hhi) (nT hhi (Kept.of hW hW.size _).size)).mono fun _ _ ⟨a, b⟩ => ⟨a.trans (by rw [HX0.out]), b⟩)) | (go_at_call 78; exact fB (nR _) ((nC m t.dU _ _ (h.below (Kept.of hW hW.size _)) (hm.below (Kept.of hW hW.size _) hhi) (nT hhi (Kept.of hW hW.size _).size)).mono fun _ _ ⟨a, b⟩ => ⟨a.trans (by rw [HX1.out]), b⟩)) | (go_at_call 79; exact fB (nR _) ((pF m t.eu _ _ (h.below (Kept.of hW hW.size _)) (hc.below (Kept.of hW hW.size _) hhi) (nT hhi (Kept.of hW hW.size _).size)).mono fun _ _ ⟨a, b⟩ => ⟨a.trans (by rw [HX2.out]), b⟩)) | (go_at_call 80; exact fB (nR _) ((qp m t.eT _ _ (h.below (Kept.of hW hW.size _)) (he.below (Kept.of hW hW.size _) hhi) (nT hhi (Kept.of hW hW.size _).size)).mono fun _ _ ⟨a, b⟩ => ⟨a.trans (by rw [HX3.out]), b⟩)) | fail))
   refine wpQuiet_nil ?_
   intro w' hw'
   obtain ⟨v, rfl⟩ := hw'
   replace hW := Kept.of hW hW.size v
   go_wp2_with fail
   all_goals go_ret <;> exact ⟨ah (by first | rfl | exact HO.out.symm), (by first | exact hW | exact bN hW _ | exact aC hW)⟩
 have hws : IntKind.i64.wrap ((t.dR.size : Int) + 1) = (t.dR.size : Int) + 1 := IntWalk.i64_in _ (by omega)
 cases b3 : inB t.dL 1 ((t.dR.size : Int) + 1) with
 | false =>
   have HPO := lH b3
   have HO : Hid (V = false) := lH (by rw [HE.out, show jE m t = false by rw [Bool.eq_false_iff]; intro h; simp [jE] at h; simp [inB] at b3; omega]; rfl)
   clear HE b3
   as_aux_lemma =>
    refine fI (B := W.heap.size) (by kernel_rfl) (by kernel_rfl) ?_
    repeat (go_big_quiet_step (first | (go_at_call_of 36 (Value.int .i64 t.state); exact dB ((bJ t.state 0 (2) _).mono fun _ _ ⟨a, b⟩ => ⟨a.trans (by rw [HK.out]), b⟩)) | (go_at_call_of 36 (Value.int .i64 t.entry); exact dB ((bJ t.entry 0 ((m.code.av.length : Int) - 1) _).mono fun _ _ ⟨a, b⟩ => ⟨a.trans (by rw [HP.out]), b⟩)) | (go_at_call 77; exact dB ((gD m t.frame _ (h.below (Kept.of hW hW.size _))).mono fun _ _ ⟨a, b⟩ => ⟨a.trans (by rw [HF1.out]), b⟩)) | (go_at_call 37; exact fB (nR _) ((jV m t.dZ _ _ (h.below (Kept.of hW hW.size _)) (hs.below (Kept.of hW hW.size _) hhi) (nT hhi (Kept.of hW hW.size _).size)).mono fun _ _ ⟨a, b⟩ => ⟨a.trans (by rw [HX0.out]), b⟩)) | (go_at_call 78; exact fB (nR _) ((nC m t.dU _ _ (h.below (Kept.of hW hW.size _)) (hm.below (Kept.of hW hW.size _) hhi) (nT hhi (Kept.of hW hW.size _).size)).mono fun _ _ ⟨a, b⟩ => ⟨a.trans (by rw [HX1.out]), b⟩)) | (go_at_call 79; exact fB (nR _) ((pF m t.eu _ _ (h.below (Kept.of hW hW.size _)) (hc.below (Kept.of hW hW.size _) hhi) (nT hhi (Kept.of hW hW.size _).size)).mono fun _ _ ⟨a, b⟩ => ⟨a.trans (by rw [HX2.out]), b⟩)) | (go_at_call 80; exact fB (nR _) ((qp m t.eT _ _ (h.below (Kept.of hW hW.size _)) (he.below (Kept.of hW hW.size _) hhi) (nT hhi (Kept.of hW hW.size _).size)).mono fun _ _ ⟨a, b⟩ => ⟨a.trans (by rw [HX3.out]), b⟩)) | (go_at_call_of 36 (Value.int .i64 t.dL); exact dB ((bJ t.dL 1 ((t.dR.size : Int) + 1) _).mono fun _ _ ⟨a, b⟩ => ⟨a.trans (by rw [HPO.out]), b⟩)) | fail))
    refine wpQuiet_nil ?_
    intro w' hw'
    obtain ⟨v, rfl⟩ := hw'
    replace hW := Kept.of hW hW.size v
    go_wp2_with fail
    all_goals go_ret <;> exact ⟨ah (by first | rfl | exact HO.out.symm), (by first | exact hW | exact bN hW _ | exact aC hW)⟩
 | true =>
 have HPO := lH b3
 have zb3 := b3
 simp [inB] at zb3
 have Zb3 := lH zb3
 clear b3 zb3
 replace HE : Hid (V = (uX m k t && t.dx.all (vL m))) := by
  show _ = _
  have z0 := Zb0.out
  have z1 := Zb1.out
  have z3 := Zb3.out
  rw [HE.out, jE, dT z0.1, dT z0.2, dT z1.1, dT (by omega : t.entry < (m.code.av.length : Int)), dT (by omega : -1 ≤ t.pc), dT (by omega : t.pc ≤ (m.code.av.length : Int)), dT (by omega : t.dR.size ≤ 120), dT z3.1, dT z3.2, HF1.out, HX0.out, HX1.out, HX2.out, HX3.out]; simp
 clear t0 t1 t2
 refine fI (B := W.heap.size) (by kernel_rfl) (by kernel_rfl) ?_
 repeat (go_big_quiet_step (first | (go_at_call_of 36 (Value.int .i64 t.state); exact dB ((bJ t.state 0 (2) _).mono fun _ _ ⟨a, b⟩ => ⟨a.trans (by rw [HK.out]), b⟩)) | (go_at_call_of 36 (Value.int .i64 t.entry); exact dB ((bJ t.entry 0 ((m.code.av.length : Int) - 1) _).mono fun _ _ ⟨a, b⟩ => ⟨a.trans (by rw [HP.out]), b⟩)) | (go_at_call 77; exact dB ((gD m t.frame _ (h.below (Kept.of hW hW.size _))).mono fun _ _ ⟨a, b⟩ => ⟨a.trans (by rw [HF1.out]), b⟩)) | (go_at_call 37; exact fB (nR _) ((jV m t.dZ _ _ (h.below (Kept.of hW hW.size _)) (hs.below (Kept.of hW hW.size _) hhi) (nT hhi (Kept.of hW hW.size _).size)).mono fun _ _ ⟨a, b⟩ => ⟨a.trans (by rw [HX0.out]), b⟩)) | (go_at_call 78; exact fB (nR _) ((nC m t.dU _ _ (h.below (Kept.of hW hW.size _)) (hm.below (Kept.of hW hW.size _) hhi) (nT hhi (Kept.of hW hW.size _).size)).mono fun _ _ ⟨a, b⟩ => ⟨a.trans (by rw [HX1.out]), b⟩)) | (go_at_call 79; exact fB (nR _) ((pF m t.eu _ _ (h.below (Kept.of hW hW.size _)) (hc.below (Kept.of hW hW.size _) hhi) (nT hhi (Kept.of hW hW.size _).size)).mono fun _ _ ⟨a, b⟩ => ⟨a.trans (by rw [HX2.out]), b⟩)) | (go_at_call 80; exact fB (nR _) ((qp m t.eT _ _ (h.below (Kept.of hW hW.size _)) (he.below (Kept.of hW hW.size _) hhi) (nT hhi (Kept.of hW hW.size _).size)).mono fun _ _ ⟨a, b⟩ => ⟨a.trans (by rw [HX3.out]), b⟩)) | (go_at_call_of 36 (Value.int .i64 t.dL); exact dB ((bJ t.dL 1 ((t.dR.size : Int) + 1) _).mono fun _ _ ⟨a, b⟩ => ⟨a.trans (by rw [HPO.out]), b⟩)) | fail))
 refine wpQuiet_nil ?_
 intro w' hw'
 obtain ⟨v, rfl⟩ := hw'
 clear HK HP HF1 HX0 HX1 HX2 HX3 HPO Zb0 Zb1 Zb3 d0 d1 d2 hwl hws
 replace hW := Kept.of hW hW.size v
 replace a0 := a0.later v.below
 clear ca la ci kcb kci hgm
 generalize v.out = W1 at *
 skip
 as_aux_lemma =>
  obtain ⟨W2, rfl⟩ : ∃ X : World, X = W1 := ⟨_, rfl⟩
  have ca := a0.cell
  have la := a0.lt
  go_wp2_with fail
  go_loopw [6] (fun i wr => ∃ n : Nat, n ≤ t.dx.length ∧ i = .int .i64 n ∧ Hid ((t.dx.take n).all (vL m) = true) ∧ Below W2.heap.size W2 wr) (fun i _ => t.dx.length - (intOf i).toNat)
  case atStart => exact ⟨0, nZ _, rfl, by simp [Hid], bR _ _⟩
  case round =>
   obtain ⟨i, hin, rfl, hgo, hb⟩ := hrel
   obtain ⟨wo, rfl⟩ := nW wr
   have hWo := hW.trans (hb.mono hW.size)
   have a1 := a0.later hb
   clear ca la
   have ca := a1.cell
   have la := a1.lt
   by_cases hlt : i < t.dx.length
   ·obtain ⟨c, hcc⟩ : ∃ c, t.dx[i]? = some c := ⟨_, gE hlt⟩
    obtain ⟨g2, off2, Bs, bs, Bm, bm, Bc, bc, Be, be, BG, bG, rfl, hg3, hg4, -, hrc, q0, q1, q2, q3, q4, q5, q6, q7, q8, q9, q10, q11, q12, q13⟩ := jG.at_ (hh.below hWo hhi) hcc
    have HN := lH (fun h => fJ (q := vL m) hcc hgo.out h)
    have HF := lH (fun h => lI (q := vL m) (mG hcc) h)
    clear hcc hgo
    have hba := hb
    have hWa := hWo
    go_wp2_with fail
    refine (CV m c _ _ (h.below hWa) (hrc.below (bR _ _) (nT hhi hWo.size)) (nT hhi hWa.size)).mono ?_; rintro e w2 ⟨rfl, hb2⟩
    have hw2 := hba.trans (hb2.mono hba.size)
    clear q0 q1 q2 q3 q4 q5 q6 q7 q8 q9 q10 q11 q12 q13 hb2 hrc
    cases hq : vL m c with
    | true =>
      have HN := lH (HN.out hq)
      clear HF hq
      go_wp2_with fail
      go_roundw
      case rel => exact ⟨i + 1, by omega, by go_num, HN, hw2⟩
      case measure => simp [intOf]; omega
    | false =>
      have HF := lH (HF.out hq)
      have HO : Hid (V = false) := lH (by rw [HE.out, HF.out]; simp)
      clear HN HF HE hq
      go_wp2_with fail
      go_ret
      exact ⟨ah HO.out.symm, hW.trans (hw2.mono hW.size)⟩
   obtain rfl : i = t.dx.length := by omega
   rw [List.take_length] at hgo
   replace HE : Hid (V = (uX m k t)) := by show _ = _; rw [HE.out, hgo.out]; simp
   replace hW := hWo
   replace a0 := a1
   clear hlt hin hb a1 hWo hgo
   obtain ⟨W3, rfl⟩ : ∃ X : World, X = wo := ⟨_, rfl⟩
   by_cases k0 : k = 0
   ·have e0 : ((k : Int) == 0) = true := by simp [k0]
    have HO : Hid (V = (t.object == 0)) := lH (by rw [HE.out, uX, if_pos k0]; by_cases z : t.object = 0 <;> simp [z])
    clear HE k0
    go_wp2_with fail
    all_goals go_ret <;> exact ⟨ah (by first | rfl | exact HO.out.symm), (by first | exact hW | exact bN hW _ | exact aC hW)⟩
   have e0 : ((k : Int) == 0) = false := by simp; omega
   replace HE : Hid (V = (kU m.store t.object 6 && decide (Gu m.store t.object = k))) := by show _ = _; rw [HE.out, uX, if_neg k0]
   clear k0
   generalize t.object = tob at *
   obtain ⟨AO, nO, hgm, -, hO, uO, mO, cO⟩ := eG.Sn (h.below hW)
   unfold maxLen at mO
   have hwo : IntKind.i64.wrap ((m.store.aI.length : Int) - 1) = (m.store.aI.length : Int) - 1 := IntWalk.i64_in _ (by omega)
   go_upto_region 11 with fail
   cases hq : inB tob 0 ((m.store.aI.length : Int) - 1)
   have HQ := lH hq
   have HO : Hid (V = false) := by
    show _ = _
    simp [inB] at hq
    rw [HE.out]
    by_cases hn : tob < 0
    ·rw [uE hn]; rfl
    ·rw [lJ (by omega)]; rfl
   clear HE hq hO
   rotate_left
   have HQ := lH hq
   simp [inB] at hq
   obtain ⟨Sq, TB⟩ := hq
   have Sr : tob < (m.store.aI.length : Int) := by omega
   clear TB
   obtain ⟨j, rfl⟩ : ∃ j : Nat, tob = j := ⟨tob.toNat, by omega⟩
   obtain ⟨ob, hcj⟩ : ∃ o, m.store.aI[j]? = some o := ⟨_, gE (by omega)⟩
   obtain ⟨g3, UN, Ai, ni, Ak, nk, rfl, -, -, -, -, p0, p1, p2, p3, p4⟩ := fV.at_ hO hcj
   have HT := lH (LK hcj)
   have HO6 := lH (nP (k := 6) hcj)
   clear hO hcj p2 p3 p4
   rcases (Classical.em (ob.kind = 6)).symm with k6 | k6
   have e6 : (ob.kind == 6) = false := by simp [k6]
   have HO : Hid (V = false) := lH (by rw [HE.out, HO6.out, dF k6]; rfl)
   clear HE k6
   rotate_left
   have e6 : (ob.kind == 6) = true := by simp [k6]
   have HO : Hid (V = (ob.tag == (k : Int))) := lH (by rw [HE.out, HO6.out, dT k6, HT.out]; by_cases z : ob.tag = k <;> simp [z])
   clear HE k6
   iterate 3 focus
    go_quiet (first | (go_at_call 36; exact mR ((bJ _ 0 ((m.store.aI.length : Int) - 1) _).mono fun _ _ ⟨a, b⟩ => ⟨a.trans (by rw [HQ.out]), b⟩)) | fail)
    go_wp2_with fail
    all_goals go_ret <;> exact ⟨ah (by first | rfl | exact HO.out.symm), (by first | exact hW | exact bN hW _ | exact aC hW)⟩
end
end Go.Proofs.YtoddlphekcihgaaGreatDoor
