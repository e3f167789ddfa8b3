/- The rows of a machine: which are good, of the reference. A choice of a machine: is it Ml Of the reference. -/
import Derived.Test.YtoddlphekcihgaaGreatDoorQ23
import Derived.Test.YtoddlphekcihgaaGreatDoorQ29
import Derived.Test.YtoddlphekcihgaaGreatDoorQ30
set_option maxRecDepth 100000
set_option maxHeartbeats 8000000
set_option linter.unusedVariables false
set_option linter.unusedSimpArgs false
namespace Go.Proofs.YtoddlphekcihgaaGreatDoor
open Go.RowKit
theorem pF (m : eG) (l : List kG) (v : Value) (w : World) {g off lo hi lo' hi' : Nat} (h : At w g off lo hi eG.ay m) (hv : dz w lo' hi' 8 kG.ay v l) (hhi : hi' ≤ w.heap.size) :
 Calls Tryz.prog 79 #[.pointer (some ⟨g, off, none⟩), v] w fun e w' => e = .returned (.bool (l.all (iD m))) ∧ Below w.heap.size w w' := by
 obtain ⟨A, cap, rfl, hc1, hc2⟩ := hv.shape
 unfold maxLen at hc2
 obtain ⟨A0, n0, A4, n4, hg, r1, r2, r3, r4, cr, ci⟩ := eG.lens h
 go_enter Tryz.func79, Tryz.ntmps79
 go_wp2_with fail
 go_loopw [5] (fun i wr => ∃ k : Nat, k ≤ l.length ∧ i = .int .i64 k ∧ Hid ((l.take k).all (iD m) = true) ∧ Below w.heap.size w wr) (fun i _ => l.length - (intOf i).toNat)
 case atStart => exact ⟨0, nZ _, rfl, by simp [Hid], bR _ _⟩
 case round =>
  obtain ⟨k, hk, rfl, hgo, hb⟩ := hrel
  obtain ⟨wo, rfl⟩ := nW wr
  have hz := hb.size
  have hgo' : g < wo.heap.size := nL hg hz
  replace cr := (hb.cell (p := ⟨g, off, none⟩) hg).trans cr
  replace ci := (hb.cell (p := ⟨g, off + 4, none⟩) hg).trans ci
  by_cases hlt : k < l.length
  ·obtain ⟨c, hc⟩ : ∃ c, l[k]? = some c := ⟨_, gE hlt⟩
   obtain ⟨g', off', rfl, hg1, hg2, hmem, hrep, q0, q1, q2, q3, q4, q5, q6, q7⟩ := kG.at_ (hv.below hb hhi) hc
   have HN := lH (fun h => fJ (q := (iD m)) hc hgo.out h)
   have HF := lH (fun h => lI (q := (iD m)) (mG hc) h)
   clear hc hgo hmem hrep
   have hwa : Below w.heap.size w (wo.alloc (.cells #[Value.int .i64 c.ret, .int .i64 c.frame, .int .i64 c.routine, .int .i64 c.height, .int .i64 c.dU, .int .i64 c.dx, .int .i64 c.eT, .int .i64 c.line] 210)) := hb.alloc hz _
   have h0 := h.below hwa
   have hga : g < (wo.alloc (.cells #[Value.int .i64 c.ret, .int .i64 c.frame, .int .i64 c.routine, .int .i64 c.height, .int .i64 c.dU, .int .i64 c.dx, .int .i64 c.eT, .int .i64 c.line] 210)).heap.size := nL hg hwa.size
   have a0 := Blk.new wo 210 #[Value.int .i64 c.ret, .int .i64 c.frame, .int .i64 c.routine, .int .i64 c.height, .int .i64 c.dU, .int .i64 c.dx, .int .i64 c.eT, .int .i64 c.line]
   have hs0 := eG.qF h0
   go_upto_region 5 with fail
   have hwr : IntKind.i64.wrap ((m.code.au.length : Int) - 1) = (m.code.au.length : Int) - 1 := IntWalk.i64_in _ (by omega)
   rcases dC (c.ret < -1) with ⟨t0, d0⟩ | ⟨t0, d0⟩
   ·have HV : iD m c = false := by rw [Bool.eq_false_iff]; intro h; simp [iD] at h; omega
    clear t0
    go_quiet (first | (go_at_call 77; exact mR ((gD m c.frame _ (h0.drewN _)).mono fun _ _ ⟨a, b⟩ => ⟨a.trans (by rw [HF1.out]), b⟩)) | (go_at_call 36; exact mR ((bJ _ 0 _ _).mono fun _ _ ⟨a, b⟩ => ⟨a.trans (by rw [HR.out]), b⟩)) | fail)
    have HF := lH (HF.out HV)
    clear HN
    go_wp2_with fail
    go_ret
    exact ⟨ah HF.out.symm, (by first | exact hwa | exact bN hwa _ | exact aC hwa)⟩
   rcases dC ((m.code.av.length : Int) < c.ret) with ⟨t1, d1⟩ | ⟨t1, d1⟩
   ·have HV : iD m c = false := by rw [Bool.eq_false_iff]; intro h; simp [iD] at h; omega
    clear t1
    go_quiet (first | (go_at_call 77; exact mR ((gD m c.frame _ (h0.drewN _)).mono fun _ _ ⟨a, b⟩ => ⟨a.trans (by rw [HF1.out]), b⟩)) | (go_at_call 36; exact mR ((bJ _ 0 _ _).mono fun _ _ ⟨a, b⟩ => ⟨a.trans (by rw [HR.out]), b⟩)) | fail)
    have HF := lH (HF.out HV)
    clear HN
    go_wp2_with fail
    go_ret
    exact ⟨ah HF.out.symm, (by first | exact hwa | exact bN hwa _ | exact aC hwa)⟩
   cases hf : kU m.store c.frame 1
   have HF1 := lH hf
   have HV : iD m c = false := by rw [iD, hf, Bool.and_false]
   clear t0 t1 hf
   rotate_left
   have HF1 := lH hf
   clear hf
   cases hr : inB c.routine 0 ((m.code.au.length : Int) - 1)
   have HR := lH hr
   have HV : iD m c = false := by rw [Bool.eq_false_iff]; intro h; simp [iD] at h; simp [inB] at hr; omega
   clear t0 t1 hr
   rotate_left
   rotate_right 2
   iterate 2 focus
    go_quiet (first | (go_at_call 77; exact mR ((gD m c.frame _ (h0.drewN _)).mono fun _ _ ⟨a, b⟩ => ⟨a.trans (by rw [HF1.out]), b⟩)) | (go_at_call 36; exact mR ((bJ _ 0 _ _).mono fun _ _ ⟨a, b⟩ => ⟨a.trans (by rw [HR.out]), b⟩)) | fail)
    have HF := lH (HF.out HV)
    clear HN
    go_wp2_with fail
    go_ret
    exact ⟨ah HF.out.symm, (by first | exact hwa | exact bN hwa _ | exact aC hwa)⟩
   have HR := lH hr
   have hr2 : 0 ≤ c.routine ∧ c.routine < (m.code.au.length : Int) := by simp [inB] at hr; omega
   clear hr
   rcases dC (c.height < 0) with ⟨t4, d4⟩ | ⟨t4, d4⟩
   ·have HV : iD m c = false := by rw [Bool.eq_false_iff]; intro h; simp [iD] at h; omega
    clear t4
    go_quiet (first | (go_at_call 77; exact mR ((gD m c.frame _ (h0.drewN _)).mono fun _ _ ⟨a, b⟩ => ⟨a.trans (by rw [HF1.out]), b⟩)) | (go_at_call 36; exact mR ((bJ _ 0 _ _).mono fun _ _ ⟨a, b⟩ => ⟨a.trans (by rw [HR.out]), b⟩)) | fail)
    have HF := lH (HF.out HV)
    clear HN
    go_wp2_with fail
    go_ret
    exact ⟨ah HF.out.symm, (by first | exact hwa | exact bN hwa _ | exact aC hwa)⟩
   rcases dC (c.dU < 0) with ⟨t5, d5⟩ | ⟨t5, d5⟩
   ·have HV : iD m c = false := by rw [Bool.eq_false_iff]; intro h; simp [iD] at h; omega
    clear t5
    go_quiet (first | (go_at_call 77; exact mR ((gD m c.frame _ (h0.drewN _)).mono fun _ _ ⟨a, b⟩ => ⟨a.trans (by rw [HF1.out]), b⟩)) | (go_at_call 36; exact mR ((bJ _ 0 _ _).mono fun _ _ ⟨a, b⟩ => ⟨a.trans (by rw [HR.out]), b⟩)) | fail)
    have HF := lH (HF.out HV)
    clear HN
    go_wp2_with fail
    go_ret
    exact ⟨ah HF.out.symm, (by first | exact hwa | exact bN hwa _ | exact aC hwa)⟩
   rcases dC (c.dx < 0) with ⟨t6, d6⟩ | ⟨t6, d6⟩
   ·have HV : iD m c = false := by rw [Bool.eq_false_iff]; intro h; simp [iD] at h; omega
    clear t6
    go_quiet (first | (go_at_call 77; exact mR ((gD m c.frame _ (h0.drewN _)).mono fun _ _ ⟨a, b⟩ => ⟨a.trans (by rw [HF1.out]), b⟩)) | (go_at_call 36; exact mR ((bJ _ 0 _ _).mono fun _ _ ⟨a, b⟩ => ⟨a.trans (by rw [HR.out]), b⟩)) | fail)
    have HF := lH (HF.out HV)
    clear HN
    go_wp2_with fail
    go_ret
    exact ⟨ah HF.out.symm, (by first | exact hwa | exact bN hwa _ | exact aC hwa)⟩
   rcases dC (c.eT < 0) with ⟨t7, d7⟩ | ⟨t7, d7⟩
   ·have HV : iD m c = false := by rw [Bool.eq_false_iff]; intro h; simp [iD] at h; omega
    clear t7
    go_quiet (first | (go_at_call 77; exact mR ((gD m c.frame _ (h0.drewN _)).mono fun _ _ ⟨a, b⟩ => ⟨a.trans (by rw [HF1.out]), b⟩)) | (go_at_call 36; exact mR ((bJ _ 0 _ _).mono fun _ _ ⟨a, b⟩ => ⟨a.trans (by rw [HR.out]), b⟩)) | fail)
    have HF := lH (HF.out HV)
    clear HN
    go_wp2_with fail
    go_ret
    exact ⟨ah HF.out.symm, (by first | exact hwa | exact bN hwa _ | exact aC hwa)⟩
   rcases dC (c.line < 0) with ⟨t8, d8⟩ | ⟨t8, d8⟩
   ·have HV : iD m c = false := by rw [Bool.eq_false_iff]; intro h; simp [iD] at h; omega
    clear t8
    go_quiet (first | (go_at_call 77; exact mR ((gD m c.frame _ (h0.drewN _)).mono fun _ _ ⟨a, b⟩ => ⟨a.trans (by rw [HF1.out]), b⟩)) | (go_at_call 36; exact mR ((bJ _ 0 _ _).mono fun _ _ ⟨a, b⟩ => ⟨a.trans (by rw [HR.out]), b⟩)) | fail)
    have HF := lH (HF.out HV)
    clear HN
    go_wp2_with fail
    go_ret
    exact ⟨ah HF.out.symm, (by first | exact hwa | exact bN hwa _ | exact aC hwa)⟩
   have HV : iD m c = true := by simp [iD, HF1.out]; omega
   clear t0 t1 t4 t5 t6 t7 t8 hr2
   go_quiet (first | (go_at_call 77; exact mR ((gD m c.frame _ (h0.drewN _)).mono fun _ _ ⟨a, b⟩ => ⟨a.trans (by rw [HF1.out]), b⟩)) | (go_at_call 36; exact mR ((bJ _ 0 _ _).mono fun _ _ ⟨a, b⟩ => ⟨a.trans (by rw [HR.out]), b⟩)) | fail)
   have HN := lH (HN.out HV)
   clear HF
   go_wp2_with fail
   go_roundw
   case rel => exact ⟨k + 1, by omega, by go_num, HN, (by first | exact hwa | exact bN hwa _ | exact aC hwa)⟩
   case measure => simp [intOf]; omega
  ·obtain rfl : k = l.length := by omega
   rw [List.take_length] at hgo
   go_wp2_with fail
   go_ret
   exact ⟨ah hgo.out.symm, hb⟩
theorem CV (m : eG) (c : jG) (x : Value) (w : World) {g off lo hi lo' hi' : Nat} (h : At w g off lo hi eG.ay m) (hx : fA w lo' hi' jG.ay x c) (hhi : hi' ≤ w.heap.size) :
 Calls Tryz.prog 81 #[.pointer (some ⟨g, off, none⟩), x] w fun e w' => e = .returned (.bool (vL m c)) ∧ Below w.heap.size w w' := by
 generalize hV : vL m c = V
 have HE : Hid (V = (lY m c && c.dZ.all (pN m.store) && c.dU.all (kF m.code.av.length) && c.eu.all (iD m) && c.cells.all (mI m.store) && (!decide (5 ≤ c.kind) || mI m.store c.object) && (!decide (c.kind = 1) || sw m.store c.gen))) := by rw [← hV]; rfl
 clear hV
 obtain ⟨As, ns, Am, nm, Ac, nc, Ae, ne, AG, nG, rfl, hs, us, ms, hm, um, mm, hc, uc, mc, he, ue, me, hg, ug, mg⟩ := jG.form hx
 unfold maxLen at ms mm mc me mg
 clear hx
 obtain ⟨a0, hW⟩ := eZ w 160 #[.int .i64 c.kind, .int .i64 c.pc, .int .i64 c.frame, .int .i64 c.base, .int .i64 c.line, .int .i64 c.object, .slice As c.dZ.length ns, .slice Am c.dU.length nm, .slice Ac c.eu.length nc, .slice Ae c.cells.length ne, .int .i64 c.gN, .int .i64 c.kJ, .int .i64 c.fQ, .slice AG c.fP.length nG]
 go_enter Tryz.func81, Tryz.ntmps81
 go_upto_region 1 with fail
 generalize w.alloc (.cells #[Value.int .i64 c.kind, .int .i64 c.pc, .int .i64 c.frame, .int .i64 c.base, .int .i64 c.line, .int .i64 c.object, .slice As c.dZ.length ns, .slice Am c.dU.length nm, .slice Ac c.eu.length nc, .slice Ae c.cells.length ne, .int .i64 c.gN, .int .i64 c.kJ, .int .i64 c.fQ, .slice AG c.fP.length nG] 160) = W at *
 have ca := a0.cell
 have la := a0.lt
 obtain ⟨A0, n0, A4, n4, hgm, r1, r2, r3, r4, cr, ci⟩ := eG.lens (h.below hW)
 clear cr
 have kcb := qC (B := W.heap.size) a0 la
 have kci := aW (B := W.heap.size) ci hgm
 cases b0 : inB c.kind 1 6 with
 | false =>
   have HK := lH b0
   have HO : Hid (V = false) := lH (by rw [HE.out, show lY m c = false by rw [Bool.eq_false_iff]; intro h; simp [lY] at h; simp [inB] at b0; omega]; rfl)
   clear HE b0
   refine fI (B := W.heap.size) (by kernel_rfl) (by kernel_rfl) ?_
   repeat (go_big_quiet_step (first | (go_at_call_of 36 (Value.int .i64 c.kind); exact dB ((bJ c.kind 1 6 _).mono fun _ _ ⟨a, b⟩ => ⟨a.trans (by rw [HK.out]), b⟩)) | fail))
   refine wpQuiet_nil ?_
   intro w' hw'
   obtain ⟨v, rfl⟩ := hw'
   replace hW := Kept.of hW hW.size v
   go_wp2_with fail
   all_goals go_ret <;> exact ⟨ah (by first | rfl | exact HO.out.symm), (by first | exact hW | exact bN hW _ | exact aC hW)⟩
 | true =>
 have HK := lH b0
 have zb0 : _ := b0
 simp [inB] at zb0
 clear b0
 cases b1 : inB c.pc 0 (m.code.av.length : Int) with
 | false =>
   have HP := lH b1
   have HO : Hid (V = false) := lH (by rw [HE.out, show lY m c = false by rw [Bool.eq_false_iff]; intro h; simp [lY] at h; simp [inB] at b1; omega]; rfl)
   clear HE b1
   refine fI (B := W.heap.size) (by kernel_rfl) (by kernel_rfl) ?_
   repeat (go_big_quiet_step (first | (go_at_call_of 36 (Value.int .i64 c.kind); exact dB ((bJ c.kind 1 6 _).mono fun _ _ ⟨a, b⟩ => ⟨a.trans (by rw [HK.out]), b⟩)) | (go_at_call_of 36 (Value.int .i64 c.pc); exact dB ((bJ c.pc 0 (m.code.av.length : Int) _).mono fun _ _ ⟨a, b⟩ => ⟨a.trans (by rw [HP.out]), b⟩)) | fail))
   refine wpQuiet_nil ?_
   intro w' hw'
   obtain ⟨v, rfl⟩ := hw'
   replace hW := Kept.of hW hW.size v
   go_wp2_with fail
   all_goals go_ret <;> exact ⟨ah (by first | rfl | exact HO.out.symm), (by first | exact hW | exact bN hW _ | exact aC hW)⟩
 | true =>
 have HP := lH b1
 have zb1 : _ := b1
 simp [inB] at zb1
 clear b1
 cases b2 : kU m.store c.frame 1 with
 | false =>
   have HF1 := lH b2
   have HO : Hid (V = false) := lH (by rw [HE.out, show lY m c = false by rw [lY, HF1.out, Bool.and_false]]; rfl)
   clear HE b2 zb0 zb1
   refine fI (B := W.heap.size) (by kernel_rfl) (by kernel_rfl) ?_
   repeat (go_big_quiet_step (first | (go_at_call_of 36 (Value.int .i64 c.kind); exact dB ((bJ c.kind 1 6 _).mono fun _ _ ⟨a, b⟩ => ⟨a.trans (by rw [HK.out]), b⟩)) | (go_at_call_of 36 (Value.int .i64 c.pc); exact dB ((bJ c.pc 0 (m.code.av.length : Int) _).mono fun _ _ ⟨a, b⟩ => ⟨a.trans (by rw [HP.out]), b⟩)) | (go_at_call 77; exact dB ((gD m c.frame _ (h.below (Kept.of hW hW.size _))).mono fun _ _ ⟨a, b⟩ => ⟨a.trans (by rw [HF1.out]), b⟩)) | fail))
   refine wpQuiet_nil ?_
   intro w' hw'
   obtain ⟨v, rfl⟩ := hw'
   replace hW := Kept.of hW hW.size v
   go_wp2_with fail
   all_goals go_ret <;> exact ⟨ah (by first | rfl | exact HO.out.symm), (by first | exact hW | exact bN hW _ | exact aC hW)⟩
 | true =>
 have HF1 := lH b2
 clear b2
 rcases dC (c.base < 0) with ⟨t0, d0⟩ | ⟨t0, d0⟩
 ·have HO : Hid (V = false) := lH (by rw [HE.out, show lY m c = false by rw [Bool.eq_false_iff]; intro h; simp [lY] at h; omega]; rfl)
  clear HE zb0 zb1 t0
  refine fI (B := W.heap.size) (by kernel_rfl) (by kernel_rfl) ?_
  repeat (go_big_quiet_step (first | (go_at_call_of 36 (Value.int .i64 c.kind); exact dB ((bJ c.kind 1 6 _).mono fun _ _ ⟨a, b⟩ => ⟨a.trans (by rw [HK.out]), b⟩)) | (go_at_call_of 36 (Value.int .i64 c.pc); exact dB ((bJ c.pc 0 (m.code.av.length : Int) _).mono fun _ _ ⟨a, b⟩ => ⟨a.trans (by rw [HP.out]), b⟩)) | (go_at_call 77; exact dB ((gD m c.frame _ (h.below (Kept.of hW hW.size _))).mono fun _ _ ⟨a, b⟩ => ⟨a.trans (by rw [HF1.out]), b⟩)) | fail))
  refine wpQuiet_nil ?_
  intro w' hw'
  obtain ⟨v, rfl⟩ := hw'
  replace hW := Kept.of hW hW.size v
  go_wp2_with fail
  all_goals go_ret <;> exact ⟨ah (by first | rfl | exact HO.out.symm), (by first | exact hW | exact bN hW _ | exact aC hW)⟩
 rcases dC (c.line < 0) with ⟨t1, d1⟩ | ⟨t1, d1⟩
 ·have HO : Hid (V = false) := lH (by rw [HE.out, show lY m c = false by rw [Bool.eq_false_iff]; intro h; simp [lY] at h; omega]; rfl)
  clear HE zb0 zb1 t0 t1
  refine fI (B := W.heap.size) (by kernel_rfl) (by kernel_rfl) ?_
  repeat (go_big_quiet_step (first | (go_at_call_of 36 (Value.int .i64 c.kind); exact dB ((bJ c.kind 1 6 _).mono fun _ _ ⟨a, b⟩ => ⟨a.trans (by rw [HK.out]), b⟩)) | (go_at_call_of 36 (Value.int .i64 c.pc); exact dB ((bJ c.pc 0 (m.code.av.length : Int) _).mono fun _ _ ⟨a, b⟩ => ⟨a.trans (by rw [HP.out]), b⟩)) | (go_at_call 77; exact dB ((gD m c.frame _ (h.below (Kept.of hW hW.size _))).mono fun _ _ ⟨a, b⟩ => ⟨a.trans (by rw [HF1.out]), b⟩)) | fail))
  refine wpQuiet_nil ?_
  intro w' hw'
  obtain ⟨v, rfl⟩ := hw'
  replace hW := Kept.of hW hW.size v
  go_wp2_with fail
  all_goals go_ret <;> exact ⟨ah (by first | rfl | exact HO.out.symm), (by first | exact hW | exact bN hW _ | exact aC hW)⟩
 replace HE : Hid (V = (c.dZ.all (pN m.store) && c.dU.all (kF m.code.av.length) && c.eu.all (iD m) && c.cells.all (mI m.store) && (!decide (5 ≤ c.kind) || mI m.store c.object) && (!decide (c.kind = 1) || sw m.store c.gen))) := by show _ = _; rw [HE.out, lY, dT zb0.1, dT zb0.2, dT zb1.1, dT zb1.2, dT (by omega : 0 ≤ c.base), dT (by omega : 0 ≤ c.line), HF1.out]; rfl
 clear t0 t1 zb1
 cases x0 : c.dZ.all (pN m.store) with
 | false =>
   have HX0 := lH x0
   have HO : Hid (V = false) := lH (by rw [HE.out, HX0.out]; simp)
   clear HE x0 zb0
   refine fI (B := W.heap.size) (by kernel_rfl) (by kernel_rfl) ?_
   repeat (go_big_quiet_step (first | (go_at_call_of 36 (Value.int .i64 c.kind); exact dB ((bJ c.kind 1 6 _).mono fun _ _ ⟨a, b⟩ => ⟨a.trans (by rw [HK.out]), b⟩)) | (go_at_call_of 36 (Value.int .i64 c.pc); exact dB ((bJ c.pc 0 (m.code.av.length : Int) _).mono fun _ _ ⟨a, b⟩ => ⟨a.trans (by rw [HP.out]), b⟩)) | (go_at_call 77; exact dB ((gD m c.frame _ (h.below (Kept.of hW hW.size _))).mono fun _ _ ⟨a, b⟩ => ⟨a.trans (by rw [HF1.out]), b⟩)) | (go_at_call 37; exact fB (nR _) ((jV m c.dZ _ _ (h.below (Kept.of hW hW.size _)) (hs.below (Kept.of hW hW.size _) hhi) (nT hhi (Kept.of hW hW.size _).size)).mono fun _ _ ⟨a, b⟩ => ⟨a.trans (by rw [HX0.out]), b⟩)) | fail))
   refine wpQuiet_nil ?_
   intro w' hw'
   obtain ⟨v, rfl⟩ := hw'
   replace hW := Kept.of hW hW.size v
   go_wp2_with fail
   all_goals go_ret <;> exact ⟨ah (by first | rfl | exact HO.out.symm), (by first | exact hW | exact bN hW _ | exact aC hW)⟩
 | true =>
 have HX0 := lH x0
 clear x0
 cases x1 : c.dU.all (kF m.code.av.length) with
 | false =>
   have HX1 := lH x1
   have HO : Hid (V = false) := lH (by rw [HE.out, HX1.out]; simp)
   clear HE x1 zb0
   refine fI (B := W.heap.size) (by kernel_rfl) (by kernel_rfl) ?_
   repeat (go_big_quiet_step (first | (go_at_call_of 36 (Value.int .i64 c.kind); exact dB ((bJ c.kind 1 6 _).mono fun _ _ ⟨a, b⟩ => ⟨a.trans (by rw [HK.out]), b⟩)) | (go_at_call_of 36 (Value.int .i64 c.pc); exact dB ((bJ c.pc 0 (m.code.av.length : Int) _).mono fun _ _ ⟨a, b⟩ => ⟨a.trans (by rw [HP.out]), b⟩)) | (go_at_call 77; exact dB ((gD m c.frame _ (h.below (Kept.of hW hW.size _))).mono fun _ _ ⟨a, b⟩ => ⟨a.trans (by rw [HF1.out]), b⟩)) | (go_at_call 37; exact fB (nR _) ((jV m c.dZ _ _ (h.below (Kept.of hW hW.size _)) (hs.below (Kept.of hW hW.size _) hhi) (nT hhi (Kept.of hW hW.size _).size)).mono fun _ _ ⟨a, b⟩ => ⟨a.trans (by rw [HX0.out]), b⟩)) | (go_at_call 78; exact fB (nR _) ((nC m c.dU _ _ (h.below (Kept.of hW hW.size _)) (hm.below (Kept.of hW hW.size _) hhi) (nT hhi (Kept.of hW hW.size _).size)).mono fun _ _ ⟨a, b⟩ => ⟨a.trans (by rw [HX1.out]), b⟩)) | fail))
   refine wpQuiet_nil ?_
   intro w' hw'
   obtain ⟨v, rfl⟩ := hw'
   replace hW := Kept.of hW hW.size v
   go_wp2_with fail
   all_goals go_ret <;> exact ⟨ah (by first | rfl | exact HO.out.symm), (by first | exact hW | exact bN hW _ | exact aC hW)⟩
 | true =>
 have HX1 := lH x1
 clear x1
 cases x2 : c.eu.all (iD m) with
 | false =>
   have HX2 := lH x2
   have HO : Hid (V = false) := lH (by rw [HE.out, HX2.out]; simp)
   clear HE x2 zb0
   refine fI (B := W.heap.size) (by kernel_rfl) (by kernel_rfl) ?_
   repeat (go_big_quiet_step (first | (go_at_call_of 36 (Value.int .i64 c.kind); exact dB ((bJ c.kind 1 6 _).mono fun _ _ ⟨a, b⟩ => ⟨a.trans (by rw [HK.out]), b⟩)) | (go_at_call_of 36 (Value.int .i64 c.pc); exact dB ((bJ c.pc 0 (m.code.av.length : Int) _).mono fun _ _ ⟨a, b⟩ => ⟨a.trans (by rw [HP.out]), b⟩)) | (go_at_call 77; exact dB ((gD m c.frame _ (h.below (Kept.of hW hW.size _))).mono fun _ _ ⟨a, b⟩ => ⟨a.trans (by rw [HF1.out]), b⟩)) | (go_at_call 37; exact fB (nR _) ((jV m c.dZ _ _ (h.below (Kept.of hW hW.size _)) (hs.below (Kept.of hW hW.size _) hhi) (nT hhi (Kept.of hW hW.size _).size)).mono fun _ _ ⟨a, b⟩ => ⟨a.trans (by rw [HX0.out]), b⟩)) | (go_at_call 78; exact fB (nR _) ((nC m c.dU _ _ (h.below (Kept.of hW hW.size _)) (hm.below (Kept.of hW hW.size _) hhi) (nT hhi (Kept.of hW hW.size _).size)).mono fun _ _ ⟨a, b⟩ => ⟨a.trans (by rw [HX1.out]), b⟩)) | (go_at_call 79; exact fB (nR _) ((pF m c.eu _ _ (h.below (Kept.of hW hW.size _)) (hc.below (Kept.of hW hW.size _) hhi) (nT hhi (Kept.of hW hW.size _).size)).mono fun _ _ ⟨a, b⟩ => ⟨a.trans (by rw [HX2.out]), b⟩)) | fail))
   refine wpQuiet_nil ?_
   intro w' hw'
   obtain ⟨v, rfl⟩ := hw'
   replace hW := Kept.of hW hW.size v
   go_wp2_with fail
   all_goals go_ret <;> exact ⟨ah (by first | rfl | exact HO.out.symm), (by first | exact hW | exact bN hW _ | exact aC hW)⟩
 | true =>
 have HX2 := lH x2
 clear x2
 cases x3 : c.cells.all (mI m.store) with
 | false =>
   have HX3 := lH x3
   have HO : Hid (V = false) := lH (by rw [HE.out, HX3.out]; simp)
   clear HE x3 zb0
   refine fI (B := W.heap.size) (by kernel_rfl) (by kernel_rfl) ?_
   repeat (go_big_quiet_step (first | (go_at_call_of 36 (Value.int .i64 c.kind); exact dB ((bJ c.kind 1 6 _).mono fun _ _ ⟨a, b⟩ => ⟨a.trans (by rw [HK.out]), b⟩)) | (go_at_call_of 36 (Value.int .i64 c.pc); exact dB ((bJ c.pc 0 (m.code.av.length : Int) _).mono fun _ _ ⟨a, b⟩ => ⟨a.trans (by rw [HP.out]), b⟩)) | (go_at_call 77; exact dB ((gD m c.frame _ (h.below (Kept.of hW hW.size _))).mono fun _ _ ⟨a, b⟩ => ⟨a.trans (by rw [HF1.out]), b⟩)) | (go_at_call 37; exact fB (nR _) ((jV m c.dZ _ _ (h.below (Kept.of hW hW.size _)) (hs.below (Kept.of hW hW.size _) hhi) (nT hhi (Kept.of hW hW.size _).size)).mono fun _ _ ⟨a, b⟩ => ⟨a.trans (by rw [HX0.out]), b⟩)) | (go_at_call 78; exact fB (nR _) ((nC m c.dU _ _ (h.below (Kept.of hW hW.size _)) (hm.below (Kept.of hW hW.size _) hhi) (nT hhi (Kept.of hW hW.size _).size)).mono fun _ _ ⟨a, b⟩ => ⟨a.trans (by rw [HX1.out]), b⟩)) | (go_at_call 79; exact fB (nR _) ((pF m c.eu _ _ (h.below (Kept.of hW hW.size _)) (hc.below (Kept.of hW hW.size _) hhi) (nT hhi (Kept.of hW hW.size _).size)).mono fun _ _ ⟨a, b⟩ => ⟨a.trans (by rw [HX2.out]), b⟩)) | (go_at_call 80; exact fB (nR _) ((qp m c.cells _ _ (h.below (Kept.of hW hW.size _)) (he.below (Kept.of hW hW.size _) hhi) (nT hhi (Kept.of hW hW.size _).size)).mono fun _ _ ⟨a, b⟩ => ⟨a.trans (by rw [HX3.out]), b⟩)) | fail))
   refine wpQuiet_nil ?_
   intro w' hw'
   obtain ⟨v, rfl⟩ := hw'
   replace hW := Kept.of hW hW.size v
   go_wp2_with fail
   all_goals go_ret <;> exact ⟨ah (by first | rfl | exact HO.out.symm), (by first | exact hW | exact bN hW _ | exact aC hW)⟩
 | true =>
 have HX3 := lH x3
 clear x3
 replace HE : Hid (V = ((!decide (5 ≤ c.kind) || mI m.store c.object) && (!decide (c.kind = 1) || sw m.store c.gen))) := by show _ = _; rw [HE.out, HX0.out, HX1.out, HX2.out, HX3.out]; rfl
 refine fI (B := W.heap.size) (by kernel_rfl) (by kernel_rfl) ?_
 repeat (go_big_quiet_step (first | (go_at_call_of 36 (Value.int .i64 c.kind); exact dB ((bJ c.kind 1 6 _).mono fun _ _ ⟨a, b⟩ => ⟨a.trans (by rw [HK.out]), b⟩)) | (go_at_call_of 36 (Value.int .i64 c.pc); exact dB ((bJ c.pc 0 (m.code.av.length : Int) _).mono fun _ _ ⟨a, b⟩ => ⟨a.trans (by rw [HP.out]), b⟩)) | (go_at_call 77; exact dB ((gD m c.frame _ (h.below (Kept.of hW hW.size _))).mono fun _ _ ⟨a, b⟩ => ⟨a.trans (by rw [HF1.out]), b⟩)) | (go_at_call 37; exact fB (nR _) ((jV m c.dZ _ _ (h.below (Kept.of hW hW.size _)) (hs.below (Kept.of hW hW.size _) hhi) (nT hhi (Kept.of hW hW.size _).size)).mono fun _ _ ⟨a, b⟩ => ⟨a.trans (by rw [HX0.out]), b⟩)) | (go_at_call 78; exact fB (nR _) ((nC m c.dU _ _ (h.below (Kept.of hW hW.size _)) (hm.below (Kept.of hW hW.size _) hhi) (nT hhi (Kept.of hW hW.size _).size)).mono fun _ _ ⟨a, b⟩ => ⟨a.trans (by rw [HX1.out]), b⟩)) | (go_at_call 79; exact fB (nR _) ((pF m c.eu _ _ (h.below (Kept.of hW hW.size _)) (hc.below (Kept.of hW hW.size _) hhi) (nT hhi (Kept.of hW hW.size _).size)).mono fun _ _ ⟨a, b⟩ => ⟨a.trans (by rw [HX2.out]), b⟩)) | (go_at_call 80; exact fB (nR _) ((qp m c.cells _ _ (h.below (Kept.of hW hW.size _)) (he.below (Kept.of hW hW.size _) hhi) (nT hhi (Kept.of hW hW.size _).size)).mono fun _ _ ⟨a, b⟩ => ⟨a.trans (by rw [HX3.out]), b⟩)) | fail))
 refine wpQuiet_nil ?_
 intro w' hw'
 obtain ⟨v, rfl⟩ := hw'
 clear HK HP HF1 HX0 HX1 HX2 HX3 d0 d1
 replace hW := Kept.of hW hW.size v
 replace a0 := a0.later v.below
 clear ca la ci kcb kci hgm
 generalize v.out = W1 at *
 obtain ⟨W, rfl⟩ : ∃ X : World, X = W1 := ⟨_, rfl⟩
 have ca := a0.cell
 have la := a0.lt
 by_cases k1 : c.kind = 1
 ·have d1 : (c.kind == 1) = true := by simp [k1]
  have HO : Hid (V = sw m.store c.gen) := lH (by rw [HE.out, dF (show ¬ 5 ≤ c.kind by omega), dT k1]; simp)
  clear HE k1 zb0
  have hs0 := eG.qF (h.below hW)
  have kcb := qC (B := W.heap.size) a0 la
  go_upto_region 4 with fail
  refine fI (B := W.heap.size) (by kernel_rfl) (by kernel_rfl) ?_
  repeat (go_big_quiet_step (first | (go_at_call 126; exact fB (nR _) (zD m.store c.gen _ _ (hs0.below (Kept.below _)) (iY.mk_ (hg.below (Kept.of hW hW.size _) hhi)) (nT hhi (Kept.of hW hW.size _).size))) | fail))
  refine wpQuiet_nil ?_
  intro w' hw'
  obtain ⟨v, rfl⟩ := hw'
  replace hW := Kept.of hW hW.size v
  go_wp2_with fail
  all_goals go_ret <;> exact ⟨ah (by first | rfl | exact HO.out.symm), (by first | exact hW | exact bN hW _ | exact aC hW)⟩
 have d1 : (c.kind == 1) = false := by simp [k1]
 rcases dC (c.kind < 5) with ⟨k5, d5⟩ | ⟨k5, d5⟩
 ·have HO : Hid (V = true) := lH (by rw [HE.out, dF (show ¬ 5 ≤ c.kind by omega), dF k1]; rfl)
  clear HE k1 k5 zb0
  go_wp2_with fail
  all_goals go_ret <;> exact ⟨ah (by first | rfl | exact HO.out.symm), (by first | exact hW | exact bN hW _ | exact aC hW)⟩
 have HO : Hid (V = mI m.store c.object) := lH (by rw [HE.out, dT (show 5 ≤ c.kind by omega), dF k1]; simp)
 clear HE k1 k5 zb0
 go_wp2_with fail
 skip
 refine (qp m [c.object] _ _ (h.below (hW.alloc hW.size _)) (Blk.nums (l := [c.object]) (Blk.new W _ _) (by simp)) (by simp)).mono ?_; rintro e w1 ⟨rfl, hb1⟩
 go_wp2_with fail
 go_ret
 exact ⟨ah HO.out.symm, (hW.alloc hW.size _).trans (hb1.mono (hW.alloc hW.size _).size)⟩
end Go.Proofs.YtoddlphekcihgaaGreatDoor
