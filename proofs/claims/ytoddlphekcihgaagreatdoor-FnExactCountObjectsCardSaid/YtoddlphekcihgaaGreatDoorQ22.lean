/- FJ of the program. A valid generator, of the program: one that gives results. -/
import Derived.Test.YtoddlphekcihgaaGreatDoorQ18
import Derived.Test.YtoddlphekcihgaaGreatDoorQ21
set_option maxRecDepth 100000
set_option maxHeartbeats 8000000
set_option linter.unusedVariables false
set_option linter.unusedSimpArgs false
namespace Go.Proofs.YtoddlphekcihgaaGreatDoor
open Go.RowKit
theorem JZ (W : World) : (zeroValue 4).run Tryz.prog W = .ok (.bool false) W := by kernel_rfl
theorem lN (s : dP) (x : Value) (w : World) {lo hi : Nat} (hx : fA w lo hi dP.ay x s) (hhi : hi ≤ w.heap.size) (hst : iw w) :
 Calls Tryz.prog 50 #[x] w fun e w' => e = .returned (.bool (sV s)) ∧ Below w.heap.size w w' := by
 generalize hV : sV s = V
 have HE : Hid (V = (gH s && jP s && s.dY.all (wm s) && xK s && s.aB.all (ig s) && s.aI.all (fZ s) && qM s.aI)) := by rw [← hV]; rfl
 clear hV
 obtain ⟨An, nn, Ar, nr, Ao, no, Ag, ng, Au, nu, At', nt, Aa, na, rfl, hn, un, mn, hr, ur, mr, ho, uo, mo, hgl, ugl, mgl, hu, uu, mu, ht, ut, mt, ha, ua, ma⟩ := dP.form hx
 unfold maxLen at mn mr mo mgl mu ma
 clear ut mt
 obtain ⟨a0, hW⟩ := eZ w 52 #[.slice An s.fu.length nn, .slice Ar s.aA.length nr, .slice Ao s.aI.length no, .slice Ag s.aB.length ng, .string s.dR, .int .i64 s.dL, .slice Au s.output.length nu, .slice At' s.gV.length nt, .slice Aa s.dY.length na, .bool s.gF, .int .i64 s.je, .int .i64 s.fT, .int .i64 s.kI]
 go_enter Tryz.func50, Tryz.ntmps50
 go_upto_region 1 with fail
 generalize w.alloc (.cells #[Value.slice An s.fu.length nn, .slice Ar s.aA.length nr, .slice Ao s.aI.length no, .slice Ag s.aB.length ng, .string s.dR, .int .i64 s.dL, .slice Au s.output.length nu, .slice At' s.gV.length nt, .slice Aa s.dY.length na, .bool s.gF, .int .i64 s.je, .int .i64 s.fT, .int .i64 s.kI] 52) = W at *
 have ca := a0.cell
 have la := a0.lt
 rcases dC ((12 : Int) < (s.fu.length : Int)) with ⟨t1, dt1⟩ | ⟨t1, dt1⟩
 ·have HO : Hid (V = false) := lH (by rw [HE.out, show gH s = false by unfold gH; rw [show decide (s.fu.length ≤ 12) = false from dF (by omega)]; simp]; rfl)
  clear t1
  clear HE
  go_wp2_with (first | (go_at_call 91; refine (jQ s.fu _ _ lo hi (hn.below hW hhi) (nT hhi hW.size) (hst.below hW hst.2)).mono ?_; rw [HN.out]; rintro e w1 ⟨rfl, hb1⟩; replace hb1 := nX hW a0 hb1; clear hW a0 ca la; obtain ⟨hW, a0, ca, la⟩ := hb1) | (go_at_call 90; refine (iA s.aA _ _ lo hi (hr.below hW hhi) (nT hhi hW.size) (hst.below hW hst.2)).mono ?_; rw [HR.out]; rintro e w1 ⟨rfl, hb1⟩; replace hb1 := nX hW a0 hb1; clear hW a0 ca la; obtain ⟨hW, a0, ca, la⟩ := hb1) | fail)
  go_ret
  exact ⟨ah HO.out.symm, hW⟩
 have gt1 : s.fu.length ≤ 12 := by omega
 clear t1
 cases hq : s.fu.all fM
 have HN := lH hq
 have HO : Hid (V = false) := lH (by rw [HE.out, show gH s = false by unfold gH; rw [hq]; simp]; rfl)
 clear hq
 clear HE
 rotate_left
 have HN := lH hq
 clear hq
 cases hq : nQ s.aA
 have HR := lH hq
 have HO : Hid (V = false) := lH (by rw [HE.out, show gH s = false by unfold gH; rw [hq]; simp]; rfl)
 clear hq
 clear HE
 rotate_left
 rotate_right 2
 iterate 2 focus
  go_wp2_with (first | (go_at_call 91; refine (jQ s.fu _ _ lo hi (hn.below hW hhi) (nT hhi hW.size) (hst.below hW hst.2)).mono ?_; rw [HN.out]; rintro e w1 ⟨rfl, hb1⟩; replace hb1 := nX hW a0 hb1; clear hW a0 ca la; obtain ⟨hW, a0, ca, la⟩ := hb1) | (go_at_call 90; refine (iA s.aA _ _ lo hi (hr.below hW hhi) (nT hhi hW.size) (hst.below hW hst.2)).mono ?_; rw [HR.out]; rintro e w1 ⟨rfl, hb1⟩; replace hb1 := nX hW a0 hb1; clear hW a0 ca la; obtain ⟨hW, a0, ca, la⟩ := hb1) | fail)
  go_ret
  exact ⟨ah HO.out.symm, hW⟩
 have HR := lH hq
 clear hq
 rcases dC ((12 : Int) < (s.aB.length : Int)) with ⟨t2, dt2⟩ | ⟨t2, dt2⟩
 ·have HO : Hid (V = false) := lH (by rw [HE.out, show gH s = false by unfold gH; rw [show decide (s.aB.length ≤ 12) = false from dF (by omega)]; simp]; rfl)
  clear t2
  clear HE
  go_wp2_with (first | (go_at_call 91; refine (jQ s.fu _ _ lo hi (hn.below hW hhi) (nT hhi hW.size) (hst.below hW hst.2)).mono ?_; rw [HN.out]; rintro e w1 ⟨rfl, hb1⟩; replace hb1 := nX hW a0 hb1; clear hW a0 ca la; obtain ⟨hW, a0, ca, la⟩ := hb1) | (go_at_call 90; refine (iA s.aA _ _ lo hi (hr.below hW hhi) (nT hhi hW.size) (hst.below hW hst.2)).mono ?_; rw [HR.out]; rintro e w1 ⟨rfl, hb1⟩; replace hb1 := nX hW a0 hb1; clear hW a0 ca la; obtain ⟨hW, a0, ca, la⟩ := hb1) | fail)
  go_ret
  exact ⟨ah HO.out.symm, hW⟩
 have gt2 : s.aB.length ≤ 12 := by omega
 clear t2
 rcases dC ((120 : Int) < (s.dR.size : Int)) with ⟨t3, dt3⟩ | ⟨t3, dt3⟩
 ·have HO : Hid (V = false) := lH (by rw [HE.out, show gH s = false by unfold gH; rw [show decide (s.dR.size ≤ 120) = false from dF (by omega)]; simp]; rfl)
  clear t3
  clear HE
  go_wp2_with (first | (go_at_call 91; refine (jQ s.fu _ _ lo hi (hn.below hW hhi) (nT hhi hW.size) (hst.below hW hst.2)).mono ?_; rw [HN.out]; rintro e w1 ⟨rfl, hb1⟩; replace hb1 := nX hW a0 hb1; clear hW a0 ca la; obtain ⟨hW, a0, ca, la⟩ := hb1) | (go_at_call 90; refine (iA s.aA _ _ lo hi (hr.below hW hhi) (nT hhi hW.size) (hst.below hW hst.2)).mono ?_; rw [HR.out]; rintro e w1 ⟨rfl, hb1⟩; replace hb1 := nX hW a0 hb1; clear hW a0 ca la; obtain ⟨hW, a0, ca, la⟩ := hb1) | fail)
  go_ret
  exact ⟨ah HO.out.symm, hW⟩
 have gt3 : s.dR.size ≤ 120 := by omega
 clear t3
 rcases dC (s.dL < 1) with ⟨t4, dt4⟩ | ⟨t4, dt4⟩
 ·have HO : Hid (V = false) := lH (by rw [HE.out, show gH s = false by unfold gH; rw [show decide (1 ≤ s.dL) = false from dF (by omega)]; simp]; rfl)
  clear t4
  clear HE
  go_wp2_with (first | (go_at_call 91; refine (jQ s.fu _ _ lo hi (hn.below hW hhi) (nT hhi hW.size) (hst.below hW hst.2)).mono ?_; rw [HN.out]; rintro e w1 ⟨rfl, hb1⟩; replace hb1 := nX hW a0 hb1; clear hW a0 ca la; obtain ⟨hW, a0, ca, la⟩ := hb1) | (go_at_call 90; refine (iA s.aA _ _ lo hi (hr.below hW hhi) (nT hhi hW.size) (hst.below hW hst.2)).mono ?_; rw [HR.out]; rintro e w1 ⟨rfl, hb1⟩; replace hb1 := nX hW a0 hb1; clear hW a0 ca la; obtain ⟨hW, a0, ca, la⟩ := hb1) | fail)
  go_ret
  exact ⟨ah HO.out.symm, hW⟩
 have gt4 : 1 ≤ s.dL := by omega
 clear t4
 rcases dC ((s.dR.size : Int) + 1 < s.dL) with ⟨t5, dt5⟩ | ⟨t5, dt5⟩
 ·have HO : Hid (V = false) := lH (by rw [HE.out, show gH s = false by unfold gH; rw [show decide (s.dL ≤ (s.dR.size : Int) + 1) = false from dF (by omega)]; simp]; rfl)
  clear t5
  clear HE
  go_wp2_with (first | (go_at_call 91; refine (jQ s.fu _ _ lo hi (hn.below hW hhi) (nT hhi hW.size) (hst.below hW hst.2)).mono ?_; rw [HN.out]; rintro e w1 ⟨rfl, hb1⟩; replace hb1 := nX hW a0 hb1; clear hW a0 ca la; obtain ⟨hW, a0, ca, la⟩ := hb1) | (go_at_call 90; refine (iA s.aA _ _ lo hi (hr.below hW hhi) (nT hhi hW.size) (hst.below hW hst.2)).mono ?_; rw [HR.out]; rintro e w1 ⟨rfl, hb1⟩; replace hb1 := nX hW a0 hb1; clear hW a0 ca la; obtain ⟨hW, a0, ca, la⟩ := hb1) | fail)
  go_ret
  exact ⟨ah HO.out.symm, hW⟩
 have gt5 : s.dL ≤ (s.dR.size : Int) + 1 := by omega
 clear t5
 rcases dC ((40 : Int) < (s.dY.length : Int)) with ⟨t6, dt6⟩ | ⟨t6, dt6⟩
 ·have HO : Hid (V = false) := lH (by rw [HE.out, show gH s = false by unfold gH; rw [show decide (s.dY.length ≤ 40) = false from dF (by omega)]; simp]; rfl)
  clear t6
  clear HE
  go_wp2_with (first | (go_at_call 91; refine (jQ s.fu _ _ lo hi (hn.below hW hhi) (nT hhi hW.size) (hst.below hW hst.2)).mono ?_; rw [HN.out]; rintro e w1 ⟨rfl, hb1⟩; replace hb1 := nX hW a0 hb1; clear hW a0 ca la; obtain ⟨hW, a0, ca, la⟩ := hb1) | (go_at_call 90; refine (iA s.aA _ _ lo hi (hr.below hW hhi) (nT hhi hW.size) (hst.below hW hst.2)).mono ?_; rw [HR.out]; rintro e w1 ⟨rfl, hb1⟩; replace hb1 := nX hW a0 hb1; clear hW a0 ca la; obtain ⟨hW, a0, ca, la⟩ := hb1) | fail)
  go_ret
  exact ⟨ah HO.out.symm, hW⟩
 have gt6 : s.dY.length ≤ 40 := by omega
 clear t6
 have HH : Hid (gH s = true) := by show _ = _; unfold gH; rw [HN.out, HR.out]; simp; omega
 have HE : Hid (V = (jP s && s.dY.all (wm s) && xK s && s.aB.all (ig s) && s.aI.all (fZ s) && qM s.aI)) := lH (by rw [HE.out, HH.out]; rfl)
 clear HH
 go_wp2_with (first | (go_at_call 91; refine (jQ s.fu _ _ lo hi (hn.below hW hhi) (nT hhi hW.size) (hst.below hW hst.2)).mono ?_; rw [HN.out]; rintro e w1 ⟨rfl, hb1⟩; replace hb1 := nX hW a0 hb1; clear hW a0 ca la; obtain ⟨hW, a0, ca, la⟩ := hb1) | (go_at_call 90; refine (iA s.aA _ _ lo hi (hr.below hW hhi) (nT hhi hW.size) (hst.below hW hst.2)).mono ?_; rw [HR.out]; rintro e w1 ⟨rfl, hb1⟩; replace hb1 := nX hW a0 hb1; clear hW a0 ca la; obtain ⟨hW, a0, ca, la⟩ := hb1) | fail)
 clear dt1 dt2 dt3 dt4 dt5 dt6 gt1 gt2 gt3 gt4 gt5 gt6 HN HR hr ur mr
 go_loopw [61] (fun i wr => ∃ k : Nat, k ≤ s.dY.length ∧ i = .int .i64 k ∧ Hid ((s.dY.take k).all (wm s) = true) ∧ Below w.heap.size w wr ∧ Blk wr w.heap.size 52 #[Value.slice An s.fu.length nn, .slice Ar s.aA.length nr, .slice Ao s.aI.length no, .slice Ag s.aB.length ng, .string s.dR, .int .i64 s.dL, .slice Au s.output.length nu, .slice At' s.gV.length nt, .slice Aa s.dY.length na, .bool s.gF, .int .i64 s.je, .int .i64 s.fT, .int .i64 s.kI]) (fun i _ => s.dY.length - (intOf i).toNat)
 case atStart => exact ⟨0, nZ _, rfl, by simp [Hid], hW, a0⟩
 case round =>
  clear hW a0 ca la
  obtain ⟨k, hk, rfl, hgo, hb, a0⟩ := hrel
  obtain ⟨wo, rfl⟩ := nW wr
  have hz := hb.size
  have ca := a0.cell
  have la := a0.lt
  by_cases hlt : k < s.dY.length
  ·obtain ⟨c, hc⟩ : ∃ c, s.dY[k]? = some c := ⟨_, gE hlt⟩
   obtain ⟨g', off', rfl, hg1, hg2, hmem, hrep, q0, q1⟩ := kZ.at_ (ha.below hb hhi) hc
   have HN := lH (fun h => fJ (q := wm s) hc hgo.out h)
   have HF : Hid (wm s c = false → V = false) := fun h => by rw [HE.out, lI hmem h]; simp
   have hg3 : g' < wo.heap.size := nL hg2 (nT hhi hz)
   have h1 := At.box a0 (hx.below hb hhi) (nT hhi hz)
   have hwa : Below w.heap.size w (wo.alloc (.cells #[Value.int .i64 c.routine, .int .i64 c.frame] 148)) := hb.alloc hz _
   have h2 := h1.below ((bR _ _).alloc (nR _) (.cells #[Value.int .i64 c.routine, .int .i64 c.frame] 148))
   have a2 := a0.later ((bR _ _).alloc (nR _) (.cells #[Value.int .i64 c.routine, .int .i64 c.frame] 148))
   clear hc hmem hrep hgo h1
   by_cases r1 : c.routine < 0
   have HV := lH (HF.out (by unfold wm; rw [dF (by omega)]; rfl))
   have d1 := dT r1
   clear r1
   rotate_left
   have d1 := dF r1
   by_cases r2 : (s.fu.length : Int) ≤ c.routine
   have HV := lH (HF.out (by unfold wm; rw [dF (show ¬ c.routine < (s.fu.length : Int) by omega)]; simp))
   have d2 := dT r2
   clear r1 r2
   rotate_left
   rotate_right 2
   iterate 2 focus
    go_wp2_with fail
    go_ret
    exact ⟨ah HV.out.symm, hwa⟩
   have d2 := dF r2
   have HA : Hid (wm s c = kU s c.frame 1) := by show _ = _; unfold wm; rw [dT (show 0 ≤ c.routine by omega), dT (show c.routine < (s.fu.length : Int) by omega)]; rfl
   clear r1 r2
   go_wp2_with fail
   refine (fF s c.frame 1 _ h2).mono ?_; rintro e w1 ⟨rfl, rfl⟩
   clear q0 q1 h2
   cases hq : kU s c.frame 1 with
   | true =>
     have HN := lH (HN.out (HA.out.trans hq))
     clear hq HF HA
     go_wp2_with fail
     go_roundw
     case rel => exact ⟨k + 1, by omega, by go_num, HN, hwa, a2⟩
     case measure => simp [intOf]; omega
   | false =>
     have HV := lH (HF.out (HA.out.trans hq))
     clear hq HA HN
     go_wp2_with fail
     go_ret
     exact ⟨ah HV.out.symm, hwa⟩
  obtain rfl : k = s.dY.length := by omega
  rw [List.take_length] at hgo
  have HE : Hid (V = (jP s && xK s && s.aB.all (ig s) && s.aI.all (fZ s) && qM s.aI)) := lH (by rw [HE.out, hgo.out]; simp)
  clear hgo ha ua ma
  go_wp2_with fail
  go_loop [86] (fun i => ∃ k : Nat, k ≤ s.output.length ∧ i = .int .i64 k ∧ Hid ((s.output.take k).all (fun t => decide (t.size ≤ 120)) = true)) (fun i => s.output.length - (intOf i).toNat)
  case atStart => exact ⟨0, nZ _, rfl, by simp [Hid]⟩
  case round =>
   obtain ⟨k, hk, rfl, hgo⟩ := hrel
   by_cases hlt : k < s.output.length
   ·obtain ⟨c, hc⟩ : ∃ c, s.output[k]? = some c := ⟨_, gE hlt⟩
    obtain ⟨g', off', rfl, hg1, hg2, q0⟩ := (hu.below hb hhi).text hc
    have HN := lH (fun h => fJ (q := fun t : ByteArray => decide (t.size ≤ 120)) hc hgo.out h)
    have HF : Hid (decide (c.size ≤ 120) = false → V = false) := fun h => by rw [HE.out, show xK s = false from lI (q := fun t : ByteArray => decide (t.size ≤ 120)) (mG hc) h]; simp
    clear hc hgo
    by_cases r1 : c.size ≤ 120
    ·have HN := lH (HN.out (dT r1))
     clear HF
     go_wp2_with fail
     go_round
     case rel => exact ⟨k + 1, by omega, by go_num, HN⟩
     case measure => simp [intOf]; omega
    ·have HV := lH (HF.out (dF r1))
     have r2 : (120 : Int) < (c.size : Int) := by omega
     clear HN HF
     go_wp2_with fail
     go_ret
     exact ⟨ah HV.out.symm, hb⟩
   obtain rfl : k = s.output.length := by omega
   rw [List.take_length] at hgo
   have HE : Hid (V = (jP s && s.aB.all (ig s) && s.aI.all (fZ s) && qM s.aI)) := lH (by rw [HE.out, show xK s = true from hgo.out]; simp)
   clear hgo hu uu mu
   rcases dC (s.fT < 0) with ⟨n1, dn1⟩ | ⟨n1, dn1⟩
   ·have HO : Hid (V = false) := lH (by rw [HE.out, show jP s = false by unfold jP; rw [show decide (0 ≤ s.fT) = false from dF (by omega)]; simp]; rfl)
    clear n1 HE
    go_wp2_with (first | (go_at_call 95; refine (fE s s.aB _ _ (At.box a0 (hx.below hb hhi) (nT hhi hz)) (hgl.below hb hhi) (nT hhi hz)).mono ?_; rw [HG.out]; rintro e w1 ⟨rfl, hb1⟩; replace hb := hb.trans (hb1.mono hz); replace a0 := a0.later hb1; replace ca := a0.cell; replace la := a0.lt; replace hz := hb.size; clear hb1) | fail)
    go_ret
    exact ⟨ah HO.out.symm, hb⟩
   have gn1 : 0 ≤ s.fT := by omega
   clear n1
   rcases dC ((4000 : Int) < s.fT) with ⟨n2, dn2⟩ | ⟨n2, dn2⟩
   ·have HO : Hid (V = false) := lH (by rw [HE.out, show jP s = false by unfold jP; rw [show decide (s.fT ≤ 4000) = false from dF (by omega)]; simp]; rfl)
    clear n2 HE
    go_wp2_with (first | (go_at_call 95; refine (fE s s.aB _ _ (At.box a0 (hx.below hb hhi) (nT hhi hz)) (hgl.below hb hhi) (nT hhi hz)).mono ?_; rw [HG.out]; rintro e w1 ⟨rfl, hb1⟩; replace hb := hb.trans (hb1.mono hz); replace a0 := a0.later hb1; replace ca := a0.cell; replace la := a0.lt; replace hz := hb.size; clear hb1) | fail)
    go_ret
    exact ⟨ah HO.out.symm, hb⟩
   have gn2 : s.fT ≤ 4000 := by omega
   clear n2
   rcases dC (s.je < 0) with ⟨n3, dn3⟩ | ⟨n3, dn3⟩
   ·have HO : Hid (V = false) := lH (by rw [HE.out, show jP s = false by unfold jP; rw [show decide (0 ≤ s.je) = false from dF (by omega)]; simp]; rfl)
    clear n3 HE
    go_wp2_with (first | (go_at_call 95; refine (fE s s.aB _ _ (At.box a0 (hx.below hb hhi) (nT hhi hz)) (hgl.below hb hhi) (nT hhi hz)).mono ?_; rw [HG.out]; rintro e w1 ⟨rfl, hb1⟩; replace hb := hb.trans (hb1.mono hz); replace a0 := a0.later hb1; replace ca := a0.cell; replace la := a0.lt; replace hz := hb.size; clear hb1) | fail)
    go_ret
    exact ⟨ah HO.out.symm, hb⟩
   have gn3 : 0 ≤ s.je := by omega
   clear n3
   rcases dC (s.fT < s.je) with ⟨n4, dn4⟩ | ⟨n4, dn4⟩
   ·have HO : Hid (V = false) := lH (by rw [HE.out, show jP s = false by unfold jP; rw [show decide (s.je ≤ s.fT) = false from dF (by omega)]; simp]; rfl)
    clear n4 HE
    go_wp2_with (first | (go_at_call 95; refine (fE s s.aB _ _ (At.box a0 (hx.below hb hhi) (nT hhi hz)) (hgl.below hb hhi) (nT hhi hz)).mono ?_; rw [HG.out]; rintro e w1 ⟨rfl, hb1⟩; replace hb := hb.trans (hb1.mono hz); replace a0 := a0.later hb1; replace ca := a0.cell; replace la := a0.lt; replace hz := hb.size; clear hb1) | fail)
    go_ret
    exact ⟨ah HO.out.symm, hb⟩
   have gn4 : s.je ≤ s.fT := by omega
   clear n4
   rcases dC (s.kI < 0) with ⟨n5, dn5⟩ | ⟨n5, dn5⟩
   ·have HO : Hid (V = false) := lH (by rw [HE.out, show jP s = false by unfold jP; rw [show decide (0 ≤ s.kI) = false from dF (by omega)]; simp]; rfl)
    clear n5 HE
    go_wp2_with (first | (go_at_call 95; refine (fE s s.aB _ _ (At.box a0 (hx.below hb hhi) (nT hhi hz)) (hgl.below hb hhi) (nT hhi hz)).mono ?_; rw [HG.out]; rintro e w1 ⟨rfl, hb1⟩; replace hb := hb.trans (hb1.mono hz); replace a0 := a0.later hb1; replace ca := a0.cell; replace la := a0.lt; replace hz := hb.size; clear hb1) | fail)
    go_ret
    exact ⟨ah HO.out.symm, hb⟩
   have gn5 : 0 ≤ s.kI := by omega
   clear n5
   have HM : Hid (jP s = true) := by show _ = _; unfold jP; simp; omega
   cases hq : s.aB.all (ig s) with
   | false =>
     have HG := lH hq
     have HO : Hid (V = false) := lH (by rw [HE.out, hq]; simp)
     clear hq HE
     go_wp2_with (first | (go_at_call 95; refine (fE s s.aB _ _ (At.box a0 (hx.below hb hhi) (nT hhi hz)) (hgl.below hb hhi) (nT hhi hz)).mono ?_; rw [HG.out]; rintro e w1 ⟨rfl, hb1⟩; replace hb := hb.trans (hb1.mono hz); replace a0 := a0.later hb1; replace ca := a0.cell; replace la := a0.lt; replace hz := hb.size; clear hb1) | fail)
     go_ret
     exact ⟨ah HO.out.symm, hb⟩
   | true =>
   have HG := lH hq
   have HE : Hid (V = (s.aI.all (fZ s) && qM s.aI)) := lH (by rw [HE.out, HM.out, hq]; rfl)
   clear hq HM
   have hmk := Bd (P := Tryz.prog) 172
   go_wp2_with (first | (go_at_call 95; refine (fE s s.aB _ _ (At.box a0 (hx.below hb hhi) (nT hhi hz)) (hgl.below hb hhi) (nT hhi hz)).mono ?_; rw [HG.out]; rintro e w1 ⟨rfl, hb1⟩; replace hb := hb.trans (hb1.mono hz); replace a0 := a0.later hb1; replace ca := a0.cell; replace la := a0.lt; replace hz := hb.size; clear hb1) | fail)
   clear dn1 dn2 dn3 dn4 dn5 gn1 gn2 gn3 gn4 gn5 HG hmk hgl ugl mgl
   have hm0 : (w1.alloc (.map (vk []) 0)).heap[w1.heap.size]? = some (.map (vk []) 0) := by show (w1.heap.push _)[w1.heap.size]? = _; simp
   have hbw : w.heap.size ≤ w1.heap.size := hz
   have hbn : w.heap.size < w1.heap.size := la
   have hb0 := hb.alloc (Nat.le_of_lt la) (.map (vk []) 0)
   have a1 := a0.alloc (.map (vk []) 0)
   obtain ⟨mb, hmb⟩ : ∃ mb : Nat, mb = w1.heap.size := ⟨_, rfl⟩
   go_loopw [129] (fun i wr => ∃ k : Nat, k ≤ s.aI.length ∧ i = .int .i64 k ∧ Hid ((s.aI.take k).all (fZ s) = true) ∧ Hid (xU s.aI k) ∧ Below w.heap.size w wr ∧ Blk wr w.heap.size 52 #[Value.slice An s.fu.length nn, .slice Ar s.aA.length nr, .slice Ao s.aI.length no, .slice Ag s.aB.length ng, .string s.dR, .int .i64 s.dL, .slice Au s.output.length nu, .slice At' s.gV.length nt, .slice Aa s.dY.length na, .bool s.gF, .int .i64 s.je, .int .i64 s.fT, .int .i64 s.kI] ∧ ∃ l c, wr.heap[w1.heap.size]? = some (.map (vk l) c) ∧ Keys l (wJ (s.aI.take k))) (fun i _ => s.aI.length - (intOf i).toNat)
   case atStart => exact ⟨0, nZ _, rfl, by simp [Hid], xU.zero _, hb0, a1, _, _, hm0, by simpa [wJ] using Keys.nil⟩
   case round =>
    clear hb a0 ca la hz hb0 a1 hm0
    obtain ⟨k, hk, rfl, hgo, hse, hb, a0, l, c, hmp, hks⟩ := hrel
    obtain ⟨wo, rfl⟩ := nW wr
    have hz := hb.size
    have ca := a0.cell
    have la := a0.lt
    by_cases hlt : k < s.aI.length
    ·obtain ⟨ob, hc⟩ : ∃ c, s.aI[k]? = some c := ⟨_, gE hlt⟩
     obtain ⟨g', off', Ai, ni, Ak, nk, rfl, hg1, hg2, hmem, hrep, q0, q1, q2, q3, q4⟩ := fV.at_ (ho.below hb hhi) hc
     have HN := lH (fun h => fJ (q := fZ s) hc hgo.out h)
     have HF : Hid (fZ s ob = false → V = false) := fun h => by rw [HE.out, lI hmem h]; rfl
     have HS := lH (fun h => hse.out.succ hc h)
     have HSF : Hid (ob.ak ∈ wJ (s.aI.take k) → V = false) := fun h => by rw [HE.out, LJ hc h, Bool.and_false]
     have HK := lH (Ex hc)
     have OC : Blk (wo.alloc (.cells #[Value.int .i64 ob.kind, .int .i64 ob.tag, .int .i64 ob.ak, .slice Ai ob.aj.length ni, .slice Ak ob.aX.length nk] 97)) wo.heap.size 97 #[Value.int .i64 ob.kind, .int .i64 ob.tag, .int .i64 ob.ak, .slice Ai ob.aj.length ni, .slice Ak ob.aX.length nk] := Blk.new wo _ _
     have hwa : Below w.heap.size w (wo.alloc (.cells #[Value.int .i64 ob.kind, .int .i64 ob.tag, .int .i64 ob.ak, .slice Ai ob.aj.length ni, .slice Ak ob.aX.length nk] 97)) := hb.alloc hz _
     have hx1 := hrep.alloc (nT hhi hz) (.cells #[Value.int .i64 ob.kind, .int .i64 ob.tag, .int .i64 ob.ak, .slice Ai ob.aj.length ni, .slice Ak ob.aX.length nk] 97)
     have a1 := a0.alloc (.cells #[Value.int .i64 ob.kind, .int .i64 ob.tag, .int .i64 ob.ak, .slice Ai ob.aj.length ni, .slice Ak ob.aX.length nk] 97)
     have UI : w1.heap.size < wo.heap.size := (Array.getElem?_eq_some_iff.1 hmp).1
     have J2 := (Below.heap_alloc wo (.cells #[Value.int .i64 ob.kind, .int .i64 ob.tag, .int .i64 ob.ak, .slice Ai ob.aj.length ni, .slice Ak ob.aX.length nk] 97) w1.heap.size UI).trans hmp
     clear hc hmem hrep hgo hse
     go_upto_region 21 with fail
     generalize wo.alloc (.cells #[Value.int .i64 ob.kind, .int .i64 ob.tag, .int .i64 ob.ak, .slice Ai ob.aj.length ni, .slice Ak ob.aX.length nk] 97) = W2 at *
     clear q0 q1 q2 q3 q4 ca la
     have ca := OC.cell
     have la := OC.lt
     have h2 := At.box a1 (hx.below hwa hhi) (nT hhi hwa.size)
     go_wp2_with fail
     refine (zX s ob _ _ h2 hx1 (nT hhi hwa.size)).mono ?_; rintro e w2 ⟨rfl, hb1⟩
     replace hwa := hwa.trans (hb1.mono hwa.size)
     replace a1 := a1.later hb1
     replace OC := OC.later hb1
     replace ca := OC.cell
     replace la := OC.lt
     replace J2 := (hb1.block w1.heap.size (Array.getElem?_eq_some_iff.1 J2).1).trans J2
     clear hb1 h2 hx1 hb a0 hmp hz
     cases hq : fZ s ob
     have HV := lH (HF.out hq)
     clear hq HN HS
     rotate_left
     have HN := lH (HN.out hq)
     clear hq HF
     by_cases hs0 : ob.ak = 0
     ·have e0 : (ob.ak != 0) = false := by simp [hs0]
      have HS := lH (HS.out (.inl hs0))
      have HK : Hid (wJ (s.aI.take (k + 1)) = wJ (s.aI.take k)) := lH (by rw [HK.out, if_pos hs0, List.append_nil])
      clear hs0
      go_wp2_with fail
      go_roundw
      case rel => exact ⟨k + 1, by omega, by go_num, HN, HS, hwa, a1, l, c, J2, by rw [HK.out]; exact hks⟩
      case measure => simp [intOf]; omega
     have e0 : (ob.ak != 0) = true := by simp [hs0]
     have HK : Hid (wJ (s.aI.take (k + 1)) = wJ (s.aI.take k) ++ [ob.ak]) := lH (by rw [HK.out, if_neg hs0])
     clear hs0
     have hlk := Dj (P := Tryz.prog) 172 3 4 _ Tryz.underlying172 Tryz.underlying3 JZ w2 w1.heap.size l c ob.ak J2
     by_cases hin : ob.ak ∈ wJ (s.aI.take k)
     have HV := lH (HSF.out hin)
     rw [hks.1 ob.ak, dT hin] at hlk
     clear hin HSF HS HK hks
     rotate_left
     rotate_right 2
     iterate 2 focus
      go_wp2_with fail
      go_ret
      exact ⟨ah HV.out.symm, hwa⟩
     rw [hks.1 ob.ak, dF hin] at hlk
     obtain ⟨w3, hins, UJ, hg3⟩ := Dk (P := Tryz.prog) 172 3 4 Tryz.underlying172 Tryz.underlying3 w2 w1.heap.size l c ob.ak (.bool true) J2
     have HS := lH (HS.out (.inr hin))
     have hk2 := lH (hks.ins c ob.ak hin)
     clear hin HSF hks
     have hw3 : Below w.heap.size w w3 := hwa.trans (kM hg3 hwa.size (fun g e => by injection e with e; omega))
     have a3 := a1.grown hg3 (fun e => by injection e with e; omega)
     go_wp2_with fail
     go_roundw
     case rel => exact ⟨k + 1, by omega, by go_num, HN, HS, hw3, a3, _, _, UJ, by rw [HK.out]; exact hk2.out⟩
     case measure => simp [intOf]; omega
    obtain rfl : k = s.aI.length := by omega
    rw [List.take_length] at hgo
    have HV : Hid (V = true) := lH (by rw [HE.out, hgo.out, hse.out.all]; rfl)
    clear HE
    go_wp2_with fail
    go_ret
    exact ⟨ah HV.out.symm, hb⟩
theorem P9 (s : dP) (c : iY) (x y : Value) (w : World) {lo hi lo' hi' : Nat} (hx : fA w lo hi dP.ay x s) (hy : fA w lo' hi' iY.ay y c) (hhi : hi ≤ w.heap.size) (eP : hi' ≤ w.heap.size) (hst : iw w) (hsv : sV s = true) (hk : c.kind = 1) (hop : c.op = 7 ∨ c.op = 317) :
 Calls Tryz.prog 142 #[x, y] w fun e w' => e = .returned (.bool (sw s c)) ∧ Below w.heap.size w w' := by
 generalize hV : sw s c = V
 have HE : Hid (V = (c.args.all (cK s) && (decide (1 ≤ c.count) && decide (c.count ≤ 5000) && pM c))) := by rw [← hV]; unfold sw; rw [if_pos hk]; rfl
 have ek : (c.kind == 1) = true := by simp [hk]
 clear hV hk
 obtain ⟨An, nn, Ar, nr, Ao, no, Ag, ng, Au, nu, At', nt, Aa, na, rfl, -⟩ := dP.form hx
 obtain ⟨AG, nG, rfl, hg, ug, mg⟩ := iY.form hy
 unfold maxLen at mg
 clear hy
 have hW : Below w.heap.size w ((w.alloc (.cells #[Value.slice An s.fu.length nn, .slice Ar s.aA.length nr, .slice Ao s.aI.length no, .slice Ag s.aB.length ng, .string s.dR, .int .i64 s.dL, .slice Au s.output.length nu, .slice At' s.gV.length nt, .slice Aa s.dY.length na, .bool s.gF, .int .i64 s.je, .int .i64 s.fT, .int .i64 s.kI] 52)).alloc (.cells #[Value.int .i64 c.kind, .int .i64 c.op, .int .i64 c.count, .slice AG c.args.length nG] 158)) := (bA _ _).alloc (by simp) _
 have a1 := (Blk.new w 52 #[Value.slice An s.fu.length nn, .slice Ar s.aA.length nr, .slice Ao s.aI.length no, .slice Ag s.aB.length ng, .string s.dR, .int .i64 s.dL, .slice Au s.output.length nu, .slice At' s.gV.length nt, .slice Aa s.dY.length na, .bool s.gF, .int .i64 s.je, .int .i64 s.fT, .int .i64 s.kI]).alloc (.cells #[Value.int .i64 c.kind, .int .i64 c.op, .int .i64 c.count, .slice AG c.args.length nG] 158)
 have a2 := Blk.newAt (w.alloc (.cells #[Value.slice An s.fu.length nn, .slice Ar s.aA.length nr, .slice Ao s.aI.length no, .slice Ag s.aB.length ng, .string s.dR, .int .i64 s.dL, .slice Au s.output.length nu, .slice At' s.gV.length nt, .slice Aa s.dY.length na, .bool s.gF, .int .i64 s.je, .int .i64 s.fT, .int .i64 s.kI] 52)) 158 #[Value.int .i64 c.kind, .int .i64 c.op, .int .i64 c.count, .slice AG c.args.length nG] (w.heap.size + 1) (by simp)
 go_enter Tryz.func142, Tryz.ntmps142
 go_upto_region 1 with fail
 generalize (w.alloc (.cells #[Value.slice An s.fu.length nn, .slice Ar s.aA.length nr, .slice Ao s.aI.length no, .slice Ag s.aB.length ng, .string s.dR, .int .i64 s.dL, .slice Au s.output.length nu, .slice At' s.gV.length nt, .slice Aa s.dY.length na, .bool s.gF, .int .i64 s.je, .int .i64 s.fT, .int .i64 s.kI] 52)).alloc (.cells #[Value.int .i64 c.kind, .int .i64 c.op, .int .i64 c.count, .slice AG c.args.length nG] 158) = W at *
 have ca := a1.cell
 have cb := a2.cell
 have la := a1.lt
 have lb := a2.lt
 go_wp2_with fail
 refine (lN s _ _ (hx.below hW hhi) (nT hhi hW.size) (hst.below hW hst.2)).mono ?_; rw [hsv]; rintro e w1 ⟨rfl, hb1⟩
 replace hW := hW.trans (hb1.mono hW.size)
 replace a1 := a1.later hb1
 replace a2 := a2.later hb1
 clear ca cb la lb hb1 hsv hst
 have ca := a1.cell
 have cb := a2.cell
 have la := a1.lt
 have lb := a2.lt
 have hAt := At.box a1 (hx.below hW hhi) (nT hhi hW.size)
 clear hx ca la
 go_wp2_with fail
 go_loopw [15] (fun i wr => ∃ k : Nat, k ≤ c.args.length ∧ i = .int .i64 k ∧ Hid ((c.args.take k).all (cK s) = true) ∧ Below w1.heap.size w1 wr) (fun i _ => c.args.length - (intOf i).toNat)
 case atStart => exact ⟨0, nZ _, rfl, by simp [Hid], bR _ _⟩
 case round =>
  obtain ⟨k, hk, rfl, hgo, hb⟩ := hrel
  obtain ⟨wo, rfl⟩ := nW wr
  have hz := hb.size
  by_cases hlt : k < c.args.length
  ·obtain ⟨a, ha⟩ : ∃ a, c.args[k]? = some a := ⟨_, gE hlt⟩
   obtain ⟨g', off', rfl, hg1, hg2, -, -, q0, q1, q2, q3, q4, q5⟩ := aQ.at_ (hg.below (hW.trans (hb.mono hW.size)) eP) ha
   have HN := lH (fun h => fJ (q := cK s) ha hgo.out h)
   have HF := lH (fun h => lI (q := cK s) (mG ha) h)
   clear ha hgo
   have hwa : Below w1.heap.size w1 (wo.alloc (.cells #[Value.int .i64 a.kind, .int .i64 a.number, .int .i64 a.index, .string a.text, .int .i64 a.eB, .int .i64 a.dW] 56)) := hb.alloc hz _
   have h0 := hAt.below hwa
   go_wp2_with fail
   refine (mX s a _ _ h0 (aQ.mk_ (lo := 0) (hi := 0))).mono ?_; rintro e w2 ⟨rfl, hb2⟩
   have hw2 := hwa.trans (hb2.mono hwa.size)
   clear q0 q1 q2 q3 q4 q5 hb2 h0
   cases hq : cK s a with
   | true =>
     have HN := lH (HN.out hq)
     clear HF hq
     go_wp2_with fail
     go_roundw
     case rel => exact ⟨k + 1, by omega, by go_num, HN, hw2⟩
     case measure => simp [intOf]; omega
   | false =>
     have HF := lH (HF.out hq)
     have HO : Hid (V = false) := lH (by rw [HE.out, HF.out]; rfl)
     clear HN HF HE hq
     go_wp2_with fail
     go_ret
     exact ⟨ah HO.out.symm, hW.trans (hw2.mono hW.size)⟩
  obtain rfl : k = c.args.length := by omega
  rw [List.take_length] at hgo
  replace HE : Hid (V = (decide (1 ≤ c.count) && decide (c.count ≤ 5000) && pM c)) := by show _ = _; rw [HE.out, hgo.out, Bool.true_and]
  replace hW := hW.trans (hb.mono hW.size)
  replace a2 := a2.later hb
  clear cb lb hlt hk hAt a1
  have cb := a2.cell
  have lb := a2.lt
  clear hb hz
  go_upto_region 10 with fail
  skip
  by_cases c1 : c.count < 1
  have HO : Hid (V = false) := lH (by rw [HE.out]; rw [dF (by omega)]; rfl)
  have dc1 : decide (c.count < 1) = true := by first | (simp; omega) | simp [c1]
  clear HE c1
  rotate_left
  have dc1 : decide (c.count < 1) = false := by first | (simp; omega) | simp [c1]
  by_cases c2 : 5000 < c.count
  have HO : Hid (V = false) := lH (by rw [HE.out]; rw [dF (show ¬ c.count ≤ 5000 by omega)]; simp)
  have dc2 : decide (5000 < c.count) = true := by first | (simp; omega) | simp [c2]
  clear HE c2
  rotate_left
  rotate_right 2
  iterate 2 focus
   go_wp2_with (fail)
   all_goals go_ret
   all_goals (exact ⟨ah HO.out.symm, (by first | exact hW | exact bN hW _)⟩)
  have dc2 : decide (5000 < c.count) = false := by first | (simp; omega) | simp [c2]
  replace HE : Hid (V = pM c) := by show _ = _; rw [HE.out, dT (by omega), dT (by omega)]; rfl
  clear c1 c2
  by_cases x7 : c.op = 7
  ·skip
   have e7 : (c.op == 7) = true := by simp; omega
   clear hop
   have HX := lH x7
   clear x7
   by_cases n1 : ¬ c.args.length = 1
   have HO : Hid (V = false) := lH (by rw [HE.out]; rw [xk n1 (by have := HX.out; omega)])
   have dn1 : ((c.args.length : Int) == 1) = false := by first | (simp; omega) | simp [n1]
   clear HE n1
   rotate_left
   have dn1 : ((c.args.length : Int) == 1) = true := by first | (simp; omega) | simp [n1]
   have Hn1 : Hid (c.args.length = 1) := lH (by omega)
   clear n1
   obtain ⟨a, ha⟩ : ∃ a, c.args[0]? = some a := ⟨_, gE (by have := Hn1.out; omega)⟩
   obtain ⟨g', off', rfl, hg1, hg2, -⟩ := aQ.at_ hg (j := 0) ha
   have hi0 : 0 < c.args.length := (by have := Hn1.out; omega)
   obtain ⟨pa0, pa1, pa2, pa3, pa4, pa5⟩ := dV (hg.below hW eP) ha (p := off') (by omega)
   have HO : Hid (V = decide (a.kind ≤ 12)) := lH (by rw [HE.out, zq Hn1.out ha, if_pos HX.out])
   clear HE
   iterate 2 focus
    go_wp2_with (fail)
    all_goals go_ret
    all_goals (exact ⟨ah HO.out.symm, (by first | exact hW | exact bN hW _)⟩)
  have CP : c.op = 317 := by omega
  have e7 : (c.op == 7) = false := by simp; omega
  have e72 : (c.op == 72) = false := by simp; omega
  have FK : (c.op == 338) = false := by simp; omega
  have e317 : (c.op == 317) = true := by simp; omega
  clear hop
  have HX := lH CP
  clear CP
  clear x7
  by_cases n1 : ¬ c.args.length = 1
  have HO : Hid (V = false) := lH (by rw [HE.out]; rw [xk n1 (by have := HX.out; omega)])
  have dn1 : ((c.args.length : Int) == 1) = false := by first | (simp; omega) | simp [n1]
  clear HE n1
  rotate_left
  have dn1 : ((c.args.length : Int) == 1) = true := by first | (simp; omega) | simp [n1]
  have Hn1 : Hid (c.args.length = 1) := lH (by omega)
  clear n1
  obtain ⟨a, ha⟩ : ∃ a, c.args[0]? = some a := ⟨_, gE (by have := Hn1.out; omega)⟩
  obtain ⟨g', off', rfl, hg1, hg2, -⟩ := aQ.at_ hg (j := 0) ha
  have hi0 : 0 < c.args.length := (by have := Hn1.out; omega)
  obtain ⟨pa0, pa1, pa2, pa3, pa4, pa5⟩ := dV (hg.below hW eP) ha (p := off') (by omega)
  have HO : Hid (V = (a.kind == 5)) := lH (by rw [HE.out, zq Hn1.out ha, if_neg (by have := HX.out; omega), if_pos HX.out]; by_cases z : a.kind = 5 <;> simp [z])
  clear HE
  iterate 2 focus
   go_wp2_with (fail)
   all_goals go_ret
   all_goals (exact ⟨ah HO.out.symm, (by first | exact hW | exact bN hW _)⟩)
theorem N8 (s : dP) (c : iY) (x y : Value) (w : World) {lo hi lo' hi' : Nat} (hx : fA w lo hi dP.ay x s) (hy : fA w lo' hi' iY.ay y c) (hhi : hi ≤ w.heap.size) (eP : hi' ≤ w.heap.size) (hst : iw w) (hsv : sV s = true) (hk : c.kind = 1) (hop : c.op = 72 ∨ c.op = 338) :
 Calls Tryz.prog 142 #[x, y] w fun e w' => e = .returned (.bool (sw s c)) ∧ Below w.heap.size w w' := by
 generalize hV : sw s c = V
 have HE : Hid (V = (c.args.all (cK s) && (decide (1 ≤ c.count) && decide (c.count ≤ 5000) && pM c))) := by rw [← hV]; unfold sw; rw [if_pos hk]; rfl
 have ek : (c.kind == 1) = true := by simp [hk]
 clear hV hk
 obtain ⟨An, nn, Ar, nr, Ao, no, Ag, ng, Au, nu, At', nt, Aa, na, rfl, -⟩ := dP.form hx
 obtain ⟨AG, nG, rfl, hg, ug, mg⟩ := iY.form hy
 unfold maxLen at mg
 clear hy
 have hW : Below w.heap.size w ((w.alloc (.cells #[Value.slice An s.fu.length nn, .slice Ar s.aA.length nr, .slice Ao s.aI.length no, .slice Ag s.aB.length ng, .string s.dR, .int .i64 s.dL, .slice Au s.output.length nu, .slice At' s.gV.length nt, .slice Aa s.dY.length na, .bool s.gF, .int .i64 s.je, .int .i64 s.fT, .int .i64 s.kI] 52)).alloc (.cells #[Value.int .i64 c.kind, .int .i64 c.op, .int .i64 c.count, .slice AG c.args.length nG] 158)) := (bA _ _).alloc (by simp) _
 have a1 := (Blk.new w 52 #[Value.slice An s.fu.length nn, .slice Ar s.aA.length nr, .slice Ao s.aI.length no, .slice Ag s.aB.length ng, .string s.dR, .int .i64 s.dL, .slice Au s.output.length nu, .slice At' s.gV.length nt, .slice Aa s.dY.length na, .bool s.gF, .int .i64 s.je, .int .i64 s.fT, .int .i64 s.kI]).alloc (.cells #[Value.int .i64 c.kind, .int .i64 c.op, .int .i64 c.count, .slice AG c.args.length nG] 158)
 have a2 := Blk.newAt (w.alloc (.cells #[Value.slice An s.fu.length nn, .slice Ar s.aA.length nr, .slice Ao s.aI.length no, .slice Ag s.aB.length ng, .string s.dR, .int .i64 s.dL, .slice Au s.output.length nu, .slice At' s.gV.length nt, .slice Aa s.dY.length na, .bool s.gF, .int .i64 s.je, .int .i64 s.fT, .int .i64 s.kI] 52)) 158 #[Value.int .i64 c.kind, .int .i64 c.op, .int .i64 c.count, .slice AG c.args.length nG] (w.heap.size + 1) (by simp)
 go_enter Tryz.func142, Tryz.ntmps142
 go_upto_region 1 with fail
 generalize (w.alloc (.cells #[Value.slice An s.fu.length nn, .slice Ar s.aA.length nr, .slice Ao s.aI.length no, .slice Ag s.aB.length ng, .string s.dR, .int .i64 s.dL, .slice Au s.output.length nu, .slice At' s.gV.length nt, .slice Aa s.dY.length na, .bool s.gF, .int .i64 s.je, .int .i64 s.fT, .int .i64 s.kI] 52)).alloc (.cells #[Value.int .i64 c.kind, .int .i64 c.op, .int .i64 c.count, .slice AG c.args.length nG] 158) = W at *
 have ca := a1.cell
 have cb := a2.cell
 have la := a1.lt
 have lb := a2.lt
 go_wp2_with fail
 refine (lN s _ _ (hx.below hW hhi) (nT hhi hW.size) (hst.below hW hst.2)).mono ?_; rw [hsv]; rintro e w1 ⟨rfl, hb1⟩
 replace hW := hW.trans (hb1.mono hW.size)
 replace a1 := a1.later hb1
 replace a2 := a2.later hb1
 clear ca cb la lb hb1 hsv hst
 have ca := a1.cell
 have cb := a2.cell
 have la := a1.lt
 have lb := a2.lt
 have hAt := At.box a1 (hx.below hW hhi) (nT hhi hW.size)
 clear hx ca la
 go_wp2_with fail
 go_loopw [15] (fun i wr => ∃ k : Nat, k ≤ c.args.length ∧ i = .int .i64 k ∧ Hid ((c.args.take k).all (cK s) = true) ∧ Below w1.heap.size w1 wr) (fun i _ => c.args.length - (intOf i).toNat)
 case atStart => exact ⟨0, nZ _, rfl, by simp [Hid], bR _ _⟩
 case round =>
  obtain ⟨k, hk, rfl, hgo, hb⟩ := hrel
  obtain ⟨wo, rfl⟩ := nW wr
  have hz := hb.size
  by_cases hlt : k < c.args.length
  ·obtain ⟨a, ha⟩ : ∃ a, c.args[k]? = some a := ⟨_, gE hlt⟩
   obtain ⟨g', off', rfl, hg1, hg2, -, -, q0, q1, q2, q3, q4, q5⟩ := aQ.at_ (hg.below (hW.trans (hb.mono hW.size)) eP) ha
   have HN := lH (fun h => fJ (q := cK s) ha hgo.out h)
   have HF := lH (fun h => lI (q := cK s) (mG ha) h)
   clear ha hgo
   have hwa : Below w1.heap.size w1 (wo.alloc (.cells #[Value.int .i64 a.kind, .int .i64 a.number, .int .i64 a.index, .string a.text, .int .i64 a.eB, .int .i64 a.dW] 56)) := hb.alloc hz _
   have h0 := hAt.below hwa
   go_wp2_with fail
   refine (mX s a _ _ h0 (aQ.mk_ (lo := 0) (hi := 0))).mono ?_; rintro e w2 ⟨rfl, hb2⟩
   have hw2 := hwa.trans (hb2.mono hwa.size)
   clear q0 q1 q2 q3 q4 q5 hb2 h0
   cases hq : cK s a with
   | true =>
     have HN := lH (HN.out hq)
     clear HF hq
     go_wp2_with fail
     go_roundw
     case rel => exact ⟨k + 1, by omega, by go_num, HN, hw2⟩
     case measure => simp [intOf]; omega
   | false =>
     have HF := lH (HF.out hq)
     have HO : Hid (V = false) := lH (by rw [HE.out, HF.out]; rfl)
     clear HN HF HE hq
     go_wp2_with fail
     go_ret
     exact ⟨ah HO.out.symm, hW.trans (hw2.mono hW.size)⟩
  obtain rfl : k = c.args.length := by omega
  rw [List.take_length] at hgo
  replace HE : Hid (V = (decide (1 ≤ c.count) && decide (c.count ≤ 5000) && pM c)) := by show _ = _; rw [HE.out, hgo.out, Bool.true_and]
  replace hW := hW.trans (hb.mono hW.size)
  replace a2 := a2.later hb
  clear cb lb hlt hk hAt a1
  have cb := a2.cell
  have lb := a2.lt
  clear hb hz
  go_upto_region 10 with fail
  skip
  by_cases c1 : c.count < 1
  have HO : Hid (V = false) := lH (by rw [HE.out]; rw [dF (by omega)]; rfl)
  have dc1 : decide (c.count < 1) = true := by first | (simp; omega) | simp [c1]
  clear HE c1
  rotate_left
  have dc1 : decide (c.count < 1) = false := by first | (simp; omega) | simp [c1]
  by_cases c2 : 5000 < c.count
  have HO : Hid (V = false) := lH (by rw [HE.out]; rw [dF (show ¬ c.count ≤ 5000 by omega)]; simp)
  have dc2 : decide (5000 < c.count) = true := by first | (simp; omega) | simp [c2]
  clear HE c2
  rotate_left
  rotate_right 2
  iterate 2 focus
   go_wp2_with (fail)
   all_goals go_ret
   all_goals (exact ⟨ah HO.out.symm, (by first | exact hW | exact bN hW _)⟩)
  have dc2 : decide (5000 < c.count) = false := by first | (simp; omega) | simp [c2]
  replace HE : Hid (V = pM c) := by show _ = _; rw [HE.out, dT (by omega), dT (by omega)]; rfl
  clear c1 c2
  by_cases x72 : c.op = 72
  ·skip
   have e7 : (c.op == 7) = false := by simp; omega
   have e72 : (c.op == 72) = true := by simp; omega
   clear hop
   have HX := lH x72
   clear x72
   by_cases n3 : ¬ c.args.length = 3
   have HO : Hid (V = false) := lH (by rw [HE.out]; rw [uG n3 (by have := HX.out; omega)])
   have dn3 : ((c.args.length : Int) == 3) = false := by first | (simp; omega) | simp [n3]
   clear HE n3
   rotate_left
   have dn3 : ((c.args.length : Int) == 3) = true := by first | (simp; omega) | simp [n3]
   have Hn3 : Hid (c.args.length = 3) := lH (by omega)
   clear n3
   obtain ⟨a, ha⟩ : ∃ a, c.args[0]? = some a := ⟨_, gE (by have := Hn3.out; omega)⟩
   obtain ⟨b, hb⟩ : ∃ a, c.args[1]? = some a := ⟨_, gE (by have := Hn3.out; omega)⟩
   obtain ⟨d, hd⟩ : ∃ a, c.args[2]? = some a := ⟨_, gE (by have := Hn3.out; omega)⟩
   obtain ⟨g', off', rfl, hg1, hg2, -⟩ := aQ.at_ hg (j := 0) ha
   have hi0 : 0 < c.args.length := (by have := Hn3.out; omega)
   have hi1 : (1 : Int) < (c.args.length : Int) := (by have := Hn3.out; omega)
   have hi2 : (2 : Int) < (c.args.length : Int) := (by have := Hn3.out; omega)
   obtain ⟨pa0, pa1, pa2, pa3, pa4, pa5⟩ := dV (hg.below hW eP) ha (p := off') (by omega)
   obtain ⟨pb0, pb1, pb2, pb3, pb4, pb5⟩ := dV (hg.below hW eP) hb (p := off' + 6) (by omega)
   obtain ⟨pd0, pd1, pd2, pd3, pd4, pd5⟩ := dV (hg.below hW eP) hd (p := off' + 12) (by omega)
   replace HE : Hid (V = (decide (a.kind = 1) && decide (b.kind = 1) && decide (d.kind = 1) && !decide (d.number = 0))) := by show _ = _; rw [HE.out, qm Hn3.out ha hb hd, if_pos (by have := HX.out; omega)]
   by_cases ka : ¬ a.kind = 1
   have HO : Hid (V = false) := lH (by rw [HE.out]; rw [dF ka]; simp)
   have dka : (a.kind == 1) = false := by first | (simp; omega) | simp [ka]
   clear HE ka
   rotate_left
   have dka : (a.kind == 1) = true := by first | (simp; omega) | simp [ka]
   have Hka : Hid (a.kind = 1) := lH (by omega)
   clear ka
   by_cases kb : ¬ b.kind = 1
   have HO : Hid (V = false) := lH (by rw [HE.out]; rw [dF kb]; simp)
   have dkb : (b.kind == 1) = false := by first | (simp; omega) | simp [kb]
   clear HE kb
   rotate_left
   have dkb : (b.kind == 1) = true := by first | (simp; omega) | simp [kb]
   have Hkb : Hid (b.kind = 1) := lH (by omega)
   clear kb
   by_cases kd : ¬ d.kind = 1
   have HO : Hid (V = false) := lH (by rw [HE.out]; rw [dF kd]; simp)
   have dkd : (d.kind == 1) = false := by first | (simp; omega) | simp [kd]
   clear HE kd
   rotate_left
   have dkd : (d.kind == 1) = true := by first | (simp; omega) | simp [kd]
   have Hkd : Hid (d.kind = 1) := lH (by omega)
   clear kd
   have HO : Hid (V = (d.number != 0)) := lH (by rw [HE.out, Hka.out, Hkb.out, Hkd.out]; by_cases z : d.number = 0 <;> simp [z])
   clear HE
   iterate 5 focus
    go_wp2_with (fail)
    all_goals go_ret
    all_goals (exact ⟨ah HO.out.symm, (by first | exact hW | exact bN hW _)⟩)
  have CQ : c.op = 338 := by omega
  have e7 : (c.op == 7) = false := by simp; omega
  have e72 : (c.op == 72) = false := by simp; omega
  have FK : (c.op == 338) = true := by simp; omega
  clear hop
  have HX := lH CQ
  clear CQ
  clear x72
  by_cases n3 : ¬ c.args.length = 3
  have HO : Hid (V = false) := lH (by rw [HE.out]; rw [uG n3 (by have := HX.out; omega)])
  have dn3 : ((c.args.length : Int) == 3) = false := by first | (simp; omega) | simp [n3]
  clear HE n3
  rotate_left
  have dn3 : ((c.args.length : Int) == 3) = true := by first | (simp; omega) | simp [n3]
  have Hn3 : Hid (c.args.length = 3) := lH (by omega)
  clear n3
  obtain ⟨a, ha⟩ : ∃ a, c.args[0]? = some a := ⟨_, gE (by have := Hn3.out; omega)⟩
  obtain ⟨b, hb⟩ : ∃ a, c.args[1]? = some a := ⟨_, gE (by have := Hn3.out; omega)⟩
  obtain ⟨d, hd⟩ : ∃ a, c.args[2]? = some a := ⟨_, gE (by have := Hn3.out; omega)⟩
  obtain ⟨g', off', rfl, hg1, hg2, -⟩ := aQ.at_ hg (j := 0) ha
  have hi0 : 0 < c.args.length := (by have := Hn3.out; omega)
  have hi1 : (1 : Int) < (c.args.length : Int) := (by have := Hn3.out; omega)
  have hi2 : (2 : Int) < (c.args.length : Int) := (by have := Hn3.out; omega)
  obtain ⟨pa0, pa1, pa2, pa3, pa4, pa5⟩ := dV (hg.below hW eP) ha (p := off') (by omega)
  obtain ⟨pb0, pb1, pb2, pb3, pb4, pb5⟩ := dV (hg.below hW eP) hb (p := off' + 6) (by omega)
  obtain ⟨pd0, pd1, pd2, pd3, pd4, pd5⟩ := dV (hg.below hW eP) hd (p := off' + 12) (by omega)
  replace HE : Hid (V = (decide (a.kind = 1) && decide (b.kind = 1) && decide (d.kind = 1) && !decide (d.number = 0))) := by show _ = _; rw [HE.out, qm Hn3.out ha hb hd, if_pos (by have := HX.out; omega)]
  by_cases ka : ¬ a.kind = 1
  have HO : Hid (V = false) := lH (by rw [HE.out]; rw [dF ka]; simp)
  have dka : (a.kind == 1) = false := by first | (simp; omega) | simp [ka]
  clear HE ka
  rotate_left
  have dka : (a.kind == 1) = true := by first | (simp; omega) | simp [ka]
  have Hka : Hid (a.kind = 1) := lH (by omega)
  clear ka
  by_cases kb : ¬ b.kind = 1
  have HO : Hid (V = false) := lH (by rw [HE.out]; rw [dF kb]; simp)
  have dkb : (b.kind == 1) = false := by first | (simp; omega) | simp [kb]
  clear HE kb
  rotate_left
  have dkb : (b.kind == 1) = true := by first | (simp; omega) | simp [kb]
  have Hkb : Hid (b.kind = 1) := lH (by omega)
  clear kb
  by_cases kd : ¬ d.kind = 1
  have HO : Hid (V = false) := lH (by rw [HE.out]; rw [dF kd]; simp)
  have dkd : (d.kind == 1) = false := by first | (simp; omega) | simp [kd]
  clear HE kd
  rotate_left
  have dkd : (d.kind == 1) = true := by first | (simp; omega) | simp [kd]
  have Hkd : Hid (d.kind = 1) := lH (by omega)
  clear kd
  have HO : Hid (V = (d.number != 0)) := lH (by rw [HE.out, Hka.out, Hkb.out, Hkd.out]; by_cases z : d.number = 0 <;> simp [z])
  clear HE
  iterate 5 focus
   go_wp2_with (fail)
   all_goals go_ret
   all_goals (exact ⟨ah HO.out.symm, (by first | exact hW | exact bN hW _)⟩)
theorem Mb (s : dP) (c : iY) (x y : Value) (w : World) {lo hi lo' hi' : Nat} (hx : fA w lo hi dP.ay x s) (hy : fA w lo' hi' iY.ay y c) (hhi : hi ≤ w.heap.size) (eP : hi' ≤ w.heap.size) (hst : iw w) (hsv : sV s = true) (hk : c.kind = 1) (hop : c.op = 320 ∨ c.op = 321) :
 Calls Tryz.prog 142 #[x, y] w fun e w' => e = .returned (.bool (sw s c)) ∧ Below w.heap.size w w' := by
 generalize hV : sw s c = V
 have HE : Hid (V = (c.args.all (cK s) && (decide (1 ≤ c.count) && decide (c.count ≤ 5000) && pM c))) := by rw [← hV]; unfold sw; rw [if_pos hk]; rfl
 have ek : (c.kind == 1) = true := by simp [hk]
 clear hV hk
 obtain ⟨An, nn, Ar, nr, Ao, no, Ag, ng, Au, nu, At', nt, Aa, na, rfl, -⟩ := dP.form hx
 obtain ⟨AG, nG, rfl, hg, ug, mg⟩ := iY.form hy
 unfold maxLen at mg
 clear hy
 have hW : Below w.heap.size w ((w.alloc (.cells #[Value.slice An s.fu.length nn, .slice Ar s.aA.length nr, .slice Ao s.aI.length no, .slice Ag s.aB.length ng, .string s.dR, .int .i64 s.dL, .slice Au s.output.length nu, .slice At' s.gV.length nt, .slice Aa s.dY.length na, .bool s.gF, .int .i64 s.je, .int .i64 s.fT, .int .i64 s.kI] 52)).alloc (.cells #[Value.int .i64 c.kind, .int .i64 c.op, .int .i64 c.count, .slice AG c.args.length nG] 158)) := (bA _ _).alloc (by simp) _
 have a1 := (Blk.new w 52 #[Value.slice An s.fu.length nn, .slice Ar s.aA.length nr, .slice Ao s.aI.length no, .slice Ag s.aB.length ng, .string s.dR, .int .i64 s.dL, .slice Au s.output.length nu, .slice At' s.gV.length nt, .slice Aa s.dY.length na, .bool s.gF, .int .i64 s.je, .int .i64 s.fT, .int .i64 s.kI]).alloc (.cells #[Value.int .i64 c.kind, .int .i64 c.op, .int .i64 c.count, .slice AG c.args.length nG] 158)
 have a2 := Blk.newAt (w.alloc (.cells #[Value.slice An s.fu.length nn, .slice Ar s.aA.length nr, .slice Ao s.aI.length no, .slice Ag s.aB.length ng, .string s.dR, .int .i64 s.dL, .slice Au s.output.length nu, .slice At' s.gV.length nt, .slice Aa s.dY.length na, .bool s.gF, .int .i64 s.je, .int .i64 s.fT, .int .i64 s.kI] 52)) 158 #[Value.int .i64 c.kind, .int .i64 c.op, .int .i64 c.count, .slice AG c.args.length nG] (w.heap.size + 1) (by simp)
 go_enter Tryz.func142, Tryz.ntmps142
 go_upto_region 1 with fail
 generalize (w.alloc (.cells #[Value.slice An s.fu.length nn, .slice Ar s.aA.length nr, .slice Ao s.aI.length no, .slice Ag s.aB.length ng, .string s.dR, .int .i64 s.dL, .slice Au s.output.length nu, .slice At' s.gV.length nt, .slice Aa s.dY.length na, .bool s.gF, .int .i64 s.je, .int .i64 s.fT, .int .i64 s.kI] 52)).alloc (.cells #[Value.int .i64 c.kind, .int .i64 c.op, .int .i64 c.count, .slice AG c.args.length nG] 158) = W at *
 have ca := a1.cell
 have cb := a2.cell
 have la := a1.lt
 have lb := a2.lt
 go_wp2_with fail
 refine (lN s _ _ (hx.below hW hhi) (nT hhi hW.size) (hst.below hW hst.2)).mono ?_; rw [hsv]; rintro e w1 ⟨rfl, hb1⟩
 replace hW := hW.trans (hb1.mono hW.size)
 replace a1 := a1.later hb1
 replace a2 := a2.later hb1
 clear ca cb la lb hb1 hsv hst
 have ca := a1.cell
 have cb := a2.cell
 have la := a1.lt
 have lb := a2.lt
 have hAt := At.box a1 (hx.below hW hhi) (nT hhi hW.size)
 clear hx ca la
 go_wp2_with fail
 go_loopw [15] (fun i wr => ∃ k : Nat, k ≤ c.args.length ∧ i = .int .i64 k ∧ Hid ((c.args.take k).all (cK s) = true) ∧ Below w1.heap.size w1 wr) (fun i _ => c.args.length - (intOf i).toNat)
 case atStart => exact ⟨0, nZ _, rfl, by simp [Hid], bR _ _⟩
 case round =>
  obtain ⟨k, hk, rfl, hgo, hb⟩ := hrel
  obtain ⟨wo, rfl⟩ := nW wr
  have hz := hb.size
  by_cases hlt : k < c.args.length
  ·obtain ⟨a, ha⟩ : ∃ a, c.args[k]? = some a := ⟨_, gE hlt⟩
   obtain ⟨g', off', rfl, hg1, hg2, -, -, q0, q1, q2, q3, q4, q5⟩ := aQ.at_ (hg.below (hW.trans (hb.mono hW.size)) eP) ha
   have HN := lH (fun h => fJ (q := cK s) ha hgo.out h)
   have HF := lH (fun h => lI (q := cK s) (mG ha) h)
   clear ha hgo
   have hwa : Below w1.heap.size w1 (wo.alloc (.cells #[Value.int .i64 a.kind, .int .i64 a.number, .int .i64 a.index, .string a.text, .int .i64 a.eB, .int .i64 a.dW] 56)) := hb.alloc hz _
   have h0 := hAt.below hwa
   go_wp2_with fail
   refine (mX s a _ _ h0 (aQ.mk_ (lo := 0) (hi := 0))).mono ?_; rintro e w2 ⟨rfl, hb2⟩
   have hw2 := hwa.trans (hb2.mono hwa.size)
   clear q0 q1 q2 q3 q4 q5 hb2 h0
   cases hq : cK s a with
   | true =>
     have HN := lH (HN.out hq)
     clear HF hq
     go_wp2_with fail
     go_roundw
     case rel => exact ⟨k + 1, by omega, by go_num, HN, hw2⟩
     case measure => simp [intOf]; omega
   | false =>
     have HF := lH (HF.out hq)
     have HO : Hid (V = false) := lH (by rw [HE.out, HF.out]; rfl)
     clear HN HF HE hq
     go_wp2_with fail
     go_ret
     exact ⟨ah HO.out.symm, hW.trans (hw2.mono hW.size)⟩
  obtain rfl : k = c.args.length := by omega
  rw [List.take_length] at hgo
  replace HE : Hid (V = (decide (1 ≤ c.count) && decide (c.count ≤ 5000) && pM c)) := by show _ = _; rw [HE.out, hgo.out, Bool.true_and]
  replace hW := hW.trans (hb.mono hW.size)
  replace a2 := a2.later hb
  clear cb lb hlt hk hAt a1
  have cb := a2.cell
  have lb := a2.lt
  clear hb hz
  go_upto_region 10 with fail
  skip
  by_cases c1 : c.count < 1
  have HO : Hid (V = false) := lH (by rw [HE.out]; rw [dF (by omega)]; rfl)
  have dc1 : decide (c.count < 1) = true := by first | (simp; omega) | simp [c1]
  clear HE c1
  rotate_left
  have dc1 : decide (c.count < 1) = false := by first | (simp; omega) | simp [c1]
  by_cases c2 : 5000 < c.count
  have HO : Hid (V = false) := lH (by rw [HE.out]; rw [dF (show ¬ c.count ≤ 5000 by omega)]; simp)
  have dc2 : decide (5000 < c.count) = true := by first | (simp; omega) | simp [c2]
  clear HE c2
  rotate_left
  rotate_right 2
  iterate 2 focus
   go_wp2_with (fail)
   all_goals go_ret
   all_goals (exact ⟨ah HO.out.symm, (by first | exact hW | exact bN hW _)⟩)
  have dc2 : decide (5000 < c.count) = false := by first | (simp; omega) | simp [c2]
  replace HE : Hid (V = pM c) := by show _ = _; rw [HE.out, dT (by omega), dT (by omega)]; rfl
  clear c1 c2
  by_cases Bo : c.op = 320
  ·skip
   have e7 : (c.op == 7) = false := by simp; omega
   have e72 : (c.op == 72) = false := by simp; omega
   have FK : (c.op == 338) = false := by simp; omega
   have e317 : (c.op == 317) = false := by simp; omega
   have Mc : (c.op == 320) = true := by simp; omega
   clear hop
   have HX := lH Bo
   clear Bo
   by_cases n3 : ¬ c.args.length = 3
   have HO : Hid (V = false) := lH (by rw [HE.out]; rw [uG n3 (by have := HX.out; omega)])
   have dn3 : ((c.args.length : Int) == 3) = false := by first | (simp; omega) | simp [n3]
   clear HE n3
   rotate_left
   have dn3 : ((c.args.length : Int) == 3) = true := by first | (simp; omega) | simp [n3]
   have Hn3 : Hid (c.args.length = 3) := lH (by omega)
   clear n3
   obtain ⟨a, ha⟩ : ∃ a, c.args[0]? = some a := ⟨_, gE (by have := Hn3.out; omega)⟩
   obtain ⟨b, hb⟩ : ∃ a, c.args[1]? = some a := ⟨_, gE (by have := Hn3.out; omega)⟩
   obtain ⟨d, hd⟩ : ∃ a, c.args[2]? = some a := ⟨_, gE (by have := Hn3.out; omega)⟩
   obtain ⟨g', off', rfl, hg1, hg2, -⟩ := aQ.at_ hg (j := 0) ha
   have hi0 : 0 < c.args.length := (by have := Hn3.out; omega)
   have hi1 : (1 : Int) < (c.args.length : Int) := (by have := Hn3.out; omega)
   have hi2 : (2 : Int) < (c.args.length : Int) := (by have := Hn3.out; omega)
   obtain ⟨pa0, pa1, pa2, pa3, pa4, pa5⟩ := dV (hg.below hW eP) ha (p := off') (by omega)
   obtain ⟨pb0, pb1, pb2, pb3, pb4, pb5⟩ := dV (hg.below hW eP) hb (p := off' + 6) (by omega)
   obtain ⟨pd0, pd1, pd2, pd3, pd4, pd5⟩ := dV (hg.below hW eP) hd (p := off' + 12) (by omega)
   replace HE : Hid (V = (decide (a.kind = 2) && pz b d)) := by show _ = _; rw [HE.out, qm Hn3.out ha hb hd, if_neg (by have := HX.out; omega), if_pos HX.out]
   by_cases ka : ¬ a.kind = 2
   have HO : Hid (V = false) := lH (by rw [HE.out]; rw [dF ka]; simp)
   have dka : (a.kind == 2) = false := by first | (simp; omega) | simp [ka]
   clear HE ka
   rotate_left
   rotate_right 2
   iterate 2 focus
    go_upto_region 22 with fail
    go_quiet (fail)
    go_wp2_with (fail)
    all_goals go_ret
    all_goals (exact ⟨ah HO.out.symm, (by first | exact hW | exact bN hW _)⟩)
   have dka : (a.kind == 2) = true := by first | (simp; omega) | simp [ka]
   have Hka : Hid (a.kind = 2) := lH (by omega)
   clear ka
   have HO : Hid (V = pz b d) := lH (by rw [HE.out, Hka.out]; rfl)
   clear HE
   have ht : b.kind = 2 → b.text.size ≤ 120 := wG (List.all_eq_true.1 hgo.out b (mG hb))
   go_upto_region 22 with fail
   have hgi : g' < wo.heap.size := nL (nL hg2 eP) hW.size
   have kcb := qC (B := wo.heap.size) a2 lb
   have FB := aW (B := wo.heap.size) pa0 hgi
   have Iv := aW (B := wo.heap.size) pa1 hgi
   have Iw := aW (B := wo.heap.size) pa2 hgi
   have FC := aW (B := wo.heap.size) pa3 hgi
   have Iy := aW (B := wo.heap.size) pa4 hgi
   have Iz := aW (B := wo.heap.size) pa5 hgi
   have FD := aW (B := wo.heap.size) pb0 hgi
   have FE := aW (B := wo.heap.size) pb1 hgi
   have IB := aW (B := wo.heap.size) pb2 hgi
   have IC := aW (B := wo.heap.size) pb3 hgi
   have IE := aW (B := wo.heap.size) pb4 hgi
   have IG := aW (B := wo.heap.size) pb5 hgi
   have Md := aW (B := wo.heap.size) pd0 hgi
   have Me := aW (B := wo.heap.size) pd1 hgi
   have Mf := aW (B := wo.heap.size) pd2 hgi
   have Mg := aW (B := wo.heap.size) pd3 hgi
   have Mh := aW (B := wo.heap.size) pd4 hgi
   have Mi := aW (B := wo.heap.size) pd5 hgi
   refine fI (B := wo.heap.size) (by kernel_rfl) (by kernel_rfl) ?_
   repeat (go_big_quiet_step (first | (go_at_call 160; exact fB (nR _) (vv b d _ _ _ (aQ.mk_ (lo := 0) (hi := 0)) (aQ.mk_ (lo := 0) (hi := 0)) ht)) | fail))
   refine wpQuiet_nil ?_
   intro w' hw'
   obtain ⟨v, rfl⟩ := hw'
   replace hW := Kept.of hW hW.size v
   go_wp2_with (fail)
   all_goals go_ret
   all_goals (exact ⟨ah HO.out.symm, (by first | exact hW | exact bN hW _)⟩)
  have CS : c.op = 321 := by omega
  have e7 : (c.op == 7) = false := by simp; omega
  have e72 : (c.op == 72) = false := by simp; omega
  have FK : (c.op == 338) = false := by simp; omega
  have e317 : (c.op == 317) = false := by simp; omega
  have Mc : (c.op == 320) = false := by simp; omega
  have e321 : (c.op == 321) = true := by simp; omega
  clear hop
  have HX := lH CS
  clear CS
  clear Bo
  by_cases n3 : ¬ c.args.length = 3
  have HO : Hid (V = false) := lH (by rw [HE.out]; rw [uG n3 (by have := HX.out; omega)])
  have dn3 : ((c.args.length : Int) == 3) = false := by first | (simp; omega) | simp [n3]
  clear HE n3
  rotate_left
  have dn3 : ((c.args.length : Int) == 3) = true := by first | (simp; omega) | simp [n3]
  have Hn3 : Hid (c.args.length = 3) := lH (by omega)
  clear n3
  obtain ⟨a, ha⟩ : ∃ a, c.args[0]? = some a := ⟨_, gE (by have := Hn3.out; omega)⟩
  obtain ⟨b, hb⟩ : ∃ a, c.args[1]? = some a := ⟨_, gE (by have := Hn3.out; omega)⟩
  obtain ⟨d, hd⟩ : ∃ a, c.args[2]? = some a := ⟨_, gE (by have := Hn3.out; omega)⟩
  obtain ⟨g', off', rfl, hg1, hg2, -⟩ := aQ.at_ hg (j := 0) ha
  have hi0 : 0 < c.args.length := (by have := Hn3.out; omega)
  have hi1 : (1 : Int) < (c.args.length : Int) := (by have := Hn3.out; omega)
  have hi2 : (2 : Int) < (c.args.length : Int) := (by have := Hn3.out; omega)
  obtain ⟨pa0, pa1, pa2, pa3, pa4, pa5⟩ := dV (hg.below hW eP) ha (p := off') (by omega)
  obtain ⟨pb0, pb1, pb2, pb3, pb4, pb5⟩ := dV (hg.below hW eP) hb (p := off' + 6) (by omega)
  obtain ⟨pd0, pd1, pd2, pd3, pd4, pd5⟩ := dV (hg.below hW eP) hd (p := off' + 12) (by omega)
  replace HE : Hid (V = (decide (a.kind = 3) && pz b d)) := by show _ = _; rw [HE.out, qm Hn3.out ha hb hd, if_neg (by have := HX.out; omega), if_neg (by have := HX.out; omega), if_pos HX.out]
  by_cases ka : ¬ a.kind = 3
  have HO : Hid (V = false) := lH (by rw [HE.out]; rw [dF ka]; simp)
  have dka : (a.kind == 3) = false := by first | (simp; omega) | simp [ka]
  clear HE ka
  rotate_left
  rotate_right 2
  iterate 2 focus
   go_upto_region 24 with fail
   go_quiet (fail)
   go_wp2_with (fail)
   all_goals go_ret
   all_goals (exact ⟨ah HO.out.symm, (by first | exact hW | exact bN hW _)⟩)
  have dka : (a.kind == 3) = true := by first | (simp; omega) | simp [ka]
  have Hka : Hid (a.kind = 3) := lH (by omega)
  clear ka
  have HO : Hid (V = pz b d) := lH (by rw [HE.out, Hka.out]; rfl)
  clear HE
  have ht : b.kind = 2 → b.text.size ≤ 120 := wG (List.all_eq_true.1 hgo.out b (mG hb))
  go_upto_region 24 with fail
  have hgi : g' < wo.heap.size := nL (nL hg2 eP) hW.size
  have kcb := qC (B := wo.heap.size) a2 lb
  have FB := aW (B := wo.heap.size) pa0 hgi
  have Iv := aW (B := wo.heap.size) pa1 hgi
  have Iw := aW (B := wo.heap.size) pa2 hgi
  have FC := aW (B := wo.heap.size) pa3 hgi
  have Iy := aW (B := wo.heap.size) pa4 hgi
  have Iz := aW (B := wo.heap.size) pa5 hgi
  have FD := aW (B := wo.heap.size) pb0 hgi
  have FE := aW (B := wo.heap.size) pb1 hgi
  have IB := aW (B := wo.heap.size) pb2 hgi
  have IC := aW (B := wo.heap.size) pb3 hgi
  have IE := aW (B := wo.heap.size) pb4 hgi
  have IG := aW (B := wo.heap.size) pb5 hgi
  have Md := aW (B := wo.heap.size) pd0 hgi
  have Me := aW (B := wo.heap.size) pd1 hgi
  have Mf := aW (B := wo.heap.size) pd2 hgi
  have Mg := aW (B := wo.heap.size) pd3 hgi
  have Mh := aW (B := wo.heap.size) pd4 hgi
  have Mi := aW (B := wo.heap.size) pd5 hgi
  refine fI (B := wo.heap.size) (by kernel_rfl) (by kernel_rfl) ?_
  repeat (go_big_quiet_step (first | (go_at_call 160; exact fB (nR _) (vv b d _ _ _ (aQ.mk_ (lo := 0) (hi := 0)) (aQ.mk_ (lo := 0) (hi := 0)) ht)) | fail))
  refine wpQuiet_nil ?_
  intro w' hw'
  obtain ⟨v, rfl⟩ := hw'
  replace hW := Kept.of hW hW.size v
  go_wp2_with (fail)
  all_goals go_ret
  all_goals (exact ⟨ah HO.out.symm, (by first | exact hW | exact bN hW _)⟩)
theorem J3 (s : dP) (c : iY) (x y : Value) (w : World) {lo hi lo' hi' : Nat} (hx : fA w lo hi dP.ay x s) (hy : fA w lo' hi' iY.ay y c) (hhi : hi ≤ w.heap.size) (eP : hi' ≤ w.heap.size) (hst : iw w) (hsv : sV s = true) (hk : c.kind = 1) (hop : c.op ≠ 7 ∧ c.op ≠ 72 ∧ c.op ≠ 338 ∧ c.op ≠ 317 ∧ c.op ≠ 320 ∧ c.op ≠ 321) :
 Calls Tryz.prog 142 #[x, y] w fun e w' => e = .returned (.bool (sw s c)) ∧ Below w.heap.size w w' := by
 generalize hV : sw s c = V
 have HE : Hid (V = (c.args.all (cK s) && (decide (1 ≤ c.count) && decide (c.count ≤ 5000) && pM c))) := by rw [← hV]; unfold sw; rw [if_pos hk]; rfl
 have ek : (c.kind == 1) = true := by simp [hk]
 clear hV hk
 obtain ⟨An, nn, Ar, nr, Ao, no, Ag, ng, Au, nu, At', nt, Aa, na, rfl, -⟩ := dP.form hx
 obtain ⟨AG, nG, rfl, hg, ug, mg⟩ := iY.form hy
 unfold maxLen at mg
 clear hy
 have hW : Below w.heap.size w ((w.alloc (.cells #[Value.slice An s.fu.length nn, .slice Ar s.aA.length nr, .slice Ao s.aI.length no, .slice Ag s.aB.length ng, .string s.dR, .int .i64 s.dL, .slice Au s.output.length nu, .slice At' s.gV.length nt, .slice Aa s.dY.length na, .bool s.gF, .int .i64 s.je, .int .i64 s.fT, .int .i64 s.kI] 52)).alloc (.cells #[Value.int .i64 c.kind, .int .i64 c.op, .int .i64 c.count, .slice AG c.args.length nG] 158)) := (bA _ _).alloc (by simp) _
 have a1 := (Blk.new w 52 #[Value.slice An s.fu.length nn, .slice Ar s.aA.length nr, .slice Ao s.aI.length no, .slice Ag s.aB.length ng, .string s.dR, .int .i64 s.dL, .slice Au s.output.length nu, .slice At' s.gV.length nt, .slice Aa s.dY.length na, .bool s.gF, .int .i64 s.je, .int .i64 s.fT, .int .i64 s.kI]).alloc (.cells #[Value.int .i64 c.kind, .int .i64 c.op, .int .i64 c.count, .slice AG c.args.length nG] 158)
 have a2 := Blk.newAt (w.alloc (.cells #[Value.slice An s.fu.length nn, .slice Ar s.aA.length nr, .slice Ao s.aI.length no, .slice Ag s.aB.length ng, .string s.dR, .int .i64 s.dL, .slice Au s.output.length nu, .slice At' s.gV.length nt, .slice Aa s.dY.length na, .bool s.gF, .int .i64 s.je, .int .i64 s.fT, .int .i64 s.kI] 52)) 158 #[Value.int .i64 c.kind, .int .i64 c.op, .int .i64 c.count, .slice AG c.args.length nG] (w.heap.size + 1) (by simp)
 go_enter Tryz.func142, Tryz.ntmps142
 go_upto_region 1 with fail
 generalize (w.alloc (.cells #[Value.slice An s.fu.length nn, .slice Ar s.aA.length nr, .slice Ao s.aI.length no, .slice Ag s.aB.length ng, .string s.dR, .int .i64 s.dL, .slice Au s.output.length nu, .slice At' s.gV.length nt, .slice Aa s.dY.length na, .bool s.gF, .int .i64 s.je, .int .i64 s.fT, .int .i64 s.kI] 52)).alloc (.cells #[Value.int .i64 c.kind, .int .i64 c.op, .int .i64 c.count, .slice AG c.args.length nG] 158) = W at *
 have ca := a1.cell
 have cb := a2.cell
 have la := a1.lt
 have lb := a2.lt
 go_wp2_with fail
 refine (lN s _ _ (hx.below hW hhi) (nT hhi hW.size) (hst.below hW hst.2)).mono ?_; rw [hsv]; rintro e w1 ⟨rfl, hb1⟩
 replace hW := hW.trans (hb1.mono hW.size)
 replace a1 := a1.later hb1
 replace a2 := a2.later hb1
 clear ca cb la lb hb1 hsv hst
 have ca := a1.cell
 have cb := a2.cell
 have la := a1.lt
 have lb := a2.lt
 have hAt := At.box a1 (hx.below hW hhi) (nT hhi hW.size)
 clear hx ca la
 go_wp2_with fail
 go_loopw [15] (fun i wr => ∃ k : Nat, k ≤ c.args.length ∧ i = .int .i64 k ∧ Hid ((c.args.take k).all (cK s) = true) ∧ Below w1.heap.size w1 wr) (fun i _ => c.args.length - (intOf i).toNat)
 case atStart => exact ⟨0, nZ _, rfl, by simp [Hid], bR _ _⟩
 case round =>
  obtain ⟨k, hk, rfl, hgo, hb⟩ := hrel
  obtain ⟨wo, rfl⟩ := nW wr
  have hz := hb.size
  by_cases hlt : k < c.args.length
  ·obtain ⟨a, ha⟩ : ∃ a, c.args[k]? = some a := ⟨_, gE hlt⟩
   obtain ⟨g', off', rfl, hg1, hg2, -, -, q0, q1, q2, q3, q4, q5⟩ := aQ.at_ (hg.below (hW.trans (hb.mono hW.size)) eP) ha
   have HN := lH (fun h => fJ (q := cK s) ha hgo.out h)
   have HF := lH (fun h => lI (q := cK s) (mG ha) h)
   clear ha hgo
   have hwa : Below w1.heap.size w1 (wo.alloc (.cells #[Value.int .i64 a.kind, .int .i64 a.number, .int .i64 a.index, .string a.text, .int .i64 a.eB, .int .i64 a.dW] 56)) := hb.alloc hz _
   have h0 := hAt.below hwa
   go_wp2_with fail
   refine (mX s a _ _ h0 (aQ.mk_ (lo := 0) (hi := 0))).mono ?_; rintro e w2 ⟨rfl, hb2⟩
   have hw2 := hwa.trans (hb2.mono hwa.size)
   clear q0 q1 q2 q3 q4 q5 hb2 h0
   cases hq : cK s a with
   | true =>
     have HN := lH (HN.out hq)
     clear HF hq
     go_wp2_with fail
     go_roundw
     case rel => exact ⟨k + 1, by omega, by go_num, HN, hw2⟩
     case measure => simp [intOf]; omega
   | false =>
     have HF := lH (HF.out hq)
     have HO : Hid (V = false) := lH (by rw [HE.out, HF.out]; rfl)
     clear HN HF HE hq
     go_wp2_with fail
     go_ret
     exact ⟨ah HO.out.symm, hW.trans (hw2.mono hW.size)⟩
  obtain rfl : k = c.args.length := by omega
  rw [List.take_length] at hgo
  replace HE : Hid (V = (decide (1 ≤ c.count) && decide (c.count ≤ 5000) && pM c)) := by show _ = _; rw [HE.out, hgo.out, Bool.true_and]
  replace hW := hW.trans (hb.mono hW.size)
  replace a2 := a2.later hb
  clear cb lb hlt hk hAt a1
  have cb := a2.cell
  have lb := a2.lt
  clear hb hz
  go_upto_region 10 with fail
  skip
  by_cases c1 : c.count < 1
  have HO : Hid (V = false) := lH (by rw [HE.out]; rw [dF (by omega)]; rfl)
  have dc1 : decide (c.count < 1) = true := by first | (simp; omega) | simp [c1]
  clear HE c1
  rotate_left
  have dc1 : decide (c.count < 1) = false := by first | (simp; omega) | simp [c1]
  by_cases c2 : 5000 < c.count
  have HO : Hid (V = false) := lH (by rw [HE.out]; rw [dF (show ¬ c.count ≤ 5000 by omega)]; simp)
  have dc2 : decide (5000 < c.count) = true := by first | (simp; omega) | simp [c2]
  clear HE c2
  rotate_left
  have dc2 : decide (5000 < c.count) = false := by first | (simp; omega) | simp [c2]
  replace HE : Hid (V = pM c) := by show _ = _; rw [HE.out, dT (by omega), dT (by omega)]; rfl
  clear c1 c2
  obtain ⟨x7, x72, CQ, CP, Bo, CS⟩ := hop
  have HO : Hid (V = false) := lH (by rw [HE.out, Es x7 CP x72 CQ Bo CS])
  have e7 : (c.op == 7) = false := by simp [x7]
  have e72 : (c.op == 72) = false := by simp [x72]
  have FK : (c.op == 338) = false := by simp [CQ]
  have e317 : (c.op == 317) = false := by simp [CP]
  have Mc : (c.op == 320) = false := by simp [Bo]
  have e321 : (c.op == 321) = false := by simp [CS]
  clear HE x7 x72 CQ CP Bo CS
  iterate 3 focus
   go_wp2_with (fail)
   all_goals go_ret
   all_goals (exact ⟨ah HO.out.symm, (by first | exact hW | exact bN hW _)⟩)
end Go.Proofs.YtoddlphekcihgaaGreatDoor
