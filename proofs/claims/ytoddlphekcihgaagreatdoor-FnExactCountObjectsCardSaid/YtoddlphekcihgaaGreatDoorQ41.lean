/- FJ of the reference. -/
import Derived.Test.YtoddlphekcihgaaGreatDoorQ40
set_option maxRecDepth 100000
set_option maxHeartbeats 40000000
set_option linter.unusedVariables false
set_option linter.unusedSimpArgs false
namespace Go.Proofs.YtoddlphekcihgaaGreatDoor
open Go.RowKit
theorem mZ (s : dP) (x : Value) (w : World) {lo hi : Nat} (hx : fA w lo hi dP.ay x s) (hhi : hi ≤ w.heap.size) :
 Calls Tryz.prog 35 #[x] w fun e w' => e = .returned (.bool (sV s)) ∧ Below w.heap.size w w' := by
 generalize hV : sV s = V
 have HE : Hid (V = (gH s && jP s && s.dY.all (wm s) && xK s && s.aB.all (ig s) && s.aI.all (fZ s) && qM s.aI)) := by rw [← hV]; rfl
 clear hV
 obtain ⟨An, nn, Ar, nr, Ao, no, Ag, ng, Au, nu, At', nt, Aa, na, rfl, hn, un, mn, hr, ur, mr, ho, uo, mo, hgl, ugl, mgl, hu, uu, mu, ht, ut, mt, ha, ua, ma⟩ := dP.form hx
 unfold maxLen at mn mr mo mgl mu ma
 clear ut mt
 obtain ⟨a0, hW⟩ := eZ w 52 #[.slice An s.fu.length nn, .slice Ar s.aA.length nr, .slice Ao s.aI.length no, .slice Ag s.aB.length ng, .string s.dR, .int .i64 s.dL, .slice Au s.output.length nu, .slice At' s.gV.length nt, .slice Aa s.dY.length na, .bool s.gF, .int .i64 s.je, .int .i64 s.fT, .int .i64 s.kI]
 go_enter Tryz.func35, Tryz.ntmps35
 go_upto_region 1 with fail
 generalize w.alloc (.cells #[Value.slice An s.fu.length nn, .slice Ar s.aA.length nr, .slice Ao s.aI.length no, .slice Ag s.aB.length ng, .string s.dR, .int .i64 s.dL, .slice Au s.output.length nu, .slice At' s.gV.length nt, .slice Aa s.dY.length na, .bool s.gF, .int .i64 s.je, .int .i64 s.fT, .int .i64 s.kI] 52) = W at *
 have ca := a0.cell
 have la := a0.lt
 rcases dC ((12 : Int) < (s.fu.length : Int)) with ⟨t1, dt1⟩ | ⟨t1, dt1⟩
 ·have HO : Hid (V = false) := lH (by rw [HE.out, show gH s = false by unfold gH; rw [show decide (s.fu.length ≤ 12) = false from dF (by omega)]; simp]; simp)
  clear t1
  clear HE
  go_wp2_with (first | (go_at_call 36; refine (bJ _ _ _ _).mono ?_; (first | rw [HP.out] | rw [HB.out] | rw [HT.out]); rintro e w1 ⟨rfl, rfl⟩) | (go_at_call 70; refine (gu s.fu 12 _ _ lo hi (hn.below hW hhi) (nT hhi hW.size)).mono ?_; rw [HN.out]; rintro e w1 ⟨rfl, hb1⟩; replace hb1 := nX hW a0 hb1; clear hW a0 ca la; obtain ⟨hW, a0, ca, la⟩ := hb1) | fail)
  go_ret
  exact ⟨ah HO.out.symm, hW⟩
 have gt1 : s.fu.length ≤ 12 := by omega
 clear t1
 have HRL := lH (fun h : ¬ s.aA.length ≤ 8 => show nQ s.aA = false by unfold nQ; rw [dF h, Bool.and_false])
 rcases dC ((8 : Int) < (s.aA.length : Int)) with ⟨t2, dt2⟩ | ⟨t2, dt2⟩
 ·have HO : Hid (V = false) := lH (by rw [HE.out, show gH s = false by unfold gH; rw [HRL.out (by omega)]; simp]; simp)
  clear t2
  clear HE
  go_wp2_with (first | (go_at_call 36; refine (bJ _ _ _ _).mono ?_; (first | rw [HP.out] | rw [HB.out] | rw [HT.out]); rintro e w1 ⟨rfl, rfl⟩) | (go_at_call 70; refine (gu s.fu 12 _ _ lo hi (hn.below hW hhi) (nT hhi hW.size)).mono ?_; rw [HN.out]; rintro e w1 ⟨rfl, hb1⟩; replace hb1 := nX hW a0 hb1; clear hW a0 ca la; obtain ⟨hW, a0, ca, la⟩ := hb1) | fail)
  go_ret
  exact ⟨ah HO.out.symm, hW⟩
 have gt2 : s.aA.length ≤ 8 := by omega
 clear t2
 rcases dC ((12 : Int) < (s.aB.length : Int)) with ⟨t3, dt3⟩ | ⟨t3, dt3⟩
 ·have HO : Hid (V = false) := lH (by rw [HE.out, show gH s = false by unfold gH; rw [show decide (s.aB.length ≤ 12) = false from dF (by omega)]; simp]; simp)
  clear t3
  clear HE
  go_wp2_with (first | (go_at_call 36; refine (bJ _ _ _ _).mono ?_; (first | rw [HP.out] | rw [HB.out] | rw [HT.out]); rintro e w1 ⟨rfl, rfl⟩) | (go_at_call 70; refine (gu s.fu 12 _ _ lo hi (hn.below hW hhi) (nT hhi hW.size)).mono ?_; rw [HN.out]; rintro e w1 ⟨rfl, hb1⟩; replace hb1 := nX hW a0 hb1; clear hW a0 ca la; obtain ⟨hW, a0, ca, la⟩ := hb1) | fail)
  go_ret
  exact ⟨ah HO.out.symm, hW⟩
 have gt3 : s.aB.length ≤ 12 := by omega
 clear t3
 rcases dC ((120 : Int) < (s.dR.size : Int)) with ⟨t4, dt4⟩ | ⟨t4, dt4⟩
 ·have HO : Hid (V = false) := lH (by rw [HE.out, show gH s = false by unfold gH; rw [show decide (s.dR.size ≤ 120) = false from dF (by omega)]; simp]; simp)
  clear t4
  clear HE
  go_wp2_with (first | (go_at_call 36; refine (bJ _ _ _ _).mono ?_; (first | rw [HP.out] | rw [HB.out] | rw [HT.out]); rintro e w1 ⟨rfl, rfl⟩) | (go_at_call 70; refine (gu s.fu 12 _ _ lo hi (hn.below hW hhi) (nT hhi hW.size)).mono ?_; rw [HN.out]; rintro e w1 ⟨rfl, hb1⟩; replace hb1 := nX hW a0 hb1; clear hW a0 ca la; obtain ⟨hW, a0, ca, la⟩ := hb1) | fail)
  go_ret
  exact ⟨ah HO.out.symm, hW⟩
 have gt4 : s.dR.size ≤ 120 := by omega
 clear t4
 cases p1 : inB s.dL 1 ((s.dR.size : Int) + 1) with
 | false =>
   have HP := lH p1
   have hbad : ¬ (1 ≤ s.dL ∧ s.dL ≤ (s.dR.size : Int) + 1) := by simp [inB] at p1; omega
   have HO : Hid (V = false) := lH (by rw [HE.out, show gH s = false by unfold gH; rw [Bool.eq_false_iff]; intro h; simp at h; omega]; simp)
   clear p1 hbad
   clear HE
   go_wp2_with (first | (go_at_call 36; refine (bJ _ _ _ _).mono ?_; (first | rw [HP.out] | rw [HB.out] | rw [HT.out]); rintro e w1 ⟨rfl, rfl⟩) | (go_at_call 70; refine (gu s.fu 12 _ _ lo hi (hn.below hW hhi) (nT hhi hW.size)).mono ?_; rw [HN.out]; rintro e w1 ⟨rfl, hb1⟩; replace hb1 := nX hW a0 hb1; clear hW a0 ca la; obtain ⟨hW, a0, ca, la⟩ := hb1) | fail)
   go_ret
   exact ⟨ah HO.out.symm, hW⟩
 | true =>
 have HP := lH p1
 have gp1 : 1 ≤ s.dL ∧ s.dL ≤ (s.dR.size : Int) + 1 := by simp [inB] at p1; omega
 clear p1
 rcases dC ((40 : Int) < (s.dY.length : Int)) with ⟨t6, dt6⟩ | ⟨t6, dt6⟩
 ·have HO : Hid (V = false) := lH (by rw [HE.out, show gH s = false by unfold gH; rw [show decide (s.dY.length ≤ 40) = false from dF (by omega)]; simp]; simp)
  clear t6
  clear HE
  go_wp2_with (first | (go_at_call 36; refine (bJ _ _ _ _).mono ?_; (first | rw [HP.out] | rw [HB.out] | rw [HT.out]); rintro e w1 ⟨rfl, rfl⟩) | (go_at_call 70; refine (gu s.fu 12 _ _ lo hi (hn.below hW hhi) (nT hhi hW.size)).mono ?_; rw [HN.out]; rintro e w1 ⟨rfl, hb1⟩; replace hb1 := nX hW a0 hb1; clear hW a0 ca la; obtain ⟨hW, a0, ca, la⟩ := hb1) | fail)
  go_ret
  exact ⟨ah HO.out.symm, hW⟩
 have gt6 : s.dY.length ≤ 40 := by omega
 clear t6
 rcases dC (s.kI < 0) with ⟨n5, dn5⟩ | ⟨n5, dn5⟩
 ·have HO : Hid (V = false) := lH (by rw [HE.out, show jP s = false by unfold jP; rw [show decide (0 ≤ s.kI) = false from dF (by omega)]; simp]; simp)
  clear n5
  clear HE
  go_wp2_with (first | (go_at_call 36; refine (bJ _ _ _ _).mono ?_; (first | rw [HP.out] | rw [HB.out] | rw [HT.out]); rintro e w1 ⟨rfl, rfl⟩) | (go_at_call 70; refine (gu s.fu 12 _ _ lo hi (hn.below hW hhi) (nT hhi hW.size)).mono ?_; rw [HN.out]; rintro e w1 ⟨rfl, hb1⟩; replace hb1 := nX hW a0 hb1; clear hW a0 ca la; obtain ⟨hW, a0, ca, la⟩ := hb1) | fail)
  go_ret
  exact ⟨ah HO.out.symm, hW⟩
 have gn5 : 0 ≤ s.kI := by omega
 clear n5
 cases b1 : inB s.fT 0 4000
 have HB := lH b1
 have hbad : ¬ (0 ≤ s.fT ∧ s.fT ≤ 4000) := by simp [inB] at b1; omega
 have HO : Hid (V = false) := lH (by rw [HE.out, show jP s = false by unfold jP; rw [Bool.eq_false_iff]; intro h; simp at h; omega]; simp)
 clear b1 hbad
 clear HE
 rotate_left
 have HB := lH b1
 have gb1 : 0 ≤ s.fT ∧ s.fT ≤ 4000 := by simp [inB] at b1; omega
 clear b1
 cases k1 : inB s.je 0 s.fT
 have HT := lH k1
 have hbad : ¬ (0 ≤ s.je ∧ s.je ≤ s.fT) := by simp [inB] at k1; omega
 have HO : Hid (V = false) := lH (by rw [HE.out, show jP s = false by unfold jP; rw [Bool.eq_false_iff]; intro h; simp at h; omega]; simp)
 clear k1 hbad
 clear HE
 rotate_left
 have HT := lH k1
 have gk1 : 0 ≤ s.je ∧ s.je ≤ s.fT := by simp [inB] at k1; omega
 clear k1
 cases hq : (s.fu.all fM && decide (s.fu.length ≤ 12))
 have HN := lH hq
 have hq2 : s.fu.all fM = false := by rw [dT gt1, Bool.and_true] at hq; exact hq
 have HO : Hid (V = false) := lH (by rw [HE.out, show gH s = false by unfold gH; rw [hq2]; simp]; simp)
 clear hq hq2
 clear HE
 rotate_left
 rotate_right 3
 iterate 3 focus
  go_wp2_with (first | (go_at_call 36; refine (bJ _ _ _ _).mono ?_; (first | rw [HP.out] | rw [HB.out] | rw [HT.out]); rintro e w1 ⟨rfl, rfl⟩) | (go_at_call 70; refine (gu s.fu 12 _ _ lo hi (hn.below hW hhi) (nT hhi hW.size)).mono ?_; rw [HN.out]; rintro e w1 ⟨rfl, hb1⟩; replace hb1 := nX hW a0 hb1; clear hW a0 ca la; obtain ⟨hW, a0, ca, la⟩ := hb1) | fail)
  go_ret
  exact ⟨ah HO.out.symm, hW⟩
 have HN := lH hq
 have hq2 : s.fu.all fM = true := by rw [dT gt1, Bool.and_true] at hq; exact hq
 have HE : Hid (V = (s.aA.all tJ && s.dY.all (wm s) && xK s && s.aB.all (ig s) && s.aI.all (fZ s) && qM s.aI)) := by
  show _ = _
  rw [HE.out, show jP s = true by unfold jP; simp; omega, show gH s = s.aA.all tJ by unfold gH nQ; rw [hq2, dT gt1, dT gt3, dT gt4, dT gp1.1, dT gp1.2, dT gt6, dT gt2]; simp, Bool.and_true]
 clear hq hq2 HRL
 go_wp2_with (first | (go_at_call 36; refine (bJ _ _ _ _).mono ?_; (first | rw [HP.out] | rw [HB.out] | rw [HT.out]); rintro e w1 ⟨rfl, rfl⟩) | (go_at_call 70; refine (gu s.fu 12 _ _ lo hi (hn.below hW hhi) (nT hhi hW.size)).mono ?_; rw [HN.out]; rintro e w1 ⟨rfl, hb1⟩; replace hb1 := nX hW a0 hb1; clear hW a0 ca la; obtain ⟨hW, a0, ca, la⟩ := hb1) | fail)
 clear dt1 dt2 dt3 dt4 dt6 dn5 gt1 gt2 gt3 gt4 gt6 gn5 gp1 gb1 gk1 HN HP HB HT
 skip
 go_loopw [3] (fun i wr => ∃ k : Nat, k ≤ s.aA.length ∧ i = .int .i64 k ∧ Hid ((s.aA.take k).all tJ = true) ∧ Below w.heap.size w wr ∧ Blk wr w.heap.size 52 #[Value.slice An s.fu.length nn, .slice Ar s.aA.length nr, .slice Ao s.aI.length no, .slice Ag s.aB.length ng, .string s.dR, .int .i64 s.dL, .slice Au s.output.length nu, .slice At' s.gV.length nt, .slice Aa s.dY.length na, .bool s.gF, .int .i64 s.je, .int .i64 s.fT, .int .i64 s.kI]) (fun i _ => s.aA.length - (intOf i).toNat)
 case atStart => exact ⟨0, nZ _, rfl, by simp [Hid], hW, a0⟩
 case round =>
  clear hW a0 ca la
  obtain ⟨k, hk, rfl, hgo, hb, a0⟩ := hrel
  obtain ⟨wo, rfl⟩ := nW wr
  have hz := hb.size
  have ca := a0.cell
  have la := a0.lt
  by_cases hlt : k < s.aA.length
  ·obtain ⟨c, hc⟩ : ∃ c, s.aA[k]? = some c := ⟨_, gE hlt⟩
   obtain ⟨g', off', Af, nf, rfl, hg1, hg2, hmem, hcr, q0, q1, q2⟩ := gU.at_ (hr.below hb hhi) hc
   have hfl := gU.rows hcr
   have HN := lH (fun h => fJ (q := tJ) hc hgo.out h)
   have HF : Hid (tJ c = false → V = false) := fun h => by rw [HE.out, lI hmem h]; rfl
   have HB : Hid (tJ c = (fM c.name && decide (c.fields.length ≤ 6) && c.fields.all fM && !uW c.fields && decide (0 ≤ c.line))) := rfl
   have hwa : Below w.heap.size w (wo.alloc (.cells #[Value.string c.name, .slice Af c.fields.length nf, .int .i64 c.line] 142)) := hb.alloc hz _
   have b0 := Blk.new wo 142 #[Value.string c.name, .slice Af c.fields.length nf, .int .i64 c.line]
   have a1 := a0.alloc (.cells #[Value.string c.name, .slice Af c.fields.length nf, .int .i64 c.line] 142)
   have hf0 := hfl.alloc (nT hhi hz) (.cells #[Value.string c.name, .slice Af c.fields.length nf, .int .i64 c.line] 142)
   clear hc hmem hcr hfl hgo
   go_upto_region 7 with fail
   generalize wo.alloc (.cells #[Value.string c.name, .slice Af c.fields.length nf, .int .i64 c.line] 142) = W2 at *
   clear q0 q1 q2 ca la
   have ca := b0.cell
   have la := b0.lt
   have hwz := hwa.size
   cases n1 : fM c.name
   have H1 := lH n1
   have HV := lH (HF.out (by rw [HB.out, n1]; simp))
   clear n1 HN
   rotate_left
   have H1 := lH n1
   clear n1
   have HB2 : Hid ((c.fields.all fM && decide (c.fields.length ≤ 6)) = false → tJ c = false) := fun h => by rw [HB.out]; cases hx : c.fields.all fM <;> cases hy : decide (c.fields.length ≤ 6) <;> simp_all
   cases n2 : (c.fields.all fM && decide (c.fields.length ≤ 6))
   have H2 := lH n2
   have HV := lH (HF.out (HB2.out n2))
   clear n2 HN
   rotate_left
   rotate_right 2
   iterate 2 focus
    go_wp2_with (first | (go_at_call 71; refine (lG c.name _).mono ?_; rw [H1.out]; rintro e w2 ⟨rfl, hb1⟩; replace hwa := hwa.trans (hb1.mono hwa.size); replace a1 := a1.later hb1; replace hf0 := hf0.below hb1 (nT hhi hwz); replace b0 := b0.later hb1; replace ca := b0.cell; replace la := b0.lt; replace hwz := hwa.size; clear hb1) | (go_at_call 70; refine (gu c.fields 6 _ _ lo hi hf0 (nT hhi hwz)).mono ?_; rw [H2.out]; rintro e w2 ⟨rfl, hb1⟩; replace hwa := hwa.trans (hb1.mono hwa.size); replace a1 := a1.later hb1; replace hf0 := hf0.below hb1 (nT hhi hwz); replace b0 := b0.later hb1; replace ca := b0.cell; replace la := b0.lt; replace hwz := hwa.size; clear hb1) | (go_at_call 72; refine (qT c.fields _ _ lo hi hf0).mono ?_; rw [H3.out]; rintro e w2 ⟨rfl, rfl⟩) | fail)
    go_ret
    exact ⟨ah HV.out.symm, hwa⟩
   have H2 := lH n2
   clear n2 HB2
   cases n3 : uW c.fields with
   | true =>
     have H3 := lH n3
     have HV := lH (HF.out (by rw [HB.out, n3]; simp))
     clear n3 HN
     go_wp2_with (first | (go_at_call 71; refine (lG c.name _).mono ?_; rw [H1.out]; rintro e w2 ⟨rfl, hb1⟩; replace hwa := hwa.trans (hb1.mono hwa.size); replace a1 := a1.later hb1; replace hf0 := hf0.below hb1 (nT hhi hwz); replace b0 := b0.later hb1; replace ca := b0.cell; replace la := b0.lt; replace hwz := hwa.size; clear hb1) | (go_at_call 70; refine (gu c.fields 6 _ _ lo hi hf0 (nT hhi hwz)).mono ?_; rw [H2.out]; rintro e w2 ⟨rfl, hb1⟩; replace hwa := hwa.trans (hb1.mono hwa.size); replace a1 := a1.later hb1; replace hf0 := hf0.below hb1 (nT hhi hwz); replace b0 := b0.later hb1; replace ca := b0.cell; replace la := b0.lt; replace hwz := hwa.size; clear hb1) | (go_at_call 72; refine (qT c.fields _ _ lo hi hf0).mono ?_; rw [H3.out]; rintro e w2 ⟨rfl, rfl⟩) | fail)
     go_ret
     exact ⟨ah HV.out.symm, hwa⟩
   | false =>
   have H3 := lH n3
   clear n3
   by_cases n4 : 0 ≤ c.line
   rotate_left
   ·have d4 : decide (c.line < 0) = true := dT (by omega)
    have HV := lH (HF.out (by rw [HB.out, dF n4]; simp))
    clear n4 HN
    go_wp2_with (first | (go_at_call 71; refine (lG c.name _).mono ?_; rw [H1.out]; rintro e w2 ⟨rfl, hb1⟩; replace hwa := hwa.trans (hb1.mono hwa.size); replace a1 := a1.later hb1; replace hf0 := hf0.below hb1 (nT hhi hwz); replace b0 := b0.later hb1; replace ca := b0.cell; replace la := b0.lt; replace hwz := hwa.size; clear hb1) | (go_at_call 70; refine (gu c.fields 6 _ _ lo hi hf0 (nT hhi hwz)).mono ?_; rw [H2.out]; rintro e w2 ⟨rfl, hb1⟩; replace hwa := hwa.trans (hb1.mono hwa.size); replace a1 := a1.later hb1; replace hf0 := hf0.below hb1 (nT hhi hwz); replace b0 := b0.later hb1; replace ca := b0.cell; replace la := b0.lt; replace hwz := hwa.size; clear hb1) | (go_at_call 72; refine (qT c.fields _ _ lo hi hf0).mono ?_; rw [H3.out]; rintro e w2 ⟨rfl, rfl⟩) | fail)
    go_ret
    exact ⟨ah HV.out.symm, hwa⟩
   have d4 : decide (c.line < 0) = false := dF (by omega)
   have HN := lH (HN.out (by rw [HB.out, H1.out, H3.out, dT n4]; have := H2.out; rw [Bool.and_eq_true] at this; rw [this.1, this.2]; rfl))
   clear n4 HF HB
   go_wp2_with (first | (go_at_call 71; refine (lG c.name _).mono ?_; rw [H1.out]; rintro e w2 ⟨rfl, hb1⟩; replace hwa := hwa.trans (hb1.mono hwa.size); replace a1 := a1.later hb1; replace hf0 := hf0.below hb1 (nT hhi hwz); replace b0 := b0.later hb1; replace ca := b0.cell; replace la := b0.lt; replace hwz := hwa.size; clear hb1) | (go_at_call 70; refine (gu c.fields 6 _ _ lo hi hf0 (nT hhi hwz)).mono ?_; rw [H2.out]; rintro e w2 ⟨rfl, hb1⟩; replace hwa := hwa.trans (hb1.mono hwa.size); replace a1 := a1.later hb1; replace hf0 := hf0.below hb1 (nT hhi hwz); replace b0 := b0.later hb1; replace ca := b0.cell; replace la := b0.lt; replace hwz := hwa.size; clear hb1) | (go_at_call 72; refine (qT c.fields _ _ lo hi hf0).mono ?_; rw [H3.out]; rintro e w2 ⟨rfl, rfl⟩) | fail)
   go_roundw
   case rel => exact ⟨k + 1, by omega, by go_num, HN, hwa, a1⟩
   case measure => simp [intOf]; omega
  obtain rfl : k = s.aA.length := by omega
  rw [List.take_length] at hgo
  have HE : Hid (V = (s.dY.all (wm s) && xK s && s.aB.all (ig s) && s.aI.all (fZ s) && qM s.aI)) := lH (by rw [HE.out, hgo.out]; rfl)
  clear hgo hr ur mr
  go_wp2_with fail
  go_loop [5] (fun i => ∃ k : Nat, k ≤ s.output.length ∧ i = .int .i64 k ∧ Hid ((s.output.take k).all (fun t => decide (t.size ≤ 120)) = true)) (fun i => s.output.length - (intOf i).toNat)
  case atStart => exact ⟨0, nZ _, rfl, by simp [Hid]⟩
  case round =>
   obtain ⟨k, hk, rfl, hgo⟩ := hrel
   by_cases hlt : k < s.output.length
   ·obtain ⟨c, hc⟩ : ∃ c, s.output[k]? = some c := ⟨_, gE hlt⟩
    obtain ⟨g', off', rfl, hg1, hg2, q0⟩ := (hu.below hb hhi).text hc
    have HN := lH (fun h => fJ (q := fun t : ByteArray => decide (t.size ≤ 120)) hc hgo.out h)
    have HF : Hid (decide (c.size ≤ 120) = false → V = false) := fun h => by rw [HE.out, show xK s = false from lI (q := fun t : ByteArray => decide (t.size ≤ 120)) (mG hc) h]; simp
    clear hc hgo
    by_cases r1 : c.size ≤ 120
    ·have HN := lH (HN.out (dT r1))
     clear HF
     go_wp2_with fail
     go_round
     case rel => exact ⟨k + 1, by omega, by go_num, HN⟩
     case measure => simp [intOf]; omega
    ·have HV := lH (HF.out (dF r1))
     have r2 : (120 : Int) < (c.size : Int) := by omega
     clear HN HF
     go_wp2_with fail
     go_ret
     exact ⟨ah HV.out.symm, hb⟩
   obtain rfl : k = s.output.length := by omega
   rw [List.take_length] at hgo
   have HE : Hid (V = (s.dY.all (wm s) && s.aB.all (ig s) && s.aI.all (fZ s) && qM s.aI)) := lH (by rw [HE.out, show xK s = true from hgo.out]; simp)
   clear hgo hu uu mu
   go_wp2_with fail
   go_loopw [6] (fun i wr => ∃ k : Nat, k ≤ s.dY.length ∧ i = .int .i64 k ∧ Hid ((s.dY.take k).all (wm s) = true) ∧ Below w.heap.size w wr ∧ Blk wr w.heap.size 52 #[Value.slice An s.fu.length nn, .slice Ar s.aA.length nr, .slice Ao s.aI.length no, .slice Ag s.aB.length ng, .string s.dR, .int .i64 s.dL, .slice Au s.output.length nu, .slice At' s.gV.length nt, .slice Aa s.dY.length na, .bool s.gF, .int .i64 s.je, .int .i64 s.fT, .int .i64 s.kI]) (fun i _ => s.dY.length - (intOf i).toNat)
   case atStart => exact ⟨0, nZ _, rfl, by simp [Hid], hb, a0⟩
   case round =>
    clear hb a0 ca la
    obtain ⟨k, hk, rfl, hgo, hb, a0⟩ := hrel
    obtain ⟨wo, rfl⟩ := nW wr
    have hz := hb.size
    have ca := a0.cell
    have la := a0.lt
    by_cases hlt : k < s.dY.length
    ·obtain ⟨c, hc⟩ : ∃ c, s.dY[k]? = some c := ⟨_, gE hlt⟩
     obtain ⟨g', off', rfl, hg1, hg2, hmem, hrep, q0, q1⟩ := kZ.at_ (ha.below hb hhi) hc
     have HN := lH (fun h => fJ (q := wm s) hc hgo.out h)
     have HF : Hid (wm s c = false → V = false) := fun h => by rw [HE.out, lI hmem h]; simp
     have hwa : Below w.heap.size w (wo.alloc (.cells #[Value.int .i64 c.routine, .int .i64 c.frame] 148)) := hb.alloc hz _
     have b0 := Blk.new wo 148 #[Value.int .i64 c.routine, .int .i64 c.frame]
     have a1 := a0.alloc (.cells #[Value.int .i64 c.routine, .int .i64 c.frame] 148)
     clear hc hmem hrep hgo
     go_upto_region 18 with fail
     generalize wo.alloc (.cells #[Value.int .i64 c.routine, .int .i64 c.frame] 148) = W2 at *
     clear q0 q1 ca la
     have ca := b0.cell
     have la := b0.lt
     have ca1 := a1.cell
     have la1 := a1.lt
     have Vw : IntKind.i64.wrap ((s.fu.length : Int) - 1) = (s.fu.length : Int) - 1 := IntWalk.i64_in _ (by omega)
     have hwr2 : IntKind.i64.wrap ((s.aI.length : Int) - 1) = (s.aI.length : Int) - 1 := IntWalk.i64_in _ (by omega)
     cases n1 : inB c.routine 0 ((s.fu.length : Int) - 1)
     have H1 := lH n1
     have hr2 : ¬ (0 ≤ c.routine ∧ c.routine < (s.fu.length : Int)) := by simp [inB] at n1; omega
     have HV := lH (HF.out (by unfold wm; rw [Bool.eq_false_iff]; intro h; simp at h; omega))
     clear n1 hr2 HN
     rotate_left
     have H1 := lH n1
     have hr2 : 0 ≤ c.routine ∧ c.routine < (s.fu.length : Int) := by simp [inB] at n1; omega
     clear n1
     have HA : Hid (wm s c = kU s c.frame 1) := by show _ = _; unfold wm; rw [dT hr2.1, dT hr2.2]; rfl
     clear hr2
     cases n2 : inB c.frame 0 ((s.aI.length : Int) - 1)
     have H2 := lH n2
     have hn2 : kU s c.frame 1 = false := by
      simp [inB] at n2
      by_cases h0 : c.frame < 0
      ·exact uE h0
      ·exact lJ (by omega)
     have HV := lH (HF.out (HA.out.trans hn2))
     clear n2 hn2 HN
     rotate_left
     rotate_right 2
     iterate 2 focus
      go_wp2_with (first | (go_at_call 36; refine (bJ _ _ _ _).mono ?_; (first | rw [H1.out] | rw [H2.out]); rintro e w1 ⟨rfl, rfl⟩) | fail)
      go_ret
      exact ⟨ah HV.out.symm, hwa⟩
     have H2 := lH n2
     have hb' : 0 ≤ c.frame ∧ c.frame < (s.aI.length : Int) := by simp [inB] at n2; omega
     clear n2
     obtain ⟨j, hj⟩ : ∃ j : Nat, c.frame = j := ⟨c.frame.toNat, by omega⟩
     obtain ⟨ob, hc2⟩ : ∃ o, s.aI[j]? = some o := ⟨_, gE (by omega)⟩
     obtain ⟨g2, off2, Ai, ni, Ak, nk, rfl, hg3, hg4, Ty, Tz, p0, p1, p2, p3, p4⟩ := fV.at_ (ho.below hwa hhi) hc2
     have HQ := lH (nP (k := 1) hc2)
     have hjl : j < s.aI.length := (List.getElem?_eq_some_iff.1 hc2).1
     have HA : Hid (wm s c = decide (ob.kind = 1)) := lH (by rw [HA.out, hj, HQ.out])
     clear hc2 Ty Tz HQ hb'
     obtain ⟨rt, fr⟩ := c
     obtain rfl : fr = j := hj
     by_cases hk1 : ob.kind = 1
     ·have he : (ob.kind != 1) = false := by simp [hk1]
      have HN := lH (HN.out (HA.out.trans (dT hk1)))
      clear hk1 HF HA
      go_wp2_with (first | (go_at_call 36; refine (bJ _ _ _ _).mono ?_; (first | rw [H1.out] | rw [H2.out]); rintro e w1 ⟨rfl, rfl⟩) | fail)
      go_roundw
      case rel => exact ⟨k + 1, by omega, by go_num, HN, hwa, a1⟩
      case measure => simp [intOf]; omega
     ·have he : (ob.kind != 1) = true := by simp [hk1]
      have HV := lH (HF.out (HA.out.trans (dF hk1)))
      clear hk1 HN HA
      go_wp2_with (first | (go_at_call 36; refine (bJ _ _ _ _).mono ?_; (first | rw [H1.out] | rw [H2.out]); rintro e w1 ⟨rfl, rfl⟩) | fail)
      go_ret
      exact ⟨ah HV.out.symm, hwa⟩
    obtain rfl : k = s.dY.length := by omega
    rw [List.take_length] at hgo
    have HE : Hid (V = (s.aB.all (ig s) && s.aI.all (fZ s) && qM s.aI)) := lH (by rw [HE.out, hgo.out]; rfl)
    clear hgo ha ua ma
    go_wp2_with fail
    go_loopw [8] (fun i wr => ∃ k : Nat, k ≤ s.aI.length ∧ i = .int .i64 k ∧ Hid ((s.aI.take k).all (fZ s) = true) ∧ Hid (xU s.aI k) ∧ Below w.heap.size w wr ∧ Blk wr w.heap.size 52 #[Value.slice An s.fu.length nn, .slice Ar s.aA.length nr, .slice Ao s.aI.length no, .slice Ag s.aB.length ng, .string s.dR, .int .i64 s.dL, .slice Au s.output.length nu, .slice At' s.gV.length nt, .slice Aa s.dY.length na, .bool s.gF, .int .i64 s.je, .int .i64 s.fT, .int .i64 s.kI]) (fun i _ => s.aI.length - (intOf i).toNat)
    case atStart => exact ⟨0, nZ _, rfl, by simp [Hid], xU.zero _, hb, a0⟩
    case round =>
     clear hb a0 ca la
     obtain ⟨k, hk, rfl, hgo, hse, hb, a0⟩ := hrel
     obtain ⟨wo, rfl⟩ := nW wr
     have hz := hb.size
     have ca := a0.cell
     have la := a0.lt
     by_cases hlt : k < s.aI.length
     ·obtain ⟨ob, hc⟩ : ∃ c, s.aI[k]? = some c := ⟨_, gE hlt⟩
      obtain ⟨g', off', Ai, ni, Ak, nk, rfl, hg1, hg2, hmem, hrep, q0, q1, q2, q3, q4⟩ := fV.at_ (ho.below hb hhi) hc
      have HN := lH (fun h => fJ (q := fZ s) hc hgo.out h)
      have HF : Hid (fZ s ob = false → V = false) := fun h => by rw [HE.out, lI hmem h]; simp
      have HS := lH (fun h => hse.out.succ hc h)
      have HSF : Hid (ob.ak ∈ wJ (s.aI.take k) → V = false) := fun h => by rw [HE.out, LJ hc h, Bool.and_false]
      have h2 := At.box a0 (hx.below hb hhi) (nT hhi hz)
      go_wp2_with fail
      refine (CW s ob _ _ h2 hrep (nT hhi hz)).mono ?_; rintro e w2 ⟨rfl, hb1⟩
      replace hb := hb.trans (hb1.mono hz)
      replace a0 := a0.later hb1
      replace ca := a0.cell
      replace la := a0.lt
      clear hb1 h2 hrep hmem q0 q1 q2 q3 q4 hgo hse hz
      cases hq : fZ s ob with
      | false =>
        have HV := lH (HF.out hq)
        clear hq HN HS
        go_wp2_with fail
        go_ret
        exact ⟨ah HV.out.symm, hb⟩
      | true =>
      have HN := lH (HN.out hq)
      clear hq HF
      go_wp2_with fail
      go_loopw [9] (fun i wr => ∃ j : Nat, j ≤ k ∧ i = .int .i64 j ∧ Hid (ob.ak = 0 ∨ ob.ak ∉ wJ (s.aI.take j)) ∧ Below w.heap.size w wr ∧ Blk wr w.heap.size 52 #[Value.slice An s.fu.length nn, .slice Ar s.aA.length nr, (.slice (some ⟨g', off', none⟩) s.aI.length no), .slice Ag s.aB.length ng, .string s.dR, .int .i64 s.dL, .slice Au s.output.length nu, .slice At' s.gV.length nt, .slice Aa s.dY.length na, .bool s.gF, .int .i64 s.je, .int .i64 s.fT, .int .i64 s.kI]) (fun i _ => k - (intOf i).toNat)
      case atStart => exact ⟨0, nZ _, rfl, .inr (by simp [wJ]), hb, a0⟩
      case round =>
       clear hb a0 ca la
       obtain ⟨j, hj, rfl, hno, hb, a0⟩ := hrel
       obtain ⟨wp, rfl⟩ := nW wr
       have ca := a0.cell
       have la := a0.lt
       by_cases hjk : j < k
       ·obtain ⟨od, hd⟩ : ∃ d, s.aI[j]? = some d := ⟨_, gE (by omega)⟩
        obtain ⟨g1, off1, Bi, mi, Bk, mk, hA1, hga, hgb, -, -, p0, p1, p2, p3, p4⟩ := fV.at_ (ho.below hb hhi) hc
        injection hA1 with hA1
        injection hA1 with e1 e2
        subst e1 e2
        obtain ⟨g2, off2, Ci, li, Ck, lk, hA2, hgc, hgd, -, -, q0, q1, q2, q3, q4⟩ := fV.at_ (ho.below hb hhi) hd
        injection hA2 with hA2
        injection hA2 with e1 e2
        subst e1 e2
        have hjl : j < s.aI.length := by omega
        have HM := lH (Ex hd)
        have HX : Hid (ob.ak ≠ 0 → ob.ak = od.ak → V = false) := fun h0 h => HSF.out (CF.2 ⟨h0, od, GQ hd hjk, h.symm⟩)
        clear hd p0 p1 p3 p4 q0 q1 q3 q4
        go_upto_region 28 with fail
        by_cases h0 : ob.ak = 0
        ·have e0 : (ob.ak != 0) = false := by simp [h0]
         have HN2 : Hid (ob.ak = 0 ∨ ob.ak ∉ wJ (s.aI.take (j + 1))) := .inl h0
         clear h0 HM HX hno
         go_quiet (fail)
         go_wp2_with fail
         go_roundw
         case rel => exact ⟨j + 1, by omega, by go_num, HN2, by first | exact hb | exact bN hb _, by first | exact a0 | exact a0.drewN _⟩
         case measure => simp [intOf]; omega
        have e0 : (ob.ak != 0) = true := by simp [h0]
        by_cases hes : ob.ak = od.ak
        ·have e1 : (ob.ak == od.ak) = true := by simp [hes]
         have HV := lH (HX.out h0 hes)
         clear h0 hes HM hno
         go_quiet (fail)
         go_wp2_with fail
         go_ret
         exact ⟨ah HV.out.symm, by first | exact hb | exact bN hb _⟩
        have e1 : (ob.ak == od.ak) = false := by simp [hes]
        have HN2 : Hid (ob.ak = 0 ∨ ob.ak ∉ wJ (s.aI.take (j + 1))) := .inr (by rw [HM.out, List.mem_append]; rintro (h | h); exact (hno.out.resolve_left h0) h; split at h; cases h; exact hes (by simpa using h))
        clear h0 hes HM HX hno
        go_quiet (fail)
        go_wp2_with fail
        go_roundw
        case rel => exact ⟨j + 1, by omega, by go_num, HN2, by first | exact hb | exact bN hb _, by first | exact a0 | exact a0.drewN _⟩
        case measure => simp [intOf]; omega
       ·obtain rfl : j = k := by omega
        have HS := lH (HS.out hno.out)
        clear HSF hno hc
        go_wp2_with fail
        go_roundw
        case rel => exact ⟨j + 1, by omega, by go_num, HN, HS, hb, a0⟩
        case measure => simp [intOf]; omega
     obtain rfl : k = s.aI.length := by omega
     rw [List.take_length] at hgo
     have HV : Hid (V = s.aB.all (ig s)) := lH (by rw [HE.out, hgo.out, hse.out.all]; simp)
     clear HE hgo hse
     go_wp2_with fail
     refine (kL s s.aB _ _ (At.box a0 (hx.below hb hhi) (nT hhi hz)) (hgl.below hb hhi) (nT hhi hz)).mono ?_; rintro e w1 ⟨rfl, hb1⟩
     go_wp2_with fail
     go_ret
     exact ⟨ah HV.out.symm, hb.trans (hb1.mono hz)⟩
end Go.Proofs.YtoddlphekcihgaaGreatDoor
