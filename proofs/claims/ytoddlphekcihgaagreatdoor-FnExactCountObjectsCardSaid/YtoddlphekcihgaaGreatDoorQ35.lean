/- wK of the reference: is an object valid in a yX -/
import Derived.Test.YtoddlphekcihgaaGreatDoorQ15
import Derived.Test.YtoddlphekcihgaaGreatDoorQ34
set_option maxRecDepth 100000
set_option maxHeartbeats 8000000
set_option linter.unusedVariables false
set_option linter.unusedSimpArgs false
namespace Go.Proofs.YtoddlphekcihgaaGreatDoor
open Go.RowKit
theorem Qy (s : dP) (tag ak : Int) (aj aX : List aQ) (Ai Ak : Option Addr) (ni nk : Nat) (w : World) {g off lo hi lo' hi' : Nat} (h : At w g off lo hi dP.ay s)
 (hi_ : dz w lo' hi' 6 aQ.ay (.slice Ai aj.length ni) aj) (hk_ : dz w lo' hi' 6 aQ.ay (.slice Ak aX.length nk) aX) (hhi : hi' ≤ w.heap.size) :
 Calls Tryz.prog 74 #[.pointer (some ⟨g, off, none⟩), .agg #[Value.int .i64 3, .int .i64 tag, .int .i64 ak, .slice Ai aj.length ni, .slice Ak aX.length nk]] w fun e w' => e = .returned (.bool (fZ s ⟨3, tag, ak, aj, aX⟩)) ∧ Below w.heap.size w w' := by
 obtain ⟨a0, hW⟩ := eZ w 97 #[.int .i64 3, .int .i64 tag, .int .i64 ak, .slice Ai aj.length ni, .slice Ak aX.length nk]
 obtain ⟨An, nn, Ar, nr, Ao, no, Ag, ng, Au, nu, At', nt, Aa, na, hg, hle, hn, un, mn, hr, ur, mr, ho, uo, mo, hgl, ugl, mgl, hu, uu, mu, ht, ut, mt, ha, ua, ma, c0, c1, c2, c3, c4, c5, c6, c7, c8, c9, c10, c11, c12⟩ := dP.in_ h
 unfold maxLen at mr
 clear hle hn un mn ho uo mo hgl ugl mgl hu uu mu ht ut mt ha ua ma c0 c2 c3 c4 c5 c6 c7 c8 c9 c10 c11 hr ur mr c1
 by_cases hs1 : ak < 1
 ·have HO : Hid (fZ s ⟨3, tag, ak, aj, aX⟩ = false) := by show _ = _; simp [fZ, fU]; intro a b; exfalso; omega
  have d1 := dT hs1
  clear hs1
  go_enter Tryz.func74, Tryz.ntmps74
  go_upto_region 1 with fail
  generalize w.alloc (.cells #[Value.int .i64 3, .int .i64 tag, .int .i64 ak, .slice Ai aj.length ni, .slice Ak aX.length nk] 97) = W at *
  have ca := a0.cell
  have la := a0.lt
  replace c12 := (hW.cell (p := ⟨g, off + 12, none⟩) hg).trans c12
  have hgW : g < W.heap.size := nL hg hW.size
  go_upto_region 2 with fail
  go_quiet (fail)
  replace a0 := a0.drewN nq
  replace hW := bN hW nq
  generalize World.drewN W nq = W2 at *
  replace ca := a0.cell
  replace la := a0.lt
  go_wp2_with fail
  go_ret
  exact ⟨ah HO.out.symm, hW⟩
 have d1 := dF hs1
 by_cases hs2 : s.kI < ak
 ·have HO : Hid (fZ s ⟨3, tag, ak, aj, aX⟩ = false) := by show _ = _; simp [fZ, fU]; intro a b; exfalso; omega
  have d2 := dT hs2
  clear hs2
  go_enter Tryz.func74, Tryz.ntmps74
  go_upto_region 1 with fail
  generalize w.alloc (.cells #[Value.int .i64 3, .int .i64 tag, .int .i64 ak, .slice Ai aj.length ni, .slice Ak aX.length nk] 97) = W at *
  have ca := a0.cell
  have la := a0.lt
  replace c12 := (hW.cell (p := ⟨g, off + 12, none⟩) hg).trans c12
  have hgW : g < W.heap.size := nL hg hW.size
  go_upto_region 2 with fail
  go_quiet (fail)
  replace a0 := a0.drewN nq
  replace hW := bN hW nq
  generalize World.drewN W nq = W2 at *
  replace ca := a0.cell
  replace la := a0.lt
  go_wp2_with fail
  go_ret
  exact ⟨ah HO.out.symm, hW⟩
 have d2 := dF hs2
 generalize hV : fZ s ⟨3, tag, ak, aj, aX⟩ = V
 have HE : Hid (V = (decide (tag = 0) && (decide (aX.length ≤ 40) && qb aX && aX.all (ig s)) && (decide (aj.length = aX.length + 1) && aj.all (ig s)))) := by
  show _ = _
  rw [← hV]
  simp [fZ, fU, tK, qV, mK, show 1 ≤ ak ∧ ak ≤ s.kI by omega]
 clear hs1 hs2
 clear hV
 rcases (Classical.em (aX.length ≤ 40)).symm with k40 | k40
 have d40 : decide ((aX.length : Int) ≤ 40) = false := dF (by omega)
 have HO : Hid (V = false) := lH (by rw [HE.out, dF k40]; simp)
 clear HE k40
 rotate_left
 have d40 : decide ((aX.length : Int) ≤ 40) = true := dT (by omega)
 cases hl : ((aj.length : Int) == (aX.length : Int) + 1)
 have HO : Hid (V = false) := lH (by rw [HE.out, dF (show ¬ aj.length = aX.length + 1 by have e := beq_eq_false_iff_ne.1 hl; omega)]; simp)
 clear HE
 rotate_left
 have HL := lH (dT (show aj.length = aX.length + 1 by have e := eq_of_beq hl; omega))
 cases hi2 : aj.all (ig s)
 have HI := lH hi2
 have HO : Hid (V = false) := lH (by rw [HE.out, HI.out]; simp)
 clear HE hi2
 rotate_left
 have HI := lH hi2
 clear hi2
 cases ha2 : aX.all (ig s)
 have HA := lH ha2
 have HO : Hid (V = false) := lH (by rw [HE.out, HA.out]; simp)
 clear HE ha2
 rotate_left
 have HA := lH ha2
 clear ha2
 cases hd2 : qb aX
 have HD := lH hd2
 have HO : Hid (V = false) := lH (by rw [HE.out, HD.out]; simp)
 clear HE hd2
 rotate_left
 rotate_right 5
 iterate 5 focus
  go_enter Tryz.func74, Tryz.ntmps74
  go_upto_region 1 with fail
  generalize w.alloc (.cells #[Value.int .i64 3, .int .i64 tag, .int .i64 ak, .slice Ai aj.length ni, .slice Ak aX.length nk] 97) = W at *
  have ca := a0.cell
  have la := a0.lt
  replace c12 := (hW.cell (p := ⟨g, off + 12, none⟩) hg).trans c12
  have hgW : g < W.heap.size := nL hg hW.size
  go_upto_region 2 with fail
  go_quiet (fail)
  replace a0 := a0.drewN nq
  replace hW := bN hW nq
  generalize World.drewN W nq = W2 at *
  replace ca := a0.cell
  replace la := a0.lt
  go_wp2_with (first | (go_at_call_of 75 (Value.slice Ai aj.length ni); refine (kL s aj _ _ (h.below hW) (hi_.below hW hhi) (nT hhi hW.size)).mono ?_; rw [HI.out]; rintro e w1 ⟨rfl, hb1⟩; replace hb1 := nX hW a0 hb1; clear hW a0 ca la; obtain ⟨hW, a0, ca, la⟩ := hb1) | (go_at_call_of 75 (Value.slice Ak aX.length nk); refine (kL s aX _ _ (h.below hW) (hk_.below hW hhi) (nT hhi hW.size)).mono ?_; rw [HA.out]; rintro e w1 ⟨rfl, hb1⟩; replace hb1 := nX hW a0 hb1; clear hW a0 ca la; obtain ⟨hW, a0, ca, la⟩ := hb1) | (go_at_call 121; refine (rW aX _ _ (hk_.below hW hhi) (nT hhi hW.size)).mono ?_; rw [HD.out]; rintro e w1 ⟨rfl, hb1⟩; replace hb1 := nX hW a0 hb1; clear hW a0 ca la; obtain ⟨hW, a0, ca, la⟩ := hb1) | fail)
  all_goals go_ret
  all_goals ((try subst_vars); exact ⟨ah (by first | rfl | exact HO.out.symm), hW⟩)
 have HD := lH hd2
 clear hd2
 have HO : Hid (V = decide (tag = 0)) := lH (by rw [HE.out, HL.out, HA.out, HD.out, dT k40, HI.out]; simp)
 clear HE
 go_enter Tryz.func74, Tryz.ntmps74
 go_upto_region 1 with fail
 generalize w.alloc (.cells #[Value.int .i64 3, .int .i64 tag, .int .i64 ak, .slice Ai aj.length ni, .slice Ak aX.length nk] 97) = W at *
 have ca := a0.cell
 have la := a0.lt
 replace c12 := (hW.cell (p := ⟨g, off + 12, none⟩) hg).trans c12
 have hgW : g < W.heap.size := nL hg hW.size
 go_upto_region 2 with fail
 go_quiet (fail)
 replace a0 := a0.drewN nq
 replace hW := bN hW nq
 generalize World.drewN W nq = W2 at *
 replace ca := a0.cell
 replace la := a0.lt
 go_wp2_with (first | (go_at_call_of 75 (Value.slice Ai aj.length ni); refine (kL s aj _ _ (h.below hW) (hi_.below hW hhi) (nT hhi hW.size)).mono ?_; rw [HI.out]; rintro e w1 ⟨rfl, hb1⟩; replace hb1 := nX hW a0 hb1; clear hW a0 ca la; obtain ⟨hW, a0, ca, la⟩ := hb1) | (go_at_call_of 75 (Value.slice Ak aX.length nk); refine (kL s aX _ _ (h.below hW) (hk_.below hW hhi) (nT hhi hW.size)).mono ?_; rw [HA.out]; rintro e w1 ⟨rfl, hb1⟩; replace hb1 := nX hW a0 hb1; clear hW a0 ca la; obtain ⟨hW, a0, ca, la⟩ := hb1) | (go_at_call 121; refine (rW aX _ _ (hk_.below hW hhi) (nT hhi hW.size)).mono ?_; rw [HD.out]; rintro e w1 ⟨rfl, hb1⟩; replace hb1 := nX hW a0 hb1; clear hW a0 ca la; obtain ⟨hW, a0, ca, la⟩ := hb1) | fail)
 all_goals go_ret
 all_goals ((try subst_vars); exact ⟨ah (by clear h hi_ hk_ a0 hW ca la; (try rw [HO.out]); simp_all <;> omega), hW⟩)
end Go.Proofs.YtoddlphekcihgaaGreatDoor
