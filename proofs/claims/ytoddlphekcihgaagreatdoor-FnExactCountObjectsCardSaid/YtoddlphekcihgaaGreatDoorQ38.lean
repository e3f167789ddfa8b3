/- wK of the reference: is an object valid in a yX -/
import Derived.Test.YtoddlphekcihgaaGreatDoorQ15
import Derived.Test.YtoddlphekcihgaaGreatDoorQ34
set_option maxRecDepth 100000
set_option maxHeartbeats 40000000
set_option linter.unusedVariables false
set_option linter.unusedSimpArgs false
namespace Go.Proofs.YtoddlphekcihgaaGreatDoor
open Go.RowKit
theorem QC (s : dP) (tag ak : Int) (aj aX : List aQ) (Ai Ak : Option Addr) (ni nk : Nat) (w : World) {g off lo hi lo' hi' : Nat} (h : At w g off lo hi dP.ay s)
 (hi_ : dz w lo' hi' 6 aQ.ay (.slice Ai aj.length ni) aj) (hk_ : dz w lo' hi' 6 aQ.ay (.slice Ak aX.length nk) aX) (hhi : hi' ≤ w.heap.size) :
 Calls Tryz.prog 74 #[.pointer (some ⟨g, off, none⟩), .agg #[Value.int .i64 6, .int .i64 tag, .int .i64 ak, .slice Ai aj.length ni, .slice Ak aX.length nk]] w fun e w' => e = .returned (.bool (fZ s ⟨6, tag, ak, aj, aX⟩)) ∧ Below w.heap.size w w' := by
 obtain ⟨a0, hW⟩ := eZ w 97 #[.int .i64 6, .int .i64 tag, .int .i64 ak, .slice Ai aj.length ni, .slice Ak aX.length nk]
 obtain ⟨An, nn, Ar, nr, Ao, no, Ag, ng, Au, nu, At', nt, Aa, na, hg, hle, hn, un, mn, hr, ur, mr, ho, uo, mo, hgl, ugl, mgl, hu, uu, mu, ht, ut, mt, ha, ua, ma, c0, c1, c2, c3, c4, c5, c6, c7, c8, c9, c10, c11, c12⟩ := dP.in_ h
 unfold maxLen at mr
 clear hle hn un mn ho uo mo hgl ugl mgl hu uu mu ht ut mt ha ua ma c0 c2 c3 c4 c5 c6 c7 c8 c9 c10 c11 hr ur mr c1
 by_cases hs1 : ak < 1
 ·have HO : Hid (fZ s ⟨6, tag, ak, aj, aX⟩ = false) := by show _ = _; simp [fZ, fU]; intro a b; exfalso; omega
  have d1 := dT hs1
  clear hs1
  go_enter Tryz.func74, Tryz.ntmps74
  go_upto_region 1 with fail
  generalize w.alloc (.cells #[Value.int .i64 6, .int .i64 tag, .int .i64 ak, .slice Ai aj.length ni, .slice Ak aX.length nk] 97) = W at *
  have ca := a0.cell
  have la := a0.lt
  replace c12 := (hW.cell (p := ⟨g, off + 12, none⟩) hg).trans c12
  have hgW : g < W.heap.size := nL hg hW.size
  go_upto_region 2 with fail
  go_quiet (fail)
  replace a0 := a0.drewN nq
  replace hW := bN hW nq
  generalize World.drewN W nq = W2 at *
  replace ca := a0.cell
  replace la := a0.lt
  go_wp2_with fail
  go_ret
  exact ⟨ah HO.out.symm, hW⟩
 have d1 := dF hs1
 by_cases hs2 : s.kI < ak
 ·have HO : Hid (fZ s ⟨6, tag, ak, aj, aX⟩ = false) := by show _ = _; simp [fZ, fU]; intro a b; exfalso; omega
  have d2 := dT hs2
  clear hs2
  go_enter Tryz.func74, Tryz.ntmps74
  go_upto_region 1 with fail
  generalize w.alloc (.cells #[Value.int .i64 6, .int .i64 tag, .int .i64 ak, .slice Ai aj.length ni, .slice Ak aX.length nk] 97) = W at *
  have ca := a0.cell
  have la := a0.lt
  replace c12 := (hW.cell (p := ⟨g, off + 12, none⟩) hg).trans c12
  have hgW : g < W.heap.size := nL hg hW.size
  go_upto_region 2 with fail
  go_quiet (fail)
  replace a0 := a0.drewN nq
  replace hW := bN hW nq
  generalize World.drewN W nq = W2 at *
  replace ca := a0.cell
  replace la := a0.lt
  go_wp2_with fail
  go_ret
  exact ⟨ah HO.out.symm, hW⟩
 have d2 := dF hs2
 generalize hV : fZ s ⟨6, tag, ak, aj, aX⟩ = V
 have HE : Hid (V = (decide (1 ≤ tag) && decide (aX.length = 0) && KT s aj)) := by
  show _ = _
  rw [← hV]
  simp [fZ, fU, tK, qV, mK, show 1 ≤ ak ∧ ak ≤ s.kI by omega]
 clear hs1 hs2
 clear hV
 by_cases k0 : aX.length = 0
 rotate_left
 ·have HO : Hid (V = false) := lH (by rw [HE.out, dF k0]; simp)
  have dk : ((aX.length : Int) != 0) = true := by simp; intro e; rw [e] at k0; exact k0 rfl
  clear k0 HE
  go_enter Tryz.func74, Tryz.ntmps74
  go_upto_region 1 with fail
  generalize w.alloc (.cells #[Value.int .i64 6, .int .i64 tag, .int .i64 ak, .slice Ai aj.length ni, .slice Ak aX.length nk] 97) = W at *
  have ca := a0.cell
  have la := a0.lt
  replace c12 := (hW.cell (p := ⟨g, off + 12, none⟩) hg).trans c12
  have hgW : g < W.heap.size := nL hg hW.size
  go_upto_region 2 with fail
  go_quiet (fail)
  replace a0 := a0.drewN nq
  replace hW := bN hW nq
  generalize World.drewN W nq = W2 at *
  replace ca := a0.cell
  replace la := a0.lt
  go_wp2_with fail
  all_goals go_ret
  all_goals ((try subst_vars); exact ⟨ah (by first | rfl | exact HO.out.symm), hW⟩)
 have dk : ((aX.length : Int) != 0) = false := by simp; exact List.eq_nil_of_length_eq_zero k0
 have HK0 := lH (dT k0)
 clear k0
 by_cases t1 : 1 ≤ tag
 rotate_left
 ·have HO : Hid (V = false) := lH (by rw [HE.out, dF t1]; rfl)
  have dt := dF t1
  clear t1 HE
  go_enter Tryz.func74, Tryz.ntmps74
  go_upto_region 1 with fail
  generalize w.alloc (.cells #[Value.int .i64 6, .int .i64 tag, .int .i64 ak, .slice Ai aj.length ni, .slice Ak aX.length nk] 97) = W at *
  have ca := a0.cell
  have la := a0.lt
  replace c12 := (hW.cell (p := ⟨g, off + 12, none⟩) hg).trans c12
  have hgW : g < W.heap.size := nL hg hW.size
  go_upto_region 2 with fail
  go_quiet (fail)
  replace a0 := a0.drewN nq
  replace hW := bN hW nq
  generalize World.drewN W nq = W2 at *
  replace ca := a0.cell
  replace la := a0.lt
  go_wp2_with fail
  all_goals go_ret
  all_goals ((try subst_vars); exact ⟨ah (by first | rfl | exact HO.out.symm), hW⟩)
 have dt := dT t1
 have HT := lH dt
 clear t1
 by_cases h2 : aj.length = 3
 rotate_left
 ·have HO : Hid (V = false) := lH (by rw [HE.out, Li h2]; simp)
  have d2 : ((aj.length : Int) == 3) = false := by simp; omega
  clear h2 HE
  go_enter Tryz.func74, Tryz.ntmps74
  go_upto_region 1 with fail
  generalize w.alloc (.cells #[Value.int .i64 6, .int .i64 tag, .int .i64 ak, .slice Ai aj.length ni, .slice Ak aX.length nk] 97) = W at *
  have ca := a0.cell
  have la := a0.lt
  replace c12 := (hW.cell (p := ⟨g, off + 12, none⟩) hg).trans c12
  have hgW : g < W.heap.size := nL hg hW.size
  go_upto_region 2 with fail
  go_quiet (fail)
  replace a0 := a0.drewN nq
  replace hW := bN hW nq
  generalize World.drewN W nq = W2 at *
  replace ca := a0.cell
  replace la := a0.lt
  go_wp2_with fail
  all_goals go_ret
  all_goals ((try subst_vars); exact ⟨ah (by first | rfl | exact HO.out.symm), hW⟩)
 have d3 : ((aj.length : Int) == 3) = true := by simp; omega
 have hln : 3 ≤ aj.length := by omega
 obtain ⟨a, ha⟩ : ∃ c, aj[0]? = some c := ⟨_, gE (by omega)⟩
 obtain ⟨b, hb⟩ : ∃ c, aj[1]? = some c := ⟨_, gE (by omega)⟩
 obtain ⟨c, hc⟩ : ∃ c, aj[2]? = some c := ⟨_, gE (by omega)⟩
 obtain ⟨g', off', rfl, hg1, hg2, -⟩ := aQ.at_ hi_ (j := 0) ha
 have HC := lH (GB (s := s) h2 ha hb hc)
 clear h2
 rcases (Classical.em (a.kind = 19)).symm with ka | ka
 have HO : Hid (V = false) := lH (by rw [HE.out, HC.out, dF ka]; simp)
 have ea : (a.kind == 19) = false := by simp [ka]
 clear HE HC ka
 rotate_left
 have ea : (a.kind == 19) = true := by simp [ka]
 have KA := lH (dT ka)
 clear ka
 rcases (Classical.em (b.kind = 19)).symm with kb | kb
 have HO : Hid (V = false) := lH (by rw [HE.out, HC.out, dF kb]; simp)
 have eb : (b.kind == 19) = false := by simp [kb]
 clear HE HC kb
 rotate_left
 have eb : (b.kind == 19) = true := by simp [kb]
 have KB := lH (dT kb)
 clear kb
 rcases (Classical.em (c.kind = 1)).symm with kc | kc
 have HO : Hid (V = false) := lH (by rw [HE.out, HC.out, dF kc]; simp)
 have ec : (c.kind == 1) = false := by simp [kc]
 clear HE HC kc
 rotate_left
 have ec : (c.kind == 1) = true := by simp [kc]
 have KC := lH (dT kc)
 clear kc
 rcases (Classical.em (0 ≤ c.number)).symm with n0 | n0
 have HO : Hid (V = false) := lH (by rw [HE.out, HC.out, dF n0]; simp)
 have dn := dF n0
 clear HE HC n0
 rotate_left
 have dn := dT n0
 have HN0 := lH dn
 clear n0
 cases ha2 : cK s a
 have HA := lH ha2
 have HO : Hid (V = false) := lH (by rw [HE.out, HC.out, HA.out]; simp)
 clear HE HC ha2
 rotate_left
 have HA := lH ha2
 clear ha2
 cases hb2 : cK s b
 have HB := lH hb2
 have HO : Hid (V = false) := lH (by rw [HE.out, HC.out, HB.out]; simp)
 clear HE HC hb2
 rotate_left
 have HB := lH hb2
 clear hb2
 cases hc2 : cK s c
 have HCC := lH hc2
 have HO : Hid (V = false) := lH (by rw [HE.out, HC.out, HCC.out]; simp)
 clear HE HC hc2
 rotate_left
 rotate_right 7
 iterate 7 focus
  go_enter Tryz.func74, Tryz.ntmps74
  go_upto_region 1 with fail
  generalize w.alloc (.cells #[Value.int .i64 6, .int .i64 tag, .int .i64 ak, .slice (some ⟨g', off', none⟩) aj.length ni, .slice Ak aX.length nk] 97) = W at *
  have ca := a0.cell
  have la := a0.lt
  replace c12 := (hW.cell (p := ⟨g, off + 12, none⟩) hg).trans c12
  have hgW : g < W.heap.size := nL hg hW.size
  go_upto_region 2 with fail
  go_quiet (fail)
  replace a0 := a0.drewN nq
  replace hW := bN hW nq
  generalize World.drewN W nq = W2 at *
  replace ca := a0.cell
  replace la := a0.lt
  obtain ⟨pa0, pa1, pa2, pa3, pa4, pa5⟩ := dV (hi_.below hW hhi) ha (p := off') (by omega)
  obtain ⟨pb0, pb1, pb2, pb3, pb4, pb5⟩ := dV (hi_.below hW hhi) hb (p := off' + 6) (by omega)
  obtain ⟨pc0, pc1, pc2, pc3, pc4, pc5⟩ := dV (hi_.below hW hhi) hc (p := off' + 12) (by omega)
  go_upto_region 20 with fail
  dsimp only [List.append]
  go_wp2_with (first | (go_at_call_of 76 (Value.agg #[Value.int .i64 a.kind, .int .i64 a.number, .int .i64 a.index, .string a.text, .int .i64 a.eB, .int .i64 a.dW]); refine (mH s a _ _ (h.below hW) (aQ.mk_ (lo := 0) (hi := 0))).mono ?_; rw [HA.out]; rintro e w1 ⟨rfl, hb1⟩; replace hb1 := nX hW a0 hb1; clear hW a0 ca la; obtain ⟨hW, a0, ca, la⟩ := hb1; clear pa0 pa1 pa2 pa3 pa4 pa5; clear pb0 pb1 pb2 pb3 pb4 pb5; clear pc0 pc1 pc2 pc3 pc4 pc5; obtain ⟨pa0, pa1, pa2, pa3, pa4, pa5⟩ := dV (hi_.below hW hhi) ha (p := off') (by omega); obtain ⟨pb0, pb1, pb2, pb3, pb4, pb5⟩ := dV (hi_.below hW hhi) hb (p := off' + 6) (by omega); obtain ⟨pc0, pc1, pc2, pc3, pc4, pc5⟩ := dV (hi_.below hW hhi) hc (p := off' + 12) (by omega); skip) | (go_at_call_of 76 (Value.agg #[Value.int .i64 b.kind, .int .i64 b.number, .int .i64 b.index, .string b.text, .int .i64 b.eB, .int .i64 b.dW]); refine (mH s b _ _ (h.below hW) (aQ.mk_ (lo := 0) (hi := 0))).mono ?_; rw [HB.out]; rintro e w1 ⟨rfl, hb1⟩; replace hb1 := nX hW a0 hb1; clear hW a0 ca la; obtain ⟨hW, a0, ca, la⟩ := hb1; clear pa0 pa1 pa2 pa3 pa4 pa5; clear pb0 pb1 pb2 pb3 pb4 pb5; clear pc0 pc1 pc2 pc3 pc4 pc5; obtain ⟨pa0, pa1, pa2, pa3, pa4, pa5⟩ := dV (hi_.below hW hhi) ha (p := off') (by omega); obtain ⟨pb0, pb1, pb2, pb3, pb4, pb5⟩ := dV (hi_.below hW hhi) hb (p := off' + 6) (by omega); obtain ⟨pc0, pc1, pc2, pc3, pc4, pc5⟩ := dV (hi_.below hW hhi) hc (p := off' + 12) (by omega); skip) | (go_at_call_of 76 (Value.agg #[Value.int .i64 c.kind, .int .i64 c.number, .int .i64 c.index, .string c.text, .int .i64 c.eB, .int .i64 c.dW]); refine (mH s c _ _ (h.below hW) (aQ.mk_ (lo := 0) (hi := 0))).mono ?_; rw [HCC.out]; rintro e w1 ⟨rfl, hb1⟩; replace hb1 := nX hW a0 hb1; clear hW a0 ca la; obtain ⟨hW, a0, ca, la⟩ := hb1; clear pa0 pa1 pa2 pa3 pa4 pa5; clear pb0 pb1 pb2 pb3 pb4 pb5; clear pc0 pc1 pc2 pc3 pc4 pc5; obtain ⟨pa0, pa1, pa2, pa3, pa4, pa5⟩ := dV (hi_.below hW hhi) ha (p := off') (by omega); obtain ⟨pb0, pb1, pb2, pb3, pb4, pb5⟩ := dV (hi_.below hW hhi) hb (p := off' + 6) (by omega); obtain ⟨pc0, pc1, pc2, pc3, pc4, pc5⟩ := dV (hi_.below hW hhi) hc (p := off' + 12) (by omega); skip) | fail)
  all_goals go_ret
  all_goals ((try subst_vars); exact ⟨ah (by first | rfl | exact HO.out.symm), hW⟩)
 have HCC := lH hc2
 clear hc2
 have HO : Hid (V = true) := lH (by rw [HE.out, HK0.out, HC.out, HT.out, KA.out, KB.out, KC.out, HA.out, HB.out, HCC.out, HN0.out]; simp)
 clear HE HC
 go_enter Tryz.func74, Tryz.ntmps74
 go_upto_region 1 with fail
 generalize w.alloc (.cells #[Value.int .i64 6, .int .i64 tag, .int .i64 ak, .slice (some ⟨g', off', none⟩) aj.length ni, .slice Ak aX.length nk] 97) = W at *
 have ca := a0.cell
 have la := a0.lt
 replace c12 := (hW.cell (p := ⟨g, off + 12, none⟩) hg).trans c12
 have hgW : g < W.heap.size := nL hg hW.size
 go_upto_region 2 with fail
 go_quiet (fail)
 replace a0 := a0.drewN nq
 replace hW := bN hW nq
 generalize World.drewN W nq = W2 at *
 replace ca := a0.cell
 replace la := a0.lt
 obtain ⟨pa0, pa1, pa2, pa3, pa4, pa5⟩ := dV (hi_.below hW hhi) ha (p := off') (by omega)
 obtain ⟨pb0, pb1, pb2, pb3, pb4, pb5⟩ := dV (hi_.below hW hhi) hb (p := off' + 6) (by omega)
 obtain ⟨pc0, pc1, pc2, pc3, pc4, pc5⟩ := dV (hi_.below hW hhi) hc (p := off' + 12) (by omega)
 go_upto_region 20 with fail
 dsimp only [List.append]
 go_wp2_with (first | (go_at_call_of 76 (Value.agg #[Value.int .i64 a.kind, .int .i64 a.number, .int .i64 a.index, .string a.text, .int .i64 a.eB, .int .i64 a.dW]); refine (mH s a _ _ (h.below hW) (aQ.mk_ (lo := 0) (hi := 0))).mono ?_; rw [HA.out]; rintro e w1 ⟨rfl, hb1⟩; replace hb1 := nX hW a0 hb1; clear hW a0 ca la; obtain ⟨hW, a0, ca, la⟩ := hb1; clear pa0 pa1 pa2 pa3 pa4 pa5; clear pb0 pb1 pb2 pb3 pb4 pb5; clear pc0 pc1 pc2 pc3 pc4 pc5; obtain ⟨pa0, pa1, pa2, pa3, pa4, pa5⟩ := dV (hi_.below hW hhi) ha (p := off') (by omega); obtain ⟨pb0, pb1, pb2, pb3, pb4, pb5⟩ := dV (hi_.below hW hhi) hb (p := off' + 6) (by omega); obtain ⟨pc0, pc1, pc2, pc3, pc4, pc5⟩ := dV (hi_.below hW hhi) hc (p := off' + 12) (by omega); skip) | (go_at_call_of 76 (Value.agg #[Value.int .i64 b.kind, .int .i64 b.number, .int .i64 b.index, .string b.text, .int .i64 b.eB, .int .i64 b.dW]); refine (mH s b _ _ (h.below hW) (aQ.mk_ (lo := 0) (hi := 0))).mono ?_; rw [HB.out]; rintro e w1 ⟨rfl, hb1⟩; replace hb1 := nX hW a0 hb1; clear hW a0 ca la; obtain ⟨hW, a0, ca, la⟩ := hb1; clear pa0 pa1 pa2 pa3 pa4 pa5; clear pb0 pb1 pb2 pb3 pb4 pb5; clear pc0 pc1 pc2 pc3 pc4 pc5; obtain ⟨pa0, pa1, pa2, pa3, pa4, pa5⟩ := dV (hi_.below hW hhi) ha (p := off') (by omega); obtain ⟨pb0, pb1, pb2, pb3, pb4, pb5⟩ := dV (hi_.below hW hhi) hb (p := off' + 6) (by omega); obtain ⟨pc0, pc1, pc2, pc3, pc4, pc5⟩ := dV (hi_.below hW hhi) hc (p := off' + 12) (by omega); skip) | (go_at_call_of 76 (Value.agg #[Value.int .i64 c.kind, .int .i64 c.number, .int .i64 c.index, .string c.text, .int .i64 c.eB, .int .i64 c.dW]); refine (mH s c _ _ (h.below hW) (aQ.mk_ (lo := 0) (hi := 0))).mono ?_; rw [HCC.out]; rintro e w1 ⟨rfl, hb1⟩; replace hb1 := nX hW a0 hb1; clear hW a0 ca la; obtain ⟨hW, a0, ca, la⟩ := hb1; clear pa0 pa1 pa2 pa3 pa4 pa5; clear pb0 pb1 pb2 pb3 pb4 pb5; clear pc0 pc1 pc2 pc3 pc4 pc5; obtain ⟨pa0, pa1, pa2, pa3, pa4, pa5⟩ := dV (hi_.below hW hhi) ha (p := off') (by omega); obtain ⟨pb0, pb1, pb2, pb3, pb4, pb5⟩ := dV (hi_.below hW hhi) hb (p := off' + 6) (by omega); obtain ⟨pc0, pc1, pc2, pc3, pc4, pc5⟩ := dV (hi_.below hW hhi) hc (p := off' + 12) (by omega); skip) | fail)
 all_goals go_ret
 all_goals ((try subst_vars); exact ⟨ah (by clear h hi_ hk_ a0 hW ca la; (try rw [HO.out]); simp_all <;> omega), hW⟩)
end Go.Proofs.YtoddlphekcihgaaGreatDoor
