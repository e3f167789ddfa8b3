/- AY of the program: is an object valid in a yX -/
import Derived.Test.YtoddlphekcihgaaGreatDoorQ14
import Derived.Test.YtoddlphekcihgaaGreatDoorQ15
set_option maxRecDepth 100000
set_option maxHeartbeats 8000000
set_option linter.unusedVariables false
set_option linter.unusedSimpArgs false
namespace Go.Proofs.YtoddlphekcihgaaGreatDoor
open Go.RowKit
theorem Px (s : dP) (tag ak : Int) (aj aX : List aQ) (Ai Ak : Option Addr) (ni nk : Nat) (w : World) {g off lo hi lo' hi' : Nat} (h : At w g off lo hi dP.ay s)
 (hi_ : dz w lo' hi' 6 aQ.ay (.slice Ai aj.length ni) aj) (hk_ : dz w lo' hi' 6 aQ.ay (.slice Ak aX.length nk) aX) (hhi : hi' ≤ w.heap.size) :
 Calls Tryz.prog 96 #[.pointer (some ⟨g, off, none⟩), .agg #[.int .i64 6, .int .i64 tag, .int .i64 ak, .slice Ai aj.length ni, .slice Ak aX.length nk]] w fun e w' => e = .returned (.bool (fZ s ⟨6, tag, ak, aj, aX⟩)) ∧ Below w.heap.size w w' := by
 obtain ⟨a0, hW⟩ := eZ w 97 #[.int .i64 6, .int .i64 tag, .int .i64 ak, .slice Ai aj.length ni, .slice Ak aX.length nk]
 obtain ⟨An, nn, Ar, nr, Ao, no, Ag, ng, Au, nu, At', nt, Aa, na, hg, hle, hn, un, mn, hr, ur, mr, ho, uo, mo, hgl, ugl, mgl, hu, uu, mu, ht, ut, mt, ha, ua, ma, c0, c1, c2, c3, c4, c5, c6, c7, c8, c9, c10, c11, c12⟩ := dP.in_ h
 unfold maxLen at mr
 clear hle hn un mn ho uo mo hgl ugl mgl hu uu mu ht ut mt ha ua ma c0 c2 c3 c4 c5 c6 c7 c8 c9 c10 c11 hr ur mr c1
 by_cases hs1 : ak < 1
 ·have HO : Hid (fZ s ⟨6, tag, ak, aj, aX⟩ = false) := by show _ = _; simp [fZ, fU]; intro a b; exfalso; omega
  have d1 := dT hs1
  clear hs1
  go_enter Tryz.func96, Tryz.ntmps96
  go_upto_region 2 with fail
  go_quiet (fail)
  go_wp2_with fail
  go_ret
  exact ⟨ah HO.out.symm, bN hW _⟩
 have d1 := dF hs1
 by_cases hs2 : s.kI < ak
 ·have HO : Hid (fZ s ⟨6, tag, ak, aj, aX⟩ = false) := by show _ = _; simp [fZ, fU]; intro a b; exfalso; omega
  have d2 := dT hs2
  clear hs2
  go_enter Tryz.func96, Tryz.ntmps96
  go_upto_region 2 with fail
  go_quiet (fail)
  go_wp2_with fail
  go_ret
  exact ⟨ah HO.out.symm, bN hW _⟩
 have d2 := dF hs2
 generalize hV : fZ s ⟨6, tag, ak, aj, aX⟩ = V
 have HE : Hid (V = (decide (1 ≤ tag) && decide (aX.length = 0) && KT s aj)) := by
  show _ = _
  rw [← hV]
  simp [fZ, fU, tK, qV, mK, show 1 ≤ ak ∧ ak ≤ s.kI by omega]
 clear hs1 hs2
 clear hV
 by_cases h2 : aj.length = 3
 rotate_left
 ·have HO : Hid (V = false) := lH (by rw [HE.out, Li h2]; simp)
  have d2 : ((aj.length : Int) == 3) = false := by simp; omega
  clear h2 HE
  go_enter Tryz.func96, Tryz.ntmps96
  go_upto_region 2 with fail
  go_quiet (fail)
  replace a0 := a0.drewN nq
  replace hW := bN hW nq
  generalize World.drewN (w.alloc (.cells #[.int .i64 6, .int .i64 tag, .int .i64 ak, .slice Ai aj.length ni, .slice Ak aX.length nk] 97)) nq = W at *
  have ca := a0.cell
  have la := a0.lt
  go_wp2_with fail
  all_goals go_ret
  all_goals (exact ⟨ah HO.out.symm, hW⟩)
 have d3 : ((aj.length : Int) == 3) = true := by simp; omega
 have hln : 3 ≤ aj.length := by omega
 obtain ⟨a, ha⟩ : ∃ c, aj[0]? = some c := ⟨_, gE (by omega)⟩
 obtain ⟨b, hb⟩ : ∃ c, aj[1]? = some c := ⟨_, gE (by omega)⟩
 obtain ⟨c, hc⟩ : ∃ c, aj[2]? = some c := ⟨_, gE (by omega)⟩
 obtain ⟨g', off', rfl, hg1, hg2, -⟩ := aQ.at_ hi_ (j := 0) ha
 have HC := lH (GB (s := s) h2 ha hb hc)
 clear h2
 rcases (Classical.em (a.kind = 19)).symm with ka | ka
 have HO : Hid (V = false) := lH (by rw [HE.out, HC.out, dF ka]; simp)
 have ea : (a.kind == 19) = false := by simp [ka]
 clear HE HC ka
 rotate_left
 have ea : (a.kind == 19) = true := by simp [ka]
 have KA := lH (dT ka)
 clear ka
 cases haq : cK s a
 have HA := lH haq
 have HO : Hid (V = false) := lH (by rw [HE.out, HC.out, HA.out]; simp)
 clear HE HC haq
 rotate_left
 have HA := lH haq
 clear haq
 rcases (Classical.em (b.kind = 19)).symm with kb | kb
 have HO : Hid (V = false) := lH (by rw [HE.out, HC.out, dF kb]; simp)
 have eb : (b.kind == 19) = false := by simp [kb]
 clear HE HC kb
 rotate_left
 have eb : (b.kind == 19) = true := by simp [kb]
 have KB := lH (dT kb)
 clear kb
 cases hbq : cK s b
 have HB := lH hbq
 have HO : Hid (V = false) := lH (by rw [HE.out, HC.out, HB.out]; simp)
 clear HE HC hbq
 rotate_left
 have HB := lH hbq
 clear hbq
 rcases (Classical.em (c.kind = 1)).symm with kc | kc
 have HO : Hid (V = false) := lH (by rw [HE.out, HC.out, dF kc]; simp)
 have ec : (c.kind == 1) = false := by simp [kc]
 clear HE HC kc
 rotate_left
 have ec : (c.kind == 1) = true := by simp [kc]
 have KC := lH (dT kc)
 clear kc
 cases hcq : cK s c
 have HCC := lH hcq
 have HO : Hid (V = false) := lH (by rw [HE.out, HC.out, HCC.out]; simp)
 clear HE HC hcq
 rotate_left
 rotate_right 6
 iterate 6 focus
  go_enter Tryz.func96, Tryz.ntmps96
  go_upto_region 2 with fail
  go_quiet (fail)
  replace a0 := a0.drewN nq
  replace hW := bN hW nq
  generalize World.drewN (w.alloc (.cells #[.int .i64 6, .int .i64 tag, .int .i64 ak, .slice (some ⟨g', off', none⟩) aj.length ni, .slice Ak aX.length nk] 97)) nq = W at *
  have ca := a0.cell
  have la := a0.lt
  obtain ⟨pa0, pa1, pa2, pa3, pa4, pa5⟩ := dV (hi_.below hW hhi) ha (p := off') (by omega)
  obtain ⟨pb0, pb1, pb2, pb3, pb4, pb5⟩ := dV (hi_.below hW hhi) hb (p := off' + 6) (by omega)
  obtain ⟨pc0, pc1, pc2, pc3, pc4, pc5⟩ := dV (hi_.below hW hhi) hc (p := off' + 12) (by omega)
  go_wp2_with (first | (go_at_call_of 97 (Value.agg #[Value.int .i64 a.kind, .int .i64 a.number, .int .i64 a.index, .string a.text, .int .i64 a.eB, .int .i64 a.dW]); refine (mX s a _ _ (h.below hW) (aQ.mk_ (lo := 0) (hi := 0))).mono ?_; rw [HA.out]; rintro e w1 ⟨rfl, hb1⟩; replace hb1 := nX hW a0 hb1; clear hW a0 ca la; obtain ⟨hW, a0, ca, la⟩ := hb1; clear pa0 pa1 pa2 pa3 pa4 pa5; clear pb0 pb1 pb2 pb3 pb4 pb5; clear pc0 pc1 pc2 pc3 pc4 pc5; obtain ⟨pa0, pa1, pa2, pa3, pa4, pa5⟩ := dV (hi_.below hW hhi) ha (p := off') (by omega); obtain ⟨pb0, pb1, pb2, pb3, pb4, pb5⟩ := dV (hi_.below hW hhi) hb (p := off' + 6) (by omega); obtain ⟨pc0, pc1, pc2, pc3, pc4, pc5⟩ := dV (hi_.below hW hhi) hc (p := off' + 12) (by omega); skip) | (go_at_call_of 97 (Value.agg #[Value.int .i64 b.kind, .int .i64 b.number, .int .i64 b.index, .string b.text, .int .i64 b.eB, .int .i64 b.dW]); refine (mX s b _ _ (h.below hW) (aQ.mk_ (lo := 0) (hi := 0))).mono ?_; rw [HB.out]; rintro e w1 ⟨rfl, hb1⟩; replace hb1 := nX hW a0 hb1; clear hW a0 ca la; obtain ⟨hW, a0, ca, la⟩ := hb1; clear pa0 pa1 pa2 pa3 pa4 pa5; clear pb0 pb1 pb2 pb3 pb4 pb5; clear pc0 pc1 pc2 pc3 pc4 pc5; obtain ⟨pa0, pa1, pa2, pa3, pa4, pa5⟩ := dV (hi_.below hW hhi) ha (p := off') (by omega); obtain ⟨pb0, pb1, pb2, pb3, pb4, pb5⟩ := dV (hi_.below hW hhi) hb (p := off' + 6) (by omega); obtain ⟨pc0, pc1, pc2, pc3, pc4, pc5⟩ := dV (hi_.below hW hhi) hc (p := off' + 12) (by omega); skip) | (go_at_call_of 97 (Value.agg #[Value.int .i64 c.kind, .int .i64 c.number, .int .i64 c.index, .string c.text, .int .i64 c.eB, .int .i64 c.dW]); refine (mX s c _ _ (h.below hW) (aQ.mk_ (lo := 0) (hi := 0))).mono ?_; rw [HCC.out]; rintro e w1 ⟨rfl, hb1⟩; replace hb1 := nX hW a0 hb1; clear hW a0 ca la; obtain ⟨hW, a0, ca, la⟩ := hb1; clear pa0 pa1 pa2 pa3 pa4 pa5; clear pb0 pb1 pb2 pb3 pb4 pb5; clear pc0 pc1 pc2 pc3 pc4 pc5; obtain ⟨pa0, pa1, pa2, pa3, pa4, pa5⟩ := dV (hi_.below hW hhi) ha (p := off') (by omega); obtain ⟨pb0, pb1, pb2, pb3, pb4, pb5⟩ := dV (hi_.below hW hhi) hb (p := off' + 6) (by omega); obtain ⟨pc0, pc1, pc2, pc3, pc4, pc5⟩ := dV (hi_.below hW hhi) hc (p := off' + 12) (by omega); skip) | fail)
  all_goals go_ret
  all_goals (exact ⟨ah HO.out.symm, hW⟩)
 have HCC := lH hcq
 clear hcq
 have HO : Hid (V = (decide (1 ≤ tag) && decide (aX.length = 0) && decide (0 ≤ c.number))) := lH (by rw [HE.out, HC.out, KA.out, KB.out, KC.out, HA.out, HB.out, HCC.out]; simp)
 clear HE HC
 go_enter Tryz.func96, Tryz.ntmps96
 go_upto_region 2 with fail
 go_quiet (fail)
 replace a0 := a0.drewN nq
 replace hW := bN hW nq
 generalize World.drewN (w.alloc (.cells #[.int .i64 6, .int .i64 tag, .int .i64 ak, .slice (some ⟨g', off', none⟩) aj.length ni, .slice Ak aX.length nk] 97)) nq = W at *
 have ca := a0.cell
 have la := a0.lt
 obtain ⟨pa0, pa1, pa2, pa3, pa4, pa5⟩ := dV (hi_.below hW hhi) ha (p := off') (by omega)
 obtain ⟨pb0, pb1, pb2, pb3, pb4, pb5⟩ := dV (hi_.below hW hhi) hb (p := off' + 6) (by omega)
 obtain ⟨pc0, pc1, pc2, pc3, pc4, pc5⟩ := dV (hi_.below hW hhi) hc (p := off' + 12) (by omega)
 go_wp2_with (first | (go_at_call_of 97 (Value.agg #[Value.int .i64 a.kind, .int .i64 a.number, .int .i64 a.index, .string a.text, .int .i64 a.eB, .int .i64 a.dW]); refine (mX s a _ _ (h.below hW) (aQ.mk_ (lo := 0) (hi := 0))).mono ?_; rw [HA.out]; rintro e w1 ⟨rfl, hb1⟩; replace hb1 := nX hW a0 hb1; clear hW a0 ca la; obtain ⟨hW, a0, ca, la⟩ := hb1; clear pa0 pa1 pa2 pa3 pa4 pa5; clear pb0 pb1 pb2 pb3 pb4 pb5; clear pc0 pc1 pc2 pc3 pc4 pc5; obtain ⟨pa0, pa1, pa2, pa3, pa4, pa5⟩ := dV (hi_.below hW hhi) ha (p := off') (by omega); obtain ⟨pb0, pb1, pb2, pb3, pb4, pb5⟩ := dV (hi_.below hW hhi) hb (p := off' + 6) (by omega); obtain ⟨pc0, pc1, pc2, pc3, pc4, pc5⟩ := dV (hi_.below hW hhi) hc (p := off' + 12) (by omega); skip) | (go_at_call_of 97 (Value.agg #[Value.int .i64 b.kind, .int .i64 b.number, .int .i64 b.index, .string b.text, .int .i64 b.eB, .int .i64 b.dW]); refine (mX s b _ _ (h.below hW) (aQ.mk_ (lo := 0) (hi := 0))).mono ?_; rw [HB.out]; rintro e w1 ⟨rfl, hb1⟩; replace hb1 := nX hW a0 hb1; clear hW a0 ca la; obtain ⟨hW, a0, ca, la⟩ := hb1; clear pa0 pa1 pa2 pa3 pa4 pa5; clear pb0 pb1 pb2 pb3 pb4 pb5; clear pc0 pc1 pc2 pc3 pc4 pc5; obtain ⟨pa0, pa1, pa2, pa3, pa4, pa5⟩ := dV (hi_.below hW hhi) ha (p := off') (by omega); obtain ⟨pb0, pb1, pb2, pb3, pb4, pb5⟩ := dV (hi_.below hW hhi) hb (p := off' + 6) (by omega); obtain ⟨pc0, pc1, pc2, pc3, pc4, pc5⟩ := dV (hi_.below hW hhi) hc (p := off' + 12) (by omega); skip) | (go_at_call_of 97 (Value.agg #[Value.int .i64 c.kind, .int .i64 c.number, .int .i64 c.index, .string c.text, .int .i64 c.eB, .int .i64 c.dW]); refine (mX s c _ _ (h.below hW) (aQ.mk_ (lo := 0) (hi := 0))).mono ?_; rw [HCC.out]; rintro e w1 ⟨rfl, hb1⟩; replace hb1 := nX hW a0 hb1; clear hW a0 ca la; obtain ⟨hW, a0, ca, la⟩ := hb1; clear pa0 pa1 pa2 pa3 pa4 pa5; clear pb0 pb1 pb2 pb3 pb4 pb5; clear pc0 pc1 pc2 pc3 pc4 pc5; obtain ⟨pa0, pa1, pa2, pa3, pa4, pa5⟩ := dV (hi_.below hW hhi) ha (p := off') (by omega); obtain ⟨pb0, pb1, pb2, pb3, pb4, pb5⟩ := dV (hi_.below hW hhi) hb (p := off' + 6) (by omega); obtain ⟨pc0, pc1, pc2, pc3, pc4, pc5⟩ := dV (hi_.below hW hhi) hc (p := off' + 12) (by omega); skip) | fail)
 all_goals go_ret
 all_goals ((try subst_vars); exact ⟨ah (by clear h hi_ hk_ a0 hW ca la; (try rw [HO.out]); simp_all <;> omega), hW⟩)
theorem Py (s : dP) (tag ak : Int) (aj aX : List aQ) (Ai Ak : Option Addr) (ni nk : Nat) (w : World) {g off lo hi lo' hi' : Nat} (h : At w g off lo hi dP.ay s)
 (hi_ : dz w lo' hi' 6 aQ.ay (.slice Ai aj.length ni) aj) (hk_ : dz w lo' hi' 6 aQ.ay (.slice Ak aX.length nk) aX) (hhi : hi' ≤ w.heap.size) :
 Calls Tryz.prog 96 #[.pointer (some ⟨g, off, none⟩), .agg #[.int .i64 5, .int .i64 tag, .int .i64 ak, .slice Ai aj.length ni, .slice Ak aX.length nk]] w fun e w' => e = .returned (.bool (fZ s ⟨5, tag, ak, aj, aX⟩)) ∧ Below w.heap.size w w' := by
 obtain ⟨a0, hW⟩ := eZ w 97 #[.int .i64 5, .int .i64 tag, .int .i64 ak, .slice Ai aj.length ni, .slice Ak aX.length nk]
 obtain ⟨An, nn, Ar, nr, Ao, no, Ag, ng, Au, nu, At', nt, Aa, na, hg, hle, hn, un, mn, hr, ur, mr, ho, uo, mo, hgl, ugl, mgl, hu, uu, mu, ht, ut, mt, ha, ua, ma, c0, c1, c2, c3, c4, c5, c6, c7, c8, c9, c10, c11, c12⟩ := dP.in_ h
 unfold maxLen at mr
 clear hn un mn ho uo mo hgl ugl mgl hu uu mu ht ut mt ha ua ma c0 c2 c3 c4 c5 c6 c7 c8 c9 c10 c11
 by_cases hs1 : ak < 1
 ·have HO : Hid (fZ s ⟨5, tag, ak, aj, aX⟩ = false) := by show _ = _; simp [fZ, fU]; intro a b; exfalso; omega
  have d1 := dT hs1
  clear hs1
  go_enter Tryz.func96, Tryz.ntmps96
  go_upto_region 2 with fail
  go_quiet (fail)
  go_wp2_with fail
  go_ret
  exact ⟨ah HO.out.symm, bN hW _⟩
 have d1 := dF hs1
 by_cases hs2 : s.kI < ak
 ·have HO : Hid (fZ s ⟨5, tag, ak, aj, aX⟩ = false) := by show _ = _; simp [fZ, fU]; intro a b; exfalso; omega
  have d2 := dT hs2
  clear hs2
  go_enter Tryz.func96, Tryz.ntmps96
  go_upto_region 2 with fail
  go_quiet (fail)
  go_wp2_with fail
  go_ret
  exact ⟨ah HO.out.symm, bN hW _⟩
 have d2 := dF hs2
 generalize hV : fZ s ⟨5, tag, ak, aj, aX⟩ = V
 have HE : Hid (V = (decide (0 ≤ tag ∧ tag < s.aA.length) && decide (aX.length = 0) && (xJ s ⟨5, tag, ak, aj, aX⟩ && aj.all (ig s)))) := by
  show _ = _
  rw [← hV]
  simp [fZ, fU, tK, qV, mK, show 1 ≤ ak ∧ ak ≤ s.kI by omega]
 clear hs1 hs2
 clear hV
 rcases (Classical.em (0 ≤ tag)).symm with t0 | t0
 have HO : Hid (V = false) := lH (by rw [HE.out, dF (by omega)]; rfl)
 have e0 := dF t0
 clear t0 HE hr
 rotate_left
 have e0 := dT t0
 rcases (Classical.em (tag < (s.aA.length : Int))).symm with t1 | t1
 have HO : Hid (V = false) := lH (by rw [HE.out, dF (by omega)]; rfl)
 have e1 := dF t1
 clear t1 HE hr
 rotate_left
 rotate_right 2
 iterate 2 focus
  go_enter Tryz.func96, Tryz.ntmps96
  go_upto_region 2 with fail
  go_quiet (fail)
  replace a0 := a0.drewN nq
  replace hW := bN hW nq
  generalize World.drewN (w.alloc (.cells #[.int .i64 5, .int .i64 tag, .int .i64 ak, .slice Ai aj.length ni, .slice Ak aX.length nk] 97)) nq = W at *
  have ca := a0.cell
  have la := a0.lt
  replace c1 := (hW.cell (p := ⟨g, off + 1, none⟩) hg).trans c1
  have hgW : g < W.heap.size := nL hg hW.size
  go_upto_region 20 with fail
  go_quiet (fail)
  go_upto_region 21 with fail
  go_quiet (fail)
  go_wp2_with fail
  all_goals go_ret
  all_goals ((try subst_vars); exact ⟨ah (by first | rfl | exact HO.out.symm), by first | exact hW | exact bN hW _ | exact bN (bN hW _) _⟩)
 obtain ⟨j, rfl⟩ : ∃ j : Nat, tag = j := ⟨tag.toNat, by omega⟩
 have e1 := dT t1
 have hjl : j < s.aA.length := by omega
 obtain ⟨r, hc⟩ : ∃ r, s.aA[j]? = some r := ⟨_, gE hjl⟩
 have HE : Hid (V = (decide (aX.length = 0) && (decide (aj.length = r.fields.length) && aj.all (ig s)))) := lH (by rw [HE.out, dT (by omega)]; simp [xJ, hc])
 obtain ⟨g2, off2, Af, nf, rfl, hg3, hg4, -, hcr, p0, p1, p2⟩ := gU.at_ hr hc
 have hfl := (gU.rows hcr).shape
 clear hc hcr hr
 clear hfl
 have hg5 : g2 < w.heap.size := nL hg4 hle
 cases hl : ((aj.length : Int) == (r.fields.length : Int)) with
 | false =>
   have HO : Hid (V = false) := lH (by rw [HE.out, dF (show ¬ aj.length = r.fields.length by simp at hl; omega)]; simp)
   clear HE
   go_enter Tryz.func96, Tryz.ntmps96
   go_upto_region 2 with fail
   go_quiet (fail)
   replace a0 := a0.drewN nq
   replace hW := bN hW nq
   generalize World.drewN (w.alloc (.cells #[.int .i64 5, .int .i64 (j : Int), .int .i64 ak, .slice Ai aj.length ni, .slice Ak aX.length nk] 97)) nq = W at *
   have ca := a0.cell
   have la := a0.lt
   replace c1 := (hW.cell (p := ⟨g, off + 1, none⟩) hg).trans c1
   have hgW : g < W.heap.size := nL hg hW.size
   replace p1 := (hW.cell (p := ⟨g2, off2 + j * 3 + 1, none⟩) hg5).trans p1
   go_upto_region 20 with fail
   go_quiet (fail)
   go_upto_region 21 with fail
   go_quiet (fail)
   go_wp2_with fail
   all_goals go_ret
   all_goals ((try subst_vars); exact ⟨ah (by first | rfl | exact HO.out.symm), by first | exact hW | exact bN hW _ | exact bN (bN hW _) _⟩)
 | true =>
 have HO : Hid (V = (decide (aX.length = 0) && aj.all (ig s))) := lH (by rw [HE.out, dT (show aj.length = r.fields.length by simp at hl; omega)]; simp)
 clear HE
 go_enter Tryz.func96, Tryz.ntmps96
 go_upto_region 2 with fail
 go_quiet (fail)
 replace a0 := a0.drewN nq
 replace hW := bN hW nq
 generalize World.drewN (w.alloc (.cells #[.int .i64 5, .int .i64 (j : Int), .int .i64 ak, .slice Ai aj.length ni, .slice Ak aX.length nk] 97)) nq = W at *
 have ca := a0.cell
 have la := a0.lt
 replace c1 := (hW.cell (p := ⟨g, off + 1, none⟩) hg).trans c1
 have hgW : g < W.heap.size := nL hg hW.size
 replace p1 := (hW.cell (p := ⟨g2, off2 + j * 3 + 1, none⟩) hg5).trans p1
 go_upto_region 20 with fail
 go_quiet (fail)
 go_upto_region 21 with fail
 replace a0 := a0.drewN nq
 replace ca := a0.cell
 replace la := a0.lt
 replace p1 : (World.drewN W nq).cell? ⟨g2, off2 + j * 3 + 1, none⟩ = _ := p1
 replace c1 : (World.drewN W nq).cell? ⟨g, off + 1, none⟩ = _ := c1
 replace hgW : g < (World.drewN W nq).heap.size := hgW
 replace hW := bN hW nq
 generalize World.drewN W nq = W2 at *
 go_still_tail 21, (by kernel_rfl)
 change wpList _ _ _ _ _ W2.drew
 replace hW := aC hW
 generalize W2.drew = W3 at *
 go_wp2_with fail
 refine (fE s aj _ _ (h.below hW) (hi_.below hW hhi) (nT hhi hW.size)).mono ?_; rintro e w1 ⟨rfl, hb1⟩; replace hW := hW.trans (hb1.mono hW.size); clear hb1
 go_wp2_with fail
 all_goals go_ret
 all_goals ((try subst_vars); exact ⟨ah (by clear h hi_ hk_ a0 hW ca la; (try rw [HO.out]); simp_all <;> omega), by first | exact hW | exact bN hW _ | exact bN (bN hW _) _⟩)
end Go.Proofs.YtoddlphekcihgaaGreatDoor
