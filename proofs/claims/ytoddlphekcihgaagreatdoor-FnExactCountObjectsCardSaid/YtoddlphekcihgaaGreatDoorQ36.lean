/- wK of the reference: is an object valid in a yX -/
import Derived.Test.YtoddlphekcihgaaGreatDoorQ15
import Derived.Test.YtoddlphekcihgaaGreatDoorQ34
set_option maxRecDepth 100000
set_option maxHeartbeats 8000000
set_option linter.unusedVariables false
set_option linter.unusedSimpArgs false
namespace Go.Proofs.YtoddlphekcihgaaGreatDoor
open Go.RowKit
theorem Qz (s : dP) (tag ak : Int) (aj aX : List aQ) (Ai Ak : Option Addr) (ni nk : Nat) (w : World) {g off lo hi lo' hi' : Nat} (h : At w g off lo hi dP.ay s)
 (hi_ : dz w lo' hi' 6 aQ.ay (.slice Ai aj.length ni) aj) (hk_ : dz w lo' hi' 6 aQ.ay (.slice Ak aX.length nk) aX) (hhi : hi' ≤ w.heap.size) :
 Calls Tryz.prog 74 #[.pointer (some ⟨g, off, none⟩), .agg #[Value.int .i64 4, .int .i64 tag, .int .i64 ak, .slice Ai aj.length ni, .slice Ak aX.length nk]] w fun e w' => e = .returned (.bool (fZ s ⟨4, tag, ak, aj, aX⟩)) ∧ Below w.heap.size w w' := by
 obtain ⟨a0, hW⟩ := eZ w 97 #[.int .i64 4, .int .i64 tag, .int .i64 ak, .slice Ai aj.length ni, .slice Ak aX.length nk]
 obtain ⟨An, nn, Ar, nr, Ao, no, Ag, ng, Au, nu, At', nt, Aa, na, hg, hle, hn, un, mn, hr, ur, mr, ho, uo, mo, hgl, ugl, mgl, hu, uu, mu, ht, ut, mt, ha, ua, ma, c0, c1, c2, c3, c4, c5, c6, c7, c8, c9, c10, c11, c12⟩ := dP.in_ h
 unfold maxLen at mr
 clear hle hn un mn ho uo mo hgl ugl mgl hu uu mu ht ut mt ha ua ma c0 c2 c3 c4 c5 c6 c7 c8 c9 c10 c11 hr ur mr c1
 by_cases hs1 : ak < 1
 ·have HO : Hid (fZ s ⟨4, tag, ak, aj, aX⟩ = false) := by show _ = _; simp [fZ, fU]; intro a b; exfalso; omega
  have d1 := dT hs1
  clear hs1
  go_enter Tryz.func74, Tryz.ntmps74
  go_upto_region 1 with fail
  generalize w.alloc (.cells #[Value.int .i64 4, .int .i64 tag, .int .i64 ak, .slice Ai aj.length ni, .slice Ak aX.length nk] 97) = W at *
  have ca := a0.cell
  have la := a0.lt
  replace c12 := (hW.cell (p := ⟨g, off + 12, none⟩) hg).trans c12
  have hgW : g < W.heap.size := nL hg hW.size
  go_upto_region 2 with fail
  go_quiet (fail)
  replace a0 := a0.drewN nq
  replace hW := bN hW nq
  generalize World.drewN W nq = W2 at *
  replace ca := a0.cell
  replace la := a0.lt
  go_wp2_with fail
  go_ret
  exact ⟨ah HO.out.symm, hW⟩
 have d1 := dF hs1
 by_cases hs2 : s.kI < ak
 ·have HO : Hid (fZ s ⟨4, tag, ak, aj, aX⟩ = false) := by show _ = _; simp [fZ, fU]; intro a b; exfalso; omega
  have d2 := dT hs2
  clear hs2
  go_enter Tryz.func74, Tryz.ntmps74
  go_upto_region 1 with fail
  generalize w.alloc (.cells #[Value.int .i64 4, .int .i64 tag, .int .i64 ak, .slice Ai aj.length ni, .slice Ak aX.length nk] 97) = W at *
  have ca := a0.cell
  have la := a0.lt
  replace c12 := (hW.cell (p := ⟨g, off + 12, none⟩) hg).trans c12
  have hgW : g < W.heap.size := nL hg hW.size
  go_upto_region 2 with fail
  go_quiet (fail)
  replace a0 := a0.drewN nq
  replace hW := bN hW nq
  generalize World.drewN W nq = W2 at *
  replace ca := a0.cell
  replace la := a0.lt
  go_wp2_with fail
  go_ret
  exact ⟨ah HO.out.symm, hW⟩
 have d2 := dF hs2
 generalize hV : fZ s ⟨4, tag, ak, aj, aX⟩ = V
 have HE : Hid (V = (decide (tag = 0) && (decide (aX.length ≤ 40) && qb aX && aX.all (ig s)) && decide (aj.length = 0))) := by
  show _ = _
  rw [← hV]
  simp [fZ, fU, tK, qV, mK, show 1 ≤ ak ∧ ak ≤ s.kI by omega]
 clear hs1 hs2
 clear hV
 rcases (Classical.em (aX.length ≤ 40)).symm with k40 | k40
 have d40 : decide ((aX.length : Int) ≤ 40) = false := dF (by omega)
 have HO : Hid (V = false) := lH (by rw [HE.out, dF k40]; simp)
 clear HE k40
 rotate_left
 have d40 : decide ((aX.length : Int) ≤ 40) = true := dT (by omega)
 cases hl : ((aj.length : Int) == 0)
 have HO : Hid (V = false) := lH (by rw [HE.out, dF (show ¬ aj.length = 0 by have e := beq_eq_false_iff_ne.1 hl; omega)]; simp)
 clear HE
 rotate_left
 have HL := lH (dT (show aj.length = 0 by have e := eq_of_beq hl; omega))
 cases ha2 : aX.all (ig s)
 have HA := lH ha2
 have HO : Hid (V = false) := lH (by rw [HE.out, HA.out]; simp)
 clear HE ha2
 rotate_left
 have HA := lH ha2
 clear ha2
 cases hd2 : qb aX
 have HD := lH hd2
 have HO : Hid (V = false) := lH (by rw [HE.out, HD.out]; simp)
 clear HE hd2
 rotate_left
 rotate_right 4
 iterate 4 focus
  go_enter Tryz.func74, Tryz.ntmps74
  go_upto_region 1 with fail
  generalize w.alloc (.cells #[Value.int .i64 4, .int .i64 tag, .int .i64 ak, .slice Ai aj.length ni, .slice Ak aX.length nk] 97) = W at *
  have ca := a0.cell
  have la := a0.lt
  replace c12 := (hW.cell (p := ⟨g, off + 12, none⟩) hg).trans c12
  have hgW : g < W.heap.size := nL hg hW.size
  go_upto_region 2 with fail
  go_quiet (fail)
  replace a0 := a0.drewN nq
  replace hW := bN hW nq
  generalize World.drewN W nq = W2 at *
  replace ca := a0.cell
  replace la := a0.lt
  go_wp2_with (first | (go_at_call_of 75 (Value.slice Ai aj.length ni); refine (kL s aj _ _ (h.below hW) (hi_.below hW hhi) (nT hhi hW.size)).mono ?_; rw [HI.out]; rintro e w1 ⟨rfl, hb1⟩; replace hb1 := nX hW a0 hb1; clear hW a0 ca la; obtain ⟨hW, a0, ca, la⟩ := hb1) | (go_at_call_of 75 (Value.slice Ak aX.length nk); refine (kL s aX _ _ (h.below hW) (hk_.below hW hhi) (nT hhi hW.size)).mono ?_; rw [HA.out]; rintro e w1 ⟨rfl, hb1⟩; replace hb1 := nX hW a0 hb1; clear hW a0 ca la; obtain ⟨hW, a0, ca, la⟩ := hb1) | (go_at_call 121; refine (rW aX _ _ (hk_.below hW hhi) (nT hhi hW.size)).mono ?_; rw [HD.out]; rintro e w1 ⟨rfl, hb1⟩; replace hb1 := nX hW a0 hb1; clear hW a0 ca la; obtain ⟨hW, a0, ca, la⟩ := hb1) | fail)
  all_goals go_ret
  all_goals ((try subst_vars); exact ⟨ah (by first | rfl | exact HO.out.symm), hW⟩)
 have HD := lH hd2
 clear hd2
 have HO : Hid (V = decide (tag = 0)) := lH (by rw [HE.out, HL.out, HA.out, HD.out, dT k40]; simp)
 clear HE
 go_enter Tryz.func74, Tryz.ntmps74
 go_upto_region 1 with fail
 generalize w.alloc (.cells #[Value.int .i64 4, .int .i64 tag, .int .i64 ak, .slice Ai aj.length ni, .slice Ak aX.length nk] 97) = W at *
 have ca := a0.cell
 have la := a0.lt
 replace c12 := (hW.cell (p := ⟨g, off + 12, none⟩) hg).trans c12
 have hgW : g < W.heap.size := nL hg hW.size
 go_upto_region 2 with fail
 go_quiet (fail)
 replace a0 := a0.drewN nq
 replace hW := bN hW nq
 generalize World.drewN W nq = W2 at *
 replace ca := a0.cell
 replace la := a0.lt
 go_wp2_with (first | (go_at_call_of 75 (Value.slice Ai aj.length ni); refine (kL s aj _ _ (h.below hW) (hi_.below hW hhi) (nT hhi hW.size)).mono ?_; rw [HI.out]; rintro e w1 ⟨rfl, hb1⟩; replace hb1 := nX hW a0 hb1; clear hW a0 ca la; obtain ⟨hW, a0, ca, la⟩ := hb1) | (go_at_call_of 75 (Value.slice Ak aX.length nk); refine (kL s aX _ _ (h.below hW) (hk_.below hW hhi) (nT hhi hW.size)).mono ?_; rw [HA.out]; rintro e w1 ⟨rfl, hb1⟩; replace hb1 := nX hW a0 hb1; clear hW a0 ca la; obtain ⟨hW, a0, ca, la⟩ := hb1) | (go_at_call 121; refine (rW aX _ _ (hk_.below hW hhi) (nT hhi hW.size)).mono ?_; rw [HD.out]; rintro e w1 ⟨rfl, hb1⟩; replace hb1 := nX hW a0 hb1; clear hW a0 ca la; obtain ⟨hW, a0, ca, la⟩ := hb1) | fail)
 all_goals go_ret
 all_goals ((try subst_vars); exact ⟨ah (by clear h hi_ hk_ a0 hW ca la; (try rw [HO.out]); simp_all <;> omega), hW⟩)
theorem QA (s : dP) (tag ak : Int) (aj aX : List aQ) (Ai Ak : Option Addr) (ni nk : Nat) (w : World) {g off lo hi lo' hi' : Nat} (h : At w g off lo hi dP.ay s)
 (hi_ : dz w lo' hi' 6 aQ.ay (.slice Ai aj.length ni) aj) (hk_ : dz w lo' hi' 6 aQ.ay (.slice Ak aX.length nk) aX) (hhi : hi' ≤ w.heap.size) :
 Calls Tryz.prog 74 #[.pointer (some ⟨g, off, none⟩), .agg #[Value.int .i64 8, .int .i64 tag, .int .i64 ak, .slice Ai aj.length ni, .slice Ak aX.length nk]] w fun e w' => e = .returned (.bool (fZ s ⟨8, tag, ak, aj, aX⟩)) ∧ Below w.heap.size w w' := by
 obtain ⟨a0, hW⟩ := eZ w 97 #[.int .i64 8, .int .i64 tag, .int .i64 ak, .slice Ai aj.length ni, .slice Ak aX.length nk]
 by_cases hs : ak = 0
 rotate_left
 ·have e0 : (ak != 0) = true := by simp [hs]
  have HO : Hid (fZ s ⟨8, tag, ak, aj, aX⟩ = false) := by show _ = _; simp [fZ, fU, hs]
  clear hs
  go_enter Tryz.func74, Tryz.ntmps74
  go_upto_region 1 with fail
  generalize w.alloc (.cells #[Value.int .i64 8, .int .i64 tag, .int .i64 ak, .slice Ai aj.length ni, .slice Ak aX.length nk] 97) = W at *
  have ca := a0.cell
  have la := a0.lt
  go_wp2_with fail
  go_ret
  exact ⟨ah HO.out.symm, hW⟩
 have e0 : (ak != 0) = false := by simp [hs]
 generalize hV : fZ s ⟨8, tag, ak, aj, aX⟩ = V
 have HE : Hid (V = (decide (tag = 0) && decide (aX.length = 0) && vU s aj)) := by
  show _ = _
  rw [← hV]
  simp [fZ, fU, tK, qV, mK, hs]
 clear hs
 clear hV
 by_cases h2 : aj.length = 2
 rotate_left
 ·have HO : Hid (V = false) := lH (by rw [HE.out, Ep h2]; simp)
  have d2 : ((aj.length : Int) == 2) = false := by simp; omega
  clear h2 HE
  go_enter Tryz.func74, Tryz.ntmps74
  go_upto_region 1 with fail
  generalize w.alloc (.cells #[Value.int .i64 8, .int .i64 tag, .int .i64 ak, .slice Ai aj.length ni, .slice Ak aX.length nk] 97) = W at *
  have ca := a0.cell
  have la := a0.lt
  go_wp2_with fail
  all_goals go_ret
  all_goals ((try subst_vars); exact ⟨ah (by first | rfl | exact HO.out.symm), hW⟩)
 have d2 : ((aj.length : Int) == 2) = true := by simp; omega
 have hln : 2 ≤ aj.length := by omega
 obtain ⟨a, ha⟩ : ∃ c, aj[0]? = some c := ⟨_, gE (by omega)⟩
 obtain ⟨b, hb⟩ : ∃ c, aj[1]? = some c := ⟨_, gE (by omega)⟩
 obtain ⟨g', off', rfl, hg1, hg2, -⟩ := aQ.at_ hi_ (j := 0) ha
 have HC : Hid (vU s aj = (decide (a.kind = 5) && cK s a && ig s b)) := Ik h2 ha hb
 clear h2
 rcases (Classical.em (a.kind = 5)).symm with ka | ka
 have HO : Hid (V = false) := lH (by rw [HE.out, HC.out, dF ka]; simp)
 have ea : (a.kind == 5) = false := by simp [ka]
 clear HE HC ka
 rotate_left
 have ea : (a.kind == 5) = true := by simp [ka]
 have KA := lH (dT ka)
 clear ka
 cases ha2 : cK s a
 have HA := lH ha2
 have HO : Hid (V = false) := lH (by rw [HE.out, HC.out, HA.out]; simp)
 clear HE HC ha2
 rotate_left
 have HA := lH ha2
 clear ha2
 cases hb2 : ig s b
 have HB := lH hb2
 have HO : Hid (V = false) := lH (by rw [HE.out, HC.out, HB.out]; simp)
 clear HE HC hb2
 rotate_left
 rotate_right 3
 iterate 3 focus
  go_enter Tryz.func74, Tryz.ntmps74
  go_upto_region 1 with fail
  generalize w.alloc (.cells #[Value.int .i64 8, .int .i64 tag, .int .i64 ak, .slice (some ⟨g', off', none⟩) aj.length ni, .slice Ak aX.length nk] 97) = W at *
  have ca := a0.cell
  have la := a0.lt
  obtain ⟨pa0, pa1, pa2, pa3, pa4, pa5⟩ := dV (hi_.below hW hhi) ha (p := off') (by omega)
  obtain ⟨pb0, pb1, pb2, pb3, pb4, pb5⟩ := dV (hi_.below hW hhi) hb (p := off' + 6) (by omega)
  go_wp2_with (first | (go_at_call_of 76 (Value.agg #[Value.int .i64 a.kind, .int .i64 a.number, .int .i64 a.index, .string a.text, .int .i64 a.eB, .int .i64 a.dW]); refine (mH s a _ _ (h.below hW) (aQ.mk_ (lo := 0) (hi := 0))).mono ?_; rw [HA.out]; rintro e w1 ⟨rfl, hb1⟩; replace hb1 := nX hW a0 hb1; clear hW a0 ca la; obtain ⟨hW, a0, ca, la⟩ := hb1; clear pa0 pa1 pa2 pa3 pa4 pa5; clear pb0 pb1 pb2 pb3 pb4 pb5; obtain ⟨pa0, pa1, pa2, pa3, pa4, pa5⟩ := dV (hi_.below hW hhi) ha (p := off') (by omega); obtain ⟨pb0, pb1, pb2, pb3, pb4, pb5⟩ := dV (hi_.below hW hhi) hb (p := off' + 6) (by omega); skip) | (go_at_call_of 123 (Value.agg #[Value.int .i64 b.kind, .int .i64 b.number, .int .i64 b.index, .string b.text, .int .i64 b.eB, .int .i64 b.dW]); refine (xx s b _ _ (h.below hW) (aQ.mk_ (lo := 0) (hi := 0))).mono ?_; rw [HB.out]; rintro e w1 ⟨rfl, hb1⟩; replace hb1 := nX hW a0 hb1; clear hW a0 ca la; obtain ⟨hW, a0, ca, la⟩ := hb1; clear pa0 pa1 pa2 pa3 pa4 pa5; clear pb0 pb1 pb2 pb3 pb4 pb5; obtain ⟨pa0, pa1, pa2, pa3, pa4, pa5⟩ := dV (hi_.below hW hhi) ha (p := off') (by omega); obtain ⟨pb0, pb1, pb2, pb3, pb4, pb5⟩ := dV (hi_.below hW hhi) hb (p := off' + 6) (by omega); skip) | fail)
  all_goals go_ret
  all_goals ((try subst_vars); exact ⟨ah (by first | rfl | exact HO.out.symm), hW⟩)
 have HB := lH hb2
 clear hb2
 have HO : Hid (V = (decide (tag = 0) && decide (aX.length = 0))) := lH (by rw [HE.out, HC.out, KA.out, HA.out, HB.out]; simp)
 clear HE HC
 go_enter Tryz.func74, Tryz.ntmps74
 go_upto_region 1 with fail
 generalize w.alloc (.cells #[Value.int .i64 8, .int .i64 tag, .int .i64 ak, .slice (some ⟨g', off', none⟩) aj.length ni, .slice Ak aX.length nk] 97) = W at *
 have ca := a0.cell
 have la := a0.lt
 obtain ⟨pa0, pa1, pa2, pa3, pa4, pa5⟩ := dV (hi_.below hW hhi) ha (p := off') (by omega)
 obtain ⟨pb0, pb1, pb2, pb3, pb4, pb5⟩ := dV (hi_.below hW hhi) hb (p := off' + 6) (by omega)
 go_wp2_with (first | (go_at_call_of 76 (Value.agg #[Value.int .i64 a.kind, .int .i64 a.number, .int .i64 a.index, .string a.text, .int .i64 a.eB, .int .i64 a.dW]); refine (mH s a _ _ (h.below hW) (aQ.mk_ (lo := 0) (hi := 0))).mono ?_; rw [HA.out]; rintro e w1 ⟨rfl, hb1⟩; replace hb1 := nX hW a0 hb1; clear hW a0 ca la; obtain ⟨hW, a0, ca, la⟩ := hb1; clear pa0 pa1 pa2 pa3 pa4 pa5; clear pb0 pb1 pb2 pb3 pb4 pb5; obtain ⟨pa0, pa1, pa2, pa3, pa4, pa5⟩ := dV (hi_.below hW hhi) ha (p := off') (by omega); obtain ⟨pb0, pb1, pb2, pb3, pb4, pb5⟩ := dV (hi_.below hW hhi) hb (p := off' + 6) (by omega); skip) | (go_at_call_of 123 (Value.agg #[Value.int .i64 b.kind, .int .i64 b.number, .int .i64 b.index, .string b.text, .int .i64 b.eB, .int .i64 b.dW]); refine (xx s b _ _ (h.below hW) (aQ.mk_ (lo := 0) (hi := 0))).mono ?_; rw [HB.out]; rintro e w1 ⟨rfl, hb1⟩; replace hb1 := nX hW a0 hb1; clear hW a0 ca la; obtain ⟨hW, a0, ca, la⟩ := hb1; clear pa0 pa1 pa2 pa3 pa4 pa5; clear pb0 pb1 pb2 pb3 pb4 pb5; obtain ⟨pa0, pa1, pa2, pa3, pa4, pa5⟩ := dV (hi_.below hW hhi) ha (p := off') (by omega); obtain ⟨pb0, pb1, pb2, pb3, pb4, pb5⟩ := dV (hi_.below hW hhi) hb (p := off' + 6) (by omega); skip) | fail)
 all_goals go_ret
 all_goals ((try subst_vars); exact ⟨ah (by clear h hi_ hk_ a0 hW ca la; (try rw [HO.out]); simp_all <;> omega), hW⟩)
end Go.Proofs.YtoddlphekcihgaaGreatDoor
