/- wK of the reference: is an object valid in a yX -/
import Derived.Test.YtoddlphekcihgaaGreatDoorQ15
import Derived.Test.YtoddlphekcihgaaGreatDoorQ34
set_option maxRecDepth 100000
set_option maxHeartbeats 8000000
set_option linter.unusedVariables false
set_option linter.unusedSimpArgs false
namespace Go.Proofs.YtoddlphekcihgaaGreatDoor
open Go.RowKit
theorem QB (s : dP) (tag ak : Int) (aj aX : List aQ) (Ai Ak : Option Addr) (ni nk : Nat) (w : World) {g off lo hi lo' hi' : Nat} (h : At w g off lo hi dP.ay s)
 (hi_ : dz w lo' hi' 6 aQ.ay (.slice Ai aj.length ni) aj) (hk_ : dz w lo' hi' 6 aQ.ay (.slice Ak aX.length nk) aX) (hhi : hi' ≤ w.heap.size) :
 Calls Tryz.prog 74 #[.pointer (some ⟨g, off, none⟩), .agg #[Value.int .i64 5, .int .i64 tag, .int .i64 ak, .slice Ai aj.length ni, .slice Ak aX.length nk]] w fun e w' => e = .returned (.bool (fZ s ⟨5, tag, ak, aj, aX⟩)) ∧ Below w.heap.size w w' := by
 obtain ⟨a0, hW⟩ := eZ w 97 #[.int .i64 5, .int .i64 tag, .int .i64 ak, .slice Ai aj.length ni, .slice Ak aX.length nk]
 obtain ⟨An, nn, Ar, nr, Ao, no, Ag, ng, Au, nu, At', nt, Aa, na, hg, hle, hn, un, mn, hr, ur, mr, ho, uo, mo, hgl, ugl, mgl, hu, uu, mu, ht, ut, mt, ha, ua, ma, c0, c1, c2, c3, c4, c5, c6, c7, c8, c9, c10, c11, c12⟩ := dP.in_ h
 unfold maxLen at mr
 clear hn un mn ho uo mo hgl ugl mgl hu uu mu ht ut mt ha ua ma c0 c2 c3 c4 c5 c6 c7 c8 c9 c10 c11
 by_cases hs1 : ak < 1
 ·have HO : Hid (fZ s ⟨5, tag, ak, aj, aX⟩ = false) := by show _ = _; simp [fZ, fU]; intro a b; exfalso; omega
  have d1 := dT hs1
  clear hs1
  go_enter Tryz.func74, Tryz.ntmps74
  go_upto_region 1 with fail
  generalize w.alloc (.cells #[Value.int .i64 5, .int .i64 tag, .int .i64 ak, .slice Ai aj.length ni, .slice Ak aX.length nk] 97) = W at *
  have ca := a0.cell
  have la := a0.lt
  replace c12 := (hW.cell (p := ⟨g, off + 12, none⟩) hg).trans c12
  have hgW : g < W.heap.size := nL hg hW.size
  go_upto_region 2 with fail
  go_quiet (fail)
  replace a0 := a0.drewN nq
  replace hW := bN hW nq
  generalize World.drewN W nq = W2 at *
  replace ca := a0.cell
  replace la := a0.lt
  go_wp2_with fail
  go_ret
  exact ⟨ah HO.out.symm, hW⟩
 have d1 := dF hs1
 by_cases hs2 : s.kI < ak
 ·have HO : Hid (fZ s ⟨5, tag, ak, aj, aX⟩ = false) := by show _ = _; simp [fZ, fU]; intro a b; exfalso; omega
  have d2 := dT hs2
  clear hs2
  go_enter Tryz.func74, Tryz.ntmps74
  go_upto_region 1 with fail
  generalize w.alloc (.cells #[Value.int .i64 5, .int .i64 tag, .int .i64 ak, .slice Ai aj.length ni, .slice Ak aX.length nk] 97) = W at *
  have ca := a0.cell
  have la := a0.lt
  replace c12 := (hW.cell (p := ⟨g, off + 12, none⟩) hg).trans c12
  have hgW : g < W.heap.size := nL hg hW.size
  go_upto_region 2 with fail
  go_quiet (fail)
  replace a0 := a0.drewN nq
  replace hW := bN hW nq
  generalize World.drewN W nq = W2 at *
  replace ca := a0.cell
  replace la := a0.lt
  go_wp2_with fail
  go_ret
  exact ⟨ah HO.out.symm, hW⟩
 have d2 := dF hs2
 generalize hV : fZ s ⟨5, tag, ak, aj, aX⟩ = V
 have HE : Hid (V = (decide (0 ≤ tag ∧ tag < s.aA.length) && decide (aX.length = 0) && (xJ s ⟨5, tag, ak, aj, aX⟩ && aj.all (ig s)))) := by
  show _ = _
  rw [← hV]
  simp [fZ, fU, tK, qV, mK, show 1 ≤ ak ∧ ak ≤ s.kI by omega]
 clear hs1 hs2
 clear hV
 by_cases k0 : aX.length = 0
 rotate_left
 ·have HO : Hid (V = false) := lH (by rw [HE.out, dF k0]; simp)
  have dk : ((aX.length : Int) != 0) = true := by simp; intro e; rw [e] at k0; exact k0 rfl
  clear k0 HE hr
  go_enter Tryz.func74, Tryz.ntmps74
  go_upto_region 1 with fail
  generalize w.alloc (.cells #[Value.int .i64 5, .int .i64 tag, .int .i64 ak, .slice Ai aj.length ni, .slice Ak aX.length nk] 97) = W at *
  have ca := a0.cell
  have la := a0.lt
  replace c12 := (hW.cell (p := ⟨g, off + 12, none⟩) hg).trans c12
  have hgW : g < W.heap.size := nL hg hW.size
  go_upto_region 2 with fail
  go_quiet (fail)
  replace a0 := a0.drewN nq
  replace hW := bN hW nq
  generalize World.drewN W nq = W2 at *
  replace ca := a0.cell
  replace la := a0.lt
  go_wp2_with fail
  all_goals go_ret
  all_goals ((try subst_vars); exact ⟨ah (by first | rfl | exact HO.out.symm), by first | exact hW | exact bN hW _⟩)
 have dk : ((aX.length : Int) != 0) = false := by simp; exact List.eq_nil_of_length_eq_zero k0
 have HK0 := lH (dT k0)
 clear k0
 rcases (Classical.em (0 ≤ tag)).symm with t0 | t0
 have HO : Hid (V = false) := lH (by rw [HE.out, dF (by omega)]; rfl)
 have e0 := dF t0
 clear t0 HE hr
 rotate_left
 have e0 := dT t0
 rcases (Classical.em (tag < (s.aA.length : Int))).symm with t1 | t1
 have HO : Hid (V = false) := lH (by rw [HE.out, dF (by omega)]; rfl)
 have e1 := dF t1
 clear t1 HE hr
 rotate_left
 rotate_right 2
 iterate 2 focus
  go_enter Tryz.func74, Tryz.ntmps74
  go_upto_region 1 with fail
  generalize w.alloc (.cells #[Value.int .i64 5, .int .i64 tag, .int .i64 ak, .slice Ai aj.length ni, .slice Ak aX.length nk] 97) = W at *
  have ca := a0.cell
  have la := a0.lt
  replace c12 := (hW.cell (p := ⟨g, off + 12, none⟩) hg).trans c12
  have hgW : g < W.heap.size := nL hg hW.size
  go_upto_region 2 with fail
  go_quiet (fail)
  replace a0 := a0.drewN nq
  replace hW := bN hW nq
  generalize World.drewN W nq = W2 at *
  replace ca := a0.cell
  replace la := a0.lt
  replace c1 := (hW.cell (p := ⟨g, off + 1, none⟩) hg).trans c1
  have Tx : g < W2.heap.size := nL hg hW.size
  go_upto_region 18 with fail
  go_quiet (fail)
  go_wp2_with fail
  all_goals go_ret
  all_goals ((try subst_vars); exact ⟨ah (by first | rfl | exact HO.out.symm), by first | exact hW | exact bN hW _⟩)
 obtain ⟨j, rfl⟩ : ∃ j : Nat, tag = j := ⟨tag.toNat, by omega⟩
 have e1 := dT t1
 have hjl : j < s.aA.length := by omega
 obtain ⟨r, hc⟩ : ∃ r, s.aA[j]? = some r := ⟨_, gE hjl⟩
 have HE : Hid (V = (decide (aj.length = r.fields.length) && aj.all (ig s))) := lH (by rw [HE.out, HK0.out, dT (by omega)]; simp [xJ, hc])
 obtain ⟨g2, off2, Af, nf, rfl, hg3, hg4, -, hcr, p0, p1, p2⟩ := gU.at_ hr hc
 clear hc hcr hr
 have hg5 : g2 < w.heap.size := nL hg4 hle
 cases hl : ((aj.length : Int) == (r.fields.length : Int)) with
 | false =>
   have HO : Hid (V = false) := lH (by rw [HE.out, dF (show ¬ aj.length = r.fields.length by simp at hl; omega)]; simp)
   clear HE
   go_enter Tryz.func74, Tryz.ntmps74
   go_upto_region 1 with fail
   generalize w.alloc (.cells #[Value.int .i64 5, .int .i64 (j : Int), .int .i64 ak, .slice Ai aj.length ni, .slice Ak aX.length nk] 97) = W at *
   have ca := a0.cell
   have la := a0.lt
   replace c12 := (hW.cell (p := ⟨g, off + 12, none⟩) hg).trans c12
   have hgW : g < W.heap.size := nL hg hW.size
   go_upto_region 2 with fail
   go_quiet (fail)
   replace a0 := a0.drewN nq
   replace hW := bN hW nq
   generalize World.drewN W nq = W2 at *
   replace ca := a0.cell
   replace la := a0.lt
   replace c1 := (hW.cell (p := ⟨g, off + 1, none⟩) hg).trans c1
   have Tx : g < W2.heap.size := nL hg hW.size
   go_upto_region 18 with fail
   replace p1 := (hW.cell (p := ⟨g2, off2 + j * 3 + 1, none⟩) hg5).trans p1
   go_quiet (fail)
   go_wp2_with fail
   all_goals go_ret
   all_goals ((try subst_vars); exact ⟨ah (by first | rfl | exact HO.out.symm), by first | exact hW | exact bN hW _⟩)
 | true =>
 have HO : Hid (V = aj.all (ig s)) := lH (by rw [HE.out, dT (show aj.length = r.fields.length by simp at hl; omega)]; simp)
 clear HE
 go_enter Tryz.func74, Tryz.ntmps74
 go_upto_region 1 with fail
 generalize w.alloc (.cells #[Value.int .i64 5, .int .i64 (j : Int), .int .i64 ak, .slice Ai aj.length ni, .slice Ak aX.length nk] 97) = W at *
 have ca := a0.cell
 have la := a0.lt
 replace c12 := (hW.cell (p := ⟨g, off + 12, none⟩) hg).trans c12
 have hgW : g < W.heap.size := nL hg hW.size
 go_upto_region 2 with fail
 go_quiet (fail)
 replace a0 := a0.drewN nq
 replace hW := bN hW nq
 generalize World.drewN W nq = W2 at *
 replace ca := a0.cell
 replace la := a0.lt
 replace c1 := (hW.cell (p := ⟨g, off + 1, none⟩) hg).trans c1
 have Tx : g < W2.heap.size := nL hg hW.size
 go_upto_region 18 with fail
 replace p1 := (hW.cell (p := ⟨g2, off2 + j * 3 + 1, none⟩) hg5).trans p1
 have Vv : g2 < W2.heap.size := nL hg5 hW.size
 go_still_tail 33, (by kernel_rfl)
 change wpList _ _ _ _ _ W2.drew
 replace hW := aC hW
 generalize W2.drew = W3 at *
 go_wp2_with fail
 refine (kL s aj _ _ (h.below hW) (hi_.below hW hhi) (nT hhi hW.size)).mono ?_; rintro e w1 ⟨rfl, hb1⟩; replace hW := hW.trans (hb1.mono hW.size); clear hb1
 go_wp2_with fail
 all_goals go_ret
 all_goals ((try subst_vars); exact ⟨ah (by first | rfl | exact HO.out.symm), hW⟩)
end Go.Proofs.YtoddlphekcihgaaGreatDoor
