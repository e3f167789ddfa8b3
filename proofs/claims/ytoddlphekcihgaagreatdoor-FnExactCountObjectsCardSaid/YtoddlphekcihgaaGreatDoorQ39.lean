/- wK of the reference: is an object valid in a yX -/
import Derived.Test.YtoddlphekcihgaaGreatDoorQ15
import Derived.Test.YtoddlphekcihgaaGreatDoorQ34
set_option maxRecDepth 100000
set_option maxHeartbeats 8000000
set_option linter.unusedVariables false
set_option linter.unusedSimpArgs false
namespace Go.Proofs.YtoddlphekcihgaaGreatDoor
open Go.RowKit
theorem QD (s : dP) (tag ak : Int) (aj aX : List aQ) (Ai Ak : Option Addr) (ni nk : Nat) (w : World) {g off lo hi lo' hi' : Nat} (h : At w g off lo hi dP.ay s)
 (hi_ : dz w lo' hi' 6 aQ.ay (.slice Ai aj.length ni) aj) (hk_ : dz w lo' hi' 6 aQ.ay (.slice Ak aX.length nk) aX) (hhi : hi' ≤ w.heap.size) :
 Calls Tryz.prog 74 #[.pointer (some ⟨g, off, none⟩), .agg #[Value.int .i64 1, .int .i64 tag, .int .i64 ak, .slice Ai aj.length ni, .slice Ak aX.length nk]] w fun e w' => e = .returned (.bool (fZ s ⟨1, tag, ak, aj, aX⟩)) ∧ Below w.heap.size w w' := by
 obtain ⟨a0, hW⟩ := eZ w 97 #[.int .i64 1, .int .i64 tag, .int .i64 ak, .slice Ai aj.length ni, .slice Ak aX.length nk]
 by_cases hs : ak = 0
 rotate_left
 ·have e0 : (ak != 0) = true := by simp [hs]
  have HO : Hid (fZ s ⟨1, tag, ak, aj, aX⟩ = false) := by show _ = _; simp [fZ, fU, hs]
  clear hs
  go_enter Tryz.func74, Tryz.ntmps74
  go_upto_region 1 with fail
  generalize w.alloc (.cells #[Value.int .i64 1, .int .i64 tag, .int .i64 ak, .slice Ai aj.length ni, .slice Ak aX.length nk] 97) = W at *
  have ca := a0.cell
  have la := a0.lt
  go_wp2_with fail
  go_ret
  exact ⟨ah HO.out.symm, hW⟩
 have e0 : (ak != 0) = false := by simp [hs]
 generalize hV : fZ s ⟨1, tag, ak, aj, aX⟩ = V
 have HO : Hid (V = (decide (tag = 0) && decide (aX.length = 0) && (decide (aj.length ≤ 24) && aj.all (ig s)))) := by
  show _ = _
  rw [← hV]
  simp [fZ, fU, tK, qV, mK, hs]
 clear hs
 clear hV
 go_enter Tryz.func74, Tryz.ntmps74
 go_upto_region 1 with fail
 generalize w.alloc (.cells #[Value.int .i64 1, .int .i64 tag, .int .i64 ak, .slice Ai aj.length ni, .slice Ak aX.length nk] 97) = W at *
 have ca := a0.cell
 have la := a0.lt
 go_wp2_with (first | (go_at_call_of 75 (Value.slice Ai aj.length ni); refine (kL s aj _ _ (h.below hW) (hi_.below hW hhi) (nT hhi hW.size)).mono ?_; rintro e w1 ⟨rfl, hb1⟩; replace hb1 := nX hW a0 hb1; clear hW a0 ca la; obtain ⟨hW, a0, ca, la⟩ := hb1) | fail)
 all_goals go_ret
 all_goals ((try subst_vars); exact ⟨ah (by clear h hi_ hk_ a0 hW ca la; (try rw [HO.out]); simp_all <;> omega), hW⟩)
theorem QE (s : dP) (tag ak : Int) (aj aX : List aQ) (Ai Ak : Option Addr) (ni nk : Nat) (w : World) {g off lo hi lo' hi' : Nat} (h : At w g off lo hi dP.ay s)
 (hi_ : dz w lo' hi' 6 aQ.ay (.slice Ai aj.length ni) aj) (hk_ : dz w lo' hi' 6 aQ.ay (.slice Ak aX.length nk) aX) (hhi : hi' ≤ w.heap.size) :
 Calls Tryz.prog 74 #[.pointer (some ⟨g, off, none⟩), .agg #[Value.int .i64 2, .int .i64 tag, .int .i64 ak, .slice Ai aj.length ni, .slice Ak aX.length nk]] w fun e w' => e = .returned (.bool (fZ s ⟨2, tag, ak, aj, aX⟩)) ∧ Below w.heap.size w w' := by
 obtain ⟨a0, hW⟩ := eZ w 97 #[.int .i64 2, .int .i64 tag, .int .i64 ak, .slice Ai aj.length ni, .slice Ak aX.length nk]
 obtain ⟨An, nn, Ar, nr, Ao, no, Ag, ng, Au, nu, At', nt, Aa, na, hg, hle, hn, un, mn, hr, ur, mr, ho, uo, mo, hgl, ugl, mgl, hu, uu, mu, ht, ut, mt, ha, ua, ma, c0, c1, c2, c3, c4, c5, c6, c7, c8, c9, c10, c11, c12⟩ := dP.in_ h
 unfold maxLen at mr
 clear hle hn un mn ho uo mo hgl ugl mgl hu uu mu ht ut mt ha ua ma c0 c2 c3 c4 c5 c6 c7 c8 c9 c10 c11 hr ur mr c1
 by_cases hs1 : ak < 1
 have HO : Hid (fZ s ⟨2, tag, ak, aj, aX⟩ = false) := by show _ = _; simp [fZ, fU]; intro a b; exfalso; omega
 have d1 := dT hs1
 clear hs1
 rotate_left
 have d1 := dF hs1
 by_cases hs2 : s.kI < ak
 have HO : Hid (fZ s ⟨2, tag, ak, aj, aX⟩ = false) := by show _ = _; simp [fZ, fU]; intro a b; exfalso; omega
 have d2 := dT hs2
 clear hs2
 rotate_left
 rotate_right 2
 iterate 2 focus
  go_enter Tryz.func74, Tryz.ntmps74
  go_upto_region 1 with fail
  generalize w.alloc (.cells #[Value.int .i64 2, .int .i64 tag, .int .i64 ak, .slice Ai aj.length ni, .slice Ak aX.length nk] 97) = W at *
  have ca := a0.cell
  have la := a0.lt
  replace c12 := (hW.cell (p := ⟨g, off + 12, none⟩) hg).trans c12
  have hgW : g < W.heap.size := nL hg hW.size
  go_upto_region 2 with fail
  go_quiet (fail)
  replace a0 := a0.drewN nq
  replace hW := bN hW nq
  generalize World.drewN W nq = W2 at *
  replace ca := a0.cell
  replace la := a0.lt
  go_wp2_with fail
  go_ret
  exact ⟨ah HO.out.symm, hW⟩
 have d2 := dF hs2
 generalize hV : fZ s ⟨2, tag, ak, aj, aX⟩ = V
 have HO : Hid (V = (decide (tag = 0) && decide (aX.length = 0) && (decide (aj.length ≤ 40) && aj.all (ig s)))) := by
  show _ = _
  rw [← hV]
  simp [fZ, fU, tK, qV, mK, show 1 ≤ ak ∧ ak ≤ s.kI by omega]
 clear hs1 hs2
 clear hV
 go_enter Tryz.func74, Tryz.ntmps74
 go_upto_region 1 with fail
 generalize w.alloc (.cells #[Value.int .i64 2, .int .i64 tag, .int .i64 ak, .slice Ai aj.length ni, .slice Ak aX.length nk] 97) = W at *
 have ca := a0.cell
 have la := a0.lt
 replace c12 := (hW.cell (p := ⟨g, off + 12, none⟩) hg).trans c12
 have hgW : g < W.heap.size := nL hg hW.size
 go_upto_region 2 with fail
 go_quiet (fail)
 replace a0 := a0.drewN nq
 replace hW := bN hW nq
 generalize World.drewN W nq = W2 at *
 replace ca := a0.cell
 replace la := a0.lt
 go_wp2_with (first | (go_at_call_of 75 (Value.slice Ai aj.length ni); refine (kL s aj _ _ (h.below hW) (hi_.below hW hhi) (nT hhi hW.size)).mono ?_; rintro e w1 ⟨rfl, hb1⟩; replace hb1 := nX hW a0 hb1; clear hW a0 ca la; obtain ⟨hW, a0, ca, la⟩ := hb1) | fail)
 all_goals go_ret
 all_goals ((try subst_vars); exact ⟨ah (by clear h hi_ hk_ a0 hW ca la; (try rw [HO.out]); simp_all <;> omega), hW⟩)
theorem QF (s : dP) (tag ak : Int) (aj aX : List aQ) (Ai Ak : Option Addr) (ni nk : Nat) (w : World) {g off lo hi lo' hi' : Nat} (h : At w g off lo hi dP.ay s)
 (hi_ : dz w lo' hi' 6 aQ.ay (.slice Ai aj.length ni) aj) (hk_ : dz w lo' hi' 6 aQ.ay (.slice Ak aX.length nk) aX) (hhi : hi' ≤ w.heap.size) :
 Calls Tryz.prog 74 #[.pointer (some ⟨g, off, none⟩), .agg #[Value.int .i64 7, .int .i64 tag, .int .i64 ak, .slice Ai aj.length ni, .slice Ak aX.length nk]] w fun e w' => e = .returned (.bool (fZ s ⟨7, tag, ak, aj, aX⟩)) ∧ Below w.heap.size w w' := by
 obtain ⟨a0, hW⟩ := eZ w 97 #[.int .i64 7, .int .i64 tag, .int .i64 ak, .slice Ai aj.length ni, .slice Ak aX.length nk]
 obtain ⟨An, nn, Ar, nr, Ao, no, Ag, ng, Au, nu, At', nt, Aa, na, hg, hle, hn, un, mn, hr, ur, mr, ho, uo, mo, hgl, ugl, mgl, hu, uu, mu, ht, ut, mt, ha, ua, ma, c0, c1, c2, c3, c4, c5, c6, c7, c8, c9, c10, c11, c12⟩ := dP.in_ h
 unfold maxLen at mr
 clear hle hn un mn ho uo mo hgl ugl mgl hu uu mu ht ut mt ha ua ma c0 c2 c3 c4 c5 c6 c7 c8 c9 c10 c11 hr ur mr c1
 by_cases hs1 : ak < 1
 have HO : Hid (fZ s ⟨7, tag, ak, aj, aX⟩ = false) := by show _ = _; simp [fZ, fU]; intro a b; exfalso; omega
 have d1 := dT hs1
 clear hs1
 rotate_left
 have d1 := dF hs1
 by_cases hs2 : s.kI < ak
 have HO : Hid (fZ s ⟨7, tag, ak, aj, aX⟩ = false) := by show _ = _; simp [fZ, fU]; intro a b; exfalso; omega
 have d2 := dT hs2
 clear hs2
 rotate_left
 rotate_right 2
 iterate 2 focus
  go_enter Tryz.func74, Tryz.ntmps74
  go_upto_region 1 with fail
  generalize w.alloc (.cells #[Value.int .i64 7, .int .i64 tag, .int .i64 ak, .slice Ai aj.length ni, .slice Ak aX.length nk] 97) = W at *
  have ca := a0.cell
  have la := a0.lt
  replace c12 := (hW.cell (p := ⟨g, off + 12, none⟩) hg).trans c12
  have hgW : g < W.heap.size := nL hg hW.size
  go_upto_region 2 with fail
  go_quiet (fail)
  replace a0 := a0.drewN nq
  replace hW := bN hW nq
  generalize World.drewN W nq = W2 at *
  replace ca := a0.cell
  replace la := a0.lt
  go_wp2_with fail
  go_ret
  exact ⟨ah HO.out.symm, hW⟩
 have d2 := dF hs2
 generalize hV : fZ s ⟨7, tag, ak, aj, aX⟩ = V
 have HO : Hid (V = (decide (aX.length = 0) && yc s tag aj)) := by
  show _ = _
  rw [← hV]
  simp [fZ, fU, tK, qV, mK, show 1 ≤ ak ∧ ak ≤ s.kI by omega]
 clear hs1 hs2
 clear hV
 go_enter Tryz.func74, Tryz.ntmps74
 go_upto_region 1 with fail
 generalize w.alloc (.cells #[Value.int .i64 7, .int .i64 tag, .int .i64 ak, .slice Ai aj.length ni, .slice Ak aX.length nk] 97) = W at *
 have ca := a0.cell
 have la := a0.lt
 replace c12 := (hW.cell (p := ⟨g, off + 12, none⟩) hg).trans c12
 have hgW : g < W.heap.size := nL hg hW.size
 go_upto_region 2 with fail
 go_quiet (fail)
 replace a0 := a0.drewN nq
 replace hW := bN hW nq
 generalize World.drewN W nq = W2 at *
 replace ca := a0.cell
 replace la := a0.lt
 go_wp2_with (first | (go_at_call 122; refine (Br s 7 tag ak aj aX Ai Ak ni nk _ (h.below hW) (hi_.below hW hhi) (nT hhi hW.size)).mono ?_; rintro e w1 ⟨rfl, hb1⟩; replace hb1 := nX hW a0 hb1; clear hW a0 ca la; obtain ⟨hW, a0, ca, la⟩ := hb1) | fail)
 all_goals go_ret
 all_goals ((try subst_vars); exact ⟨ah (by clear h hi_ hk_ a0 hW ca la; (try rw [HO.out]); simp_all <;> omega), hW⟩)
theorem Oi (s : dP) (tag ak kind : Int) (aj aX : List aQ) (Ai Ak : Option Addr) (ni nk : Nat) (w : World) {g off lo hi lo' hi' : Nat} (h : At w g off lo hi dP.ay s)
 (hi_ : dz w lo' hi' 6 aQ.ay (.slice Ai aj.length ni) aj) (hk_ : dz w lo' hi' 6 aQ.ay (.slice Ak aX.length nk) aX) (hhi : hi' ≤ w.heap.size) (hk : kind < 1) :
 Calls Tryz.prog 74 #[.pointer (some ⟨g, off, none⟩), .agg #[Value.int .i64 kind, .int .i64 tag, .int .i64 ak, .slice Ai aj.length ni, .slice Ak aX.length nk]] w fun e w' => e = .returned (.bool (fZ s ⟨kind, tag, ak, aj, aX⟩)) ∧ Below w.heap.size w w' := by
 obtain ⟨a0, hW⟩ := eZ w 97 #[.int .i64 kind, .int .i64 tag, .int .i64 ak, .slice Ai aj.length ni, .slice Ak aX.length nk]
 generalize hV : fZ s ⟨kind, tag, ak, aj, aX⟩ = V
 have HI : mK s ⟨kind, tag, ak, aj, aX⟩ = false := by unfold mK; rw [if_neg (show ¬ kind = 1 by omega), if_neg (show ¬ kind = 2 by omega), if_neg (show ¬ kind = 3 by omega), if_neg (show ¬ kind = 4 by omega), if_neg (show ¬ kind = 5 by omega), if_neg (show ¬ kind = 6 by omega), if_neg (show ¬ kind = 7 by omega), if_neg (show ¬ kind = 8 by omega), if_neg (show ¬ kind = 9 by omega)]
 have HO : Hid (V = false) := lH (by rw [← hV]; unfold fZ; rw [HI, Bool.and_false])
 clear HI hV
 have k1 : (kind == 1) = false := by simp; omega
 have k2 : (kind == 2) = false := by simp; omega
 have k3 : (kind == 3) = false := by simp; omega
 have k4 : (kind == 4) = false := by simp; omega
 have k5 : (kind == 5) = false := by simp; omega
 have k6 : (kind == 6) = false := by simp; omega
 have k7 : (kind == 7) = false := by simp; omega
 have k8 : (kind == 8) = false := by simp; omega
 have k9 : (kind == 9) = false := by simp; omega
 have j3 : (kind != 3) = true := by simp; omega
 have j4 : (kind != 4) = true := by simp; omega
 have j5 : (kind != 5) = true := by simp; omega
 have j6 : (kind != 6) = true := by simp; omega
 have j7 : (kind != 7) = true := by simp; omega
 have r2 : decide (2 ≤ kind) = false := by simp; omega
 have r7 : decide (kind ≤ 7) = true := by simp; omega
 clear hk
 go_enter Tryz.func74, Tryz.ntmps74
 go_upto_region 1 with fail
 generalize w.alloc (.cells #[Value.int .i64 kind, .int .i64 tag, .int .i64 ak, .slice Ai aj.length ni, .slice Ak aX.length nk] 97) = W at *
 have ca := a0.cell
 have la := a0.lt
 go_wp2_with fail
 all_goals go_ret
 all_goals ((try subst_vars); exact ⟨ah (by first | rfl | exact HO.out.symm), hW⟩)
theorem Oj (s : dP) (tag ak kind : Int) (aj aX : List aQ) (Ai Ak : Option Addr) (ni nk : Nat) (w : World) {g off lo hi lo' hi' : Nat} (h : At w g off lo hi dP.ay s)
 (hi_ : dz w lo' hi' 6 aQ.ay (.slice Ai aj.length ni) aj) (hk_ : dz w lo' hi' 6 aQ.ay (.slice Ak aX.length nk) aX) (hhi : hi' ≤ w.heap.size) (hk : 9 < kind) :
 Calls Tryz.prog 74 #[.pointer (some ⟨g, off, none⟩), .agg #[Value.int .i64 kind, .int .i64 tag, .int .i64 ak, .slice Ai aj.length ni, .slice Ak aX.length nk]] w fun e w' => e = .returned (.bool (fZ s ⟨kind, tag, ak, aj, aX⟩)) ∧ Below w.heap.size w w' := by
 obtain ⟨a0, hW⟩ := eZ w 97 #[.int .i64 kind, .int .i64 tag, .int .i64 ak, .slice Ai aj.length ni, .slice Ak aX.length nk]
 generalize hV : fZ s ⟨kind, tag, ak, aj, aX⟩ = V
 have HI : mK s ⟨kind, tag, ak, aj, aX⟩ = false := by unfold mK; rw [if_neg (show ¬ kind = 1 by omega), if_neg (show ¬ kind = 2 by omega), if_neg (show ¬ kind = 3 by omega), if_neg (show ¬ kind = 4 by omega), if_neg (show ¬ kind = 5 by omega), if_neg (show ¬ kind = 6 by omega), if_neg (show ¬ kind = 7 by omega), if_neg (show ¬ kind = 8 by omega), if_neg (show ¬ kind = 9 by omega)]
 have HO : Hid (V = false) := lH (by rw [← hV]; unfold fZ; rw [HI, Bool.and_false])
 clear HI hV
 have k1 : (kind == 1) = false := by simp; omega
 have k2 : (kind == 2) = false := by simp; omega
 have k3 : (kind == 3) = false := by simp; omega
 have k4 : (kind == 4) = false := by simp; omega
 have k5 : (kind == 5) = false := by simp; omega
 have k6 : (kind == 6) = false := by simp; omega
 have k7 : (kind == 7) = false := by simp; omega
 have k8 : (kind == 8) = false := by simp; omega
 have k9 : (kind == 9) = false := by simp; omega
 have j3 : (kind != 3) = true := by simp; omega
 have j4 : (kind != 4) = true := by simp; omega
 have j5 : (kind != 5) = true := by simp; omega
 have j6 : (kind != 6) = true := by simp; omega
 have j7 : (kind != 7) = true := by simp; omega
 have r2 : decide (2 ≤ kind) = true := by simp; omega
 have r7 : decide (kind ≤ 7) = false := by simp; omega
 clear hk
 go_enter Tryz.func74, Tryz.ntmps74
 go_upto_region 1 with fail
 generalize w.alloc (.cells #[Value.int .i64 kind, .int .i64 tag, .int .i64 ak, .slice Ai aj.length ni, .slice Ak aX.length nk] 97) = W at *
 have ca := a0.cell
 have la := a0.lt
 go_wp2_with fail
 all_goals go_ret
 all_goals ((try subst_vars); exact ⟨ah (by first | rfl | exact HO.out.symm), hW⟩)
end Go.Proofs.YtoddlphekcihgaaGreatDoor
