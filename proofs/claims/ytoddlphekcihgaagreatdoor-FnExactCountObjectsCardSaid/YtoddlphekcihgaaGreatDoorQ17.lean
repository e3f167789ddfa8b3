/- AY of the program: is an object valid in a yX -/
import Derived.Test.YtoddlphekcihgaaGreatDoorQ14
import Derived.Test.YtoddlphekcihgaaGreatDoorQ15
set_option maxRecDepth 100000
set_option maxHeartbeats 8000000
set_option linter.unusedVariables false
set_option linter.unusedSimpArgs false
namespace Go.Proofs.YtoddlphekcihgaaGreatDoor
open Go.RowKit
theorem Pz (s : dP) (tag ak : Int) (aj aX : List aQ) (Ai Ak : Option Addr) (ni nk : Nat) (w : World) {g off lo hi lo' hi' : Nat} (h : At w g off lo hi dP.ay s)
 (hi_ : dz w lo' hi' 6 aQ.ay (.slice Ai aj.length ni) aj) (hk_ : dz w lo' hi' 6 aQ.ay (.slice Ak aX.length nk) aX) (hhi : hi' ≤ w.heap.size) :
 Calls Tryz.prog 96 #[.pointer (some ⟨g, off, none⟩), .agg #[.int .i64 1, .int .i64 tag, .int .i64 ak, .slice Ai aj.length ni, .slice Ak aX.length nk]] w fun e w' => e = .returned (.bool (fZ s ⟨1, tag, ak, aj, aX⟩)) ∧ Below w.heap.size w w' := by
 obtain ⟨a0, hW⟩ := eZ w 97 #[.int .i64 1, .int .i64 tag, .int .i64 ak, .slice Ai aj.length ni, .slice Ak aX.length nk]
 by_cases hs : ak = 0
 rotate_left
 ·have e0 : (ak != 0) = true := by simp [hs]
  have HO : Hid (fZ s ⟨1, tag, ak, aj, aX⟩ = false) := by show _ = _; simp [fZ, fU, hs]
  clear hs
  go_enter Tryz.func96, Tryz.ntmps96
  go_upto_region 2 with fail
  go_quiet (fail)
  go_wp2_with fail
  go_ret
  exact ⟨ah HO.out.symm, bN hW _⟩
 have e0 : (ak != 0) = false := by simp [hs]
 have HO : Hid (fZ s ⟨1, tag, ak, aj, aX⟩ = (decide (tag = 0) && decide (aX.length = 0) && (decide (aj.length ≤ 24) && aj.all (ig s)))) := by
  show _ = _
  simp [fZ, fU, tK, qV, mK, hs]
 clear hs
 go_enter Tryz.func96, Tryz.ntmps96
 go_upto_region 2 with fail
 go_quiet (fail)
 replace a0 := a0.drewN nq
 replace hW := bN hW nq
 generalize World.drewN (w.alloc (.cells #[.int .i64 1, .int .i64 tag, .int .i64 ak, .slice Ai aj.length ni, .slice Ak aX.length nk] 97)) nq = W at *
 have ca := a0.cell
 have la := a0.lt
 go_wp2_with (first | (go_at_call_of 95 (Value.slice Ai aj.length ni); refine (fE s aj _ _ (h.below hW) (hi_.below hW hhi) (nT hhi hW.size)).mono ?_; rintro e w1 ⟨rfl, hb1⟩; replace hb1 := nX hW a0 hb1; clear hW a0 ca la; obtain ⟨hW, a0, ca, la⟩ := hb1) | fail)
 all_goals go_ret
 all_goals ((try subst_vars); exact ⟨ah (by clear h hi_ hk_ a0 hW ca la; (try rw [HO.out]); simp_all <;> omega), hW⟩)
theorem PD (s : dP) (tag ak : Int) (aj aX : List aQ) (Ai Ak : Option Addr) (ni nk : Nat) (w : World) {g off lo hi lo' hi' : Nat} (h : At w g off lo hi dP.ay s)
 (hi_ : dz w lo' hi' 6 aQ.ay (.slice Ai aj.length ni) aj) (hk_ : dz w lo' hi' 6 aQ.ay (.slice Ak aX.length nk) aX) (hhi : hi' ≤ w.heap.size) :
 Calls Tryz.prog 96 #[.pointer (some ⟨g, off, none⟩), .agg #[.int .i64 2, .int .i64 tag, .int .i64 ak, .slice Ai aj.length ni, .slice Ak aX.length nk]] w fun e w' => e = .returned (.bool (fZ s ⟨2, tag, ak, aj, aX⟩)) ∧ Below w.heap.size w w' := by
 obtain ⟨a0, hW⟩ := eZ w 97 #[.int .i64 2, .int .i64 tag, .int .i64 ak, .slice Ai aj.length ni, .slice Ak aX.length nk]
 obtain ⟨An, nn, Ar, nr, Ao, no, Ag, ng, Au, nu, At', nt, Aa, na, hg, hle, hn, un, mn, hr, ur, mr, ho, uo, mo, hgl, ugl, mgl, hu, uu, mu, ht, ut, mt, ha, ua, ma, c0, c1, c2, c3, c4, c5, c6, c7, c8, c9, c10, c11, c12⟩ := dP.in_ h
 unfold maxLen at mr
 clear hle hn un mn ho uo mo hgl ugl mgl hu uu mu ht ut mt ha ua ma c0 c2 c3 c4 c5 c6 c7 c8 c9 c10 c11 hr ur mr c1
 by_cases hs1 : ak < 1
 have HO : Hid (fZ s ⟨2, tag, ak, aj, aX⟩ = false) := by show _ = _; simp [fZ, fU]; intro a b; exfalso; omega
 have d1 := dT hs1
 clear hs1
 rotate_left
 have d1 := dF hs1
 by_cases hs2 : s.kI < ak
 have HO : Hid (fZ s ⟨2, tag, ak, aj, aX⟩ = false) := by show _ = _; simp [fZ, fU]; intro a b; exfalso; omega
 have d2 := dT hs2
 clear hs2
 rotate_left
 rotate_right 2
 iterate 2 focus
  go_enter Tryz.func96, Tryz.ntmps96
  go_upto_region 2 with fail
  go_quiet (fail)
  go_wp2_with fail
  go_ret
  exact ⟨ah HO.out.symm, bN hW _⟩
 have d2 := dF hs2
 have HO : Hid (fZ s ⟨2, tag, ak, aj, aX⟩ = (decide (tag = 0) && decide (aX.length = 0) && (decide (aj.length ≤ 40) && aj.all (ig s)))) := by
  show _ = _
  simp [fZ, fU, tK, qV, mK, show 1 ≤ ak ∧ ak ≤ s.kI by omega]
 clear hs1 hs2
 go_enter Tryz.func96, Tryz.ntmps96
 go_upto_region 2 with fail
 go_quiet (fail)
 replace a0 := a0.drewN nq
 replace hW := bN hW nq
 generalize World.drewN (w.alloc (.cells #[.int .i64 2, .int .i64 tag, .int .i64 ak, .slice Ai aj.length ni, .slice Ak aX.length nk] 97)) nq = W at *
 have ca := a0.cell
 have la := a0.lt
 go_wp2_with (first | (go_at_call_of 95 (Value.slice Ai aj.length ni); refine (fE s aj _ _ (h.below hW) (hi_.below hW hhi) (nT hhi hW.size)).mono ?_; rintro e w1 ⟨rfl, hb1⟩; replace hb1 := nX hW a0 hb1; clear hW a0 ca la; obtain ⟨hW, a0, ca, la⟩ := hb1) | fail)
 all_goals go_ret
 all_goals ((try subst_vars); exact ⟨ah (by clear h hi_ hk_ a0 hW ca la; (try rw [HO.out]); simp_all <;> omega), hW⟩)
theorem PE (s : dP) (tag ak : Int) (aj aX : List aQ) (Ai Ak : Option Addr) (ni nk : Nat) (w : World) {g off lo hi lo' hi' : Nat} (h : At w g off lo hi dP.ay s)
 (hi_ : dz w lo' hi' 6 aQ.ay (.slice Ai aj.length ni) aj) (hk_ : dz w lo' hi' 6 aQ.ay (.slice Ak aX.length nk) aX) (hhi : hi' ≤ w.heap.size) :
 Calls Tryz.prog 96 #[.pointer (some ⟨g, off, none⟩), .agg #[.int .i64 3, .int .i64 tag, .int .i64 ak, .slice Ai aj.length ni, .slice Ak aX.length nk]] w fun e w' => e = .returned (.bool (fZ s ⟨3, tag, ak, aj, aX⟩)) ∧ Below w.heap.size w w' := by
 obtain ⟨a0, hW⟩ := eZ w 97 #[.int .i64 3, .int .i64 tag, .int .i64 ak, .slice Ai aj.length ni, .slice Ak aX.length nk]
 obtain ⟨An, nn, Ar, nr, Ao, no, Ag, ng, Au, nu, At', nt, Aa, na, hg, hle, hn, un, mn, hr, ur, mr, ho, uo, mo, hgl, ugl, mgl, hu, uu, mu, ht, ut, mt, ha, ua, ma, c0, c1, c2, c3, c4, c5, c6, c7, c8, c9, c10, c11, c12⟩ := dP.in_ h
 unfold maxLen at mr
 clear hle hn un mn ho uo mo hgl ugl mgl hu uu mu ht ut mt ha ua ma c0 c2 c3 c4 c5 c6 c7 c8 c9 c10 c11 hr ur mr c1
 by_cases hs1 : ak < 1
 have HO : Hid (fZ s ⟨3, tag, ak, aj, aX⟩ = false) := by show _ = _; simp [fZ, fU]; intro a b; exfalso; omega
 have d1 := dT hs1
 clear hs1
 rotate_left
 have d1 := dF hs1
 by_cases hs2 : s.kI < ak
 have HO : Hid (fZ s ⟨3, tag, ak, aj, aX⟩ = false) := by show _ = _; simp [fZ, fU]; intro a b; exfalso; omega
 have d2 := dT hs2
 clear hs2
 rotate_left
 rotate_right 2
 iterate 2 focus
  go_enter Tryz.func96, Tryz.ntmps96
  go_upto_region 2 with fail
  go_quiet (fail)
  go_wp2_with fail
  go_ret
  exact ⟨ah HO.out.symm, bN hW _⟩
 have d2 := dF hs2
 generalize hV : fZ s ⟨3, tag, ak, aj, aX⟩ = V
 have HE : Hid (V = (decide (tag = 0) && (decide (aX.length ≤ 40) && qb aX && aX.all (ig s)) && (decide (aj.length = aX.length + 1) && aj.all (ig s)))) := by
  show _ = _
  rw [← hV]
  simp [fZ, fU, tK, qV, mK, show 1 ≤ ak ∧ ak ≤ s.kI by omega]
 clear hs1 hs2
 clear hV
 by_cases k40 : aX.length ≤ 40
 rotate_left
 ·have d40 : decide ((aX.length : Int) ≤ 40) = false := dF (by omega)
  have HO : Hid (V = false) := lH (by rw [HE.out, dF k40]; simp)
  clear HE
  clear k40
  obtain ⟨X, hX⟩ : ∃ X, wrap64 (1 + (aX.length : Int)) = X := ⟨_, rfl⟩
  cases hl : ((aj.length : Int) == X) with
  | false =>
    go_enter Tryz.func96, Tryz.ntmps96
    go_upto_region 2 with fail
    go_quiet (fail)
    replace a0 := a0.drewN nq
    replace hW := bN hW nq
    generalize World.drewN (w.alloc (.cells #[.int .i64 3, .int .i64 tag, .int .i64 ak, .slice Ai aj.length ni, .slice Ak aX.length nk] 97)) nq = W at *
    have ca := a0.cell
    have la := a0.lt
    go_wp2_with (first | (go_at_call_of 95 (Value.slice Ai aj.length ni); refine (fE s aj _ _ (h.below hW) (hi_.below hW hhi) (nT hhi hW.size)).mono ?_; rintro e w1 ⟨rfl, hb1⟩; replace hb1 := nX hW a0 hb1; clear hW a0 ca la; obtain ⟨hW, a0, ca, la⟩ := hb1) | (go_at_call_of 95 (Value.slice Ak aX.length nk); refine (fE s aX _ _ (h.below hW) (hk_.below hW hhi) (nT hhi hW.size)).mono ?_; rw [HA.out]; rintro e w1 ⟨rfl, hb1⟩; replace hb1 := nX hW a0 hb1; clear hW a0 ca la; obtain ⟨hW, a0, ca, la⟩ := hb1) | (go_at_call 139; refine (jR aX _ _ (hk_.below hW hhi) (nT hhi hW.size)).mono ?_; rw [HD.out]; rintro e w1 ⟨rfl, hb1⟩; replace hb1 := nX hW a0 hb1; clear hW a0 ca la; obtain ⟨hW, a0, ca, la⟩ := hb1) | fail)
    all_goals go_ret
    all_goals (exact ⟨ah HO.out.symm, hW⟩)
  | true =>
    go_enter Tryz.func96, Tryz.ntmps96
    go_upto_region 2 with fail
    go_quiet (fail)
    replace a0 := a0.drewN nq
    replace hW := bN hW nq
    generalize World.drewN (w.alloc (.cells #[.int .i64 3, .int .i64 tag, .int .i64 ak, .slice Ai aj.length ni, .slice Ak aX.length nk] 97)) nq = W at *
    have ca := a0.cell
    have la := a0.lt
    go_wp2_with (first | (go_at_call_of 95 (Value.slice Ai aj.length ni); refine (fE s aj _ _ (h.below hW) (hi_.below hW hhi) (nT hhi hW.size)).mono ?_; rintro e w1 ⟨rfl, hb1⟩; replace hb1 := nX hW a0 hb1; clear hW a0 ca la; obtain ⟨hW, a0, ca, la⟩ := hb1) | (go_at_call_of 95 (Value.slice Ak aX.length nk); refine (fE s aX _ _ (h.below hW) (hk_.below hW hhi) (nT hhi hW.size)).mono ?_; rw [HA.out]; rintro e w1 ⟨rfl, hb1⟩; replace hb1 := nX hW a0 hb1; clear hW a0 ca la; obtain ⟨hW, a0, ca, la⟩ := hb1) | (go_at_call 139; refine (jR aX _ _ (hk_.below hW hhi) (nT hhi hW.size)).mono ?_; rw [HD.out]; rintro e w1 ⟨rfl, hb1⟩; replace hb1 := nX hW a0 hb1; clear hW a0 ca la; obtain ⟨hW, a0, ca, la⟩ := hb1) | fail)
    all_goals go_ret
    all_goals (exact ⟨ah HO.out.symm, hW⟩)
 have d40 : decide ((aX.length : Int) ≤ 40) = true := dT (by omega)
 cases hd : qb aX with
 | false =>
   have HD := lH hd
   have HO : Hid (V = false) := lH (by rw [HE.out, HD.out]; simp)
   clear HE
   clear hd k40
   obtain ⟨X, hX⟩ : ∃ X, wrap64 (1 + (aX.length : Int)) = X := ⟨_, rfl⟩
   cases hl : ((aj.length : Int) == X) with
   | false =>
     go_enter Tryz.func96, Tryz.ntmps96
     go_upto_region 2 with fail
     go_quiet (fail)
     replace a0 := a0.drewN nq
     replace hW := bN hW nq
     generalize World.drewN (w.alloc (.cells #[.int .i64 3, .int .i64 tag, .int .i64 ak, .slice Ai aj.length ni, .slice Ak aX.length nk] 97)) nq = W at *
     have ca := a0.cell
     have la := a0.lt
     go_wp2_with (first | (go_at_call_of 95 (Value.slice Ai aj.length ni); refine (fE s aj _ _ (h.below hW) (hi_.below hW hhi) (nT hhi hW.size)).mono ?_; rintro e w1 ⟨rfl, hb1⟩; replace hb1 := nX hW a0 hb1; clear hW a0 ca la; obtain ⟨hW, a0, ca, la⟩ := hb1) | (go_at_call_of 95 (Value.slice Ak aX.length nk); refine (fE s aX _ _ (h.below hW) (hk_.below hW hhi) (nT hhi hW.size)).mono ?_; rw [HA.out]; rintro e w1 ⟨rfl, hb1⟩; replace hb1 := nX hW a0 hb1; clear hW a0 ca la; obtain ⟨hW, a0, ca, la⟩ := hb1) | (go_at_call 139; refine (jR aX _ _ (hk_.below hW hhi) (nT hhi hW.size)).mono ?_; rw [HD.out]; rintro e w1 ⟨rfl, hb1⟩; replace hb1 := nX hW a0 hb1; clear hW a0 ca la; obtain ⟨hW, a0, ca, la⟩ := hb1) | fail)
     all_goals go_ret
     all_goals (exact ⟨ah HO.out.symm, hW⟩)
   | true =>
     go_enter Tryz.func96, Tryz.ntmps96
     go_upto_region 2 with fail
     go_quiet (fail)
     replace a0 := a0.drewN nq
     replace hW := bN hW nq
     generalize World.drewN (w.alloc (.cells #[.int .i64 3, .int .i64 tag, .int .i64 ak, .slice Ai aj.length ni, .slice Ak aX.length nk] 97)) nq = W at *
     have ca := a0.cell
     have la := a0.lt
     go_wp2_with (first | (go_at_call_of 95 (Value.slice Ai aj.length ni); refine (fE s aj _ _ (h.below hW) (hi_.below hW hhi) (nT hhi hW.size)).mono ?_; rintro e w1 ⟨rfl, hb1⟩; replace hb1 := nX hW a0 hb1; clear hW a0 ca la; obtain ⟨hW, a0, ca, la⟩ := hb1) | (go_at_call_of 95 (Value.slice Ak aX.length nk); refine (fE s aX _ _ (h.below hW) (hk_.below hW hhi) (nT hhi hW.size)).mono ?_; rw [HA.out]; rintro e w1 ⟨rfl, hb1⟩; replace hb1 := nX hW a0 hb1; clear hW a0 ca la; obtain ⟨hW, a0, ca, la⟩ := hb1) | (go_at_call 139; refine (jR aX _ _ (hk_.below hW hhi) (nT hhi hW.size)).mono ?_; rw [HD.out]; rintro e w1 ⟨rfl, hb1⟩; replace hb1 := nX hW a0 hb1; clear hW a0 ca la; obtain ⟨hW, a0, ca, la⟩ := hb1) | fail)
     all_goals go_ret
     all_goals (exact ⟨ah HO.out.symm, hW⟩)
 | true =>
 have HD := lH hd
 clear hd
 cases ha : aX.all (ig s) with
 | false =>
   have HA := lH ha
   have HO : Hid (V = false) := lH (by rw [HE.out, HA.out]; simp)
   clear HE
   clear ha k40
   obtain ⟨X, hX⟩ : ∃ X, wrap64 (1 + (aX.length : Int)) = X := ⟨_, rfl⟩
   cases hl : ((aj.length : Int) == X) with
   | false =>
     go_enter Tryz.func96, Tryz.ntmps96
     go_upto_region 2 with fail
     go_quiet (fail)
     replace a0 := a0.drewN nq
     replace hW := bN hW nq
     generalize World.drewN (w.alloc (.cells #[.int .i64 3, .int .i64 tag, .int .i64 ak, .slice Ai aj.length ni, .slice Ak aX.length nk] 97)) nq = W at *
     have ca := a0.cell
     have la := a0.lt
     go_wp2_with (first | (go_at_call_of 95 (Value.slice Ai aj.length ni); refine (fE s aj _ _ (h.below hW) (hi_.below hW hhi) (nT hhi hW.size)).mono ?_; rintro e w1 ⟨rfl, hb1⟩; replace hb1 := nX hW a0 hb1; clear hW a0 ca la; obtain ⟨hW, a0, ca, la⟩ := hb1) | (go_at_call_of 95 (Value.slice Ak aX.length nk); refine (fE s aX _ _ (h.below hW) (hk_.below hW hhi) (nT hhi hW.size)).mono ?_; rw [HA.out]; rintro e w1 ⟨rfl, hb1⟩; replace hb1 := nX hW a0 hb1; clear hW a0 ca la; obtain ⟨hW, a0, ca, la⟩ := hb1) | (go_at_call 139; refine (jR aX _ _ (hk_.below hW hhi) (nT hhi hW.size)).mono ?_; rw [HD.out]; rintro e w1 ⟨rfl, hb1⟩; replace hb1 := nX hW a0 hb1; clear hW a0 ca la; obtain ⟨hW, a0, ca, la⟩ := hb1) | fail)
     all_goals go_ret
     all_goals (exact ⟨ah HO.out.symm, hW⟩)
   | true =>
     go_enter Tryz.func96, Tryz.ntmps96
     go_upto_region 2 with fail
     go_quiet (fail)
     replace a0 := a0.drewN nq
     replace hW := bN hW nq
     generalize World.drewN (w.alloc (.cells #[.int .i64 3, .int .i64 tag, .int .i64 ak, .slice Ai aj.length ni, .slice Ak aX.length nk] 97)) nq = W at *
     have ca := a0.cell
     have la := a0.lt
     go_wp2_with (first | (go_at_call_of 95 (Value.slice Ai aj.length ni); refine (fE s aj _ _ (h.below hW) (hi_.below hW hhi) (nT hhi hW.size)).mono ?_; rintro e w1 ⟨rfl, hb1⟩; replace hb1 := nX hW a0 hb1; clear hW a0 ca la; obtain ⟨hW, a0, ca, la⟩ := hb1) | (go_at_call_of 95 (Value.slice Ak aX.length nk); refine (fE s aX _ _ (h.below hW) (hk_.below hW hhi) (nT hhi hW.size)).mono ?_; rw [HA.out]; rintro e w1 ⟨rfl, hb1⟩; replace hb1 := nX hW a0 hb1; clear hW a0 ca la; obtain ⟨hW, a0, ca, la⟩ := hb1) | (go_at_call 139; refine (jR aX _ _ (hk_.below hW hhi) (nT hhi hW.size)).mono ?_; rw [HD.out]; rintro e w1 ⟨rfl, hb1⟩; replace hb1 := nX hW a0 hb1; clear hW a0 ca la; obtain ⟨hW, a0, ca, la⟩ := hb1) | fail)
     all_goals go_ret
     all_goals (exact ⟨ah HO.out.symm, hW⟩)
 | true =>
 have HA := lH ha
 clear ha
 cases hl : ((aj.length : Int) == 1 + (aX.length : Int)) with
 | false =>
   have HO : Hid (V = false) := lH (by rw [HE.out, dF (show ¬ aj.length = aX.length + 1 by simp at hl; omega)]; simp)
   clear HE
   go_enter Tryz.func96, Tryz.ntmps96
   go_upto_region 2 with fail
   go_quiet (fail)
   replace a0 := a0.drewN nq
   replace hW := bN hW nq
   generalize World.drewN (w.alloc (.cells #[.int .i64 3, .int .i64 tag, .int .i64 ak, .slice Ai aj.length ni, .slice Ak aX.length nk] 97)) nq = W at *
   have ca := a0.cell
   have la := a0.lt
   go_wp2_with (first | (go_at_call_of 95 (Value.slice Ai aj.length ni); refine (fE s aj _ _ (h.below hW) (hi_.below hW hhi) (nT hhi hW.size)).mono ?_; rintro e w1 ⟨rfl, hb1⟩; replace hb1 := nX hW a0 hb1; clear hW a0 ca la; obtain ⟨hW, a0, ca, la⟩ := hb1) | (go_at_call_of 95 (Value.slice Ak aX.length nk); refine (fE s aX _ _ (h.below hW) (hk_.below hW hhi) (nT hhi hW.size)).mono ?_; rw [HA.out]; rintro e w1 ⟨rfl, hb1⟩; replace hb1 := nX hW a0 hb1; clear hW a0 ca la; obtain ⟨hW, a0, ca, la⟩ := hb1) | (go_at_call 139; refine (jR aX _ _ (hk_.below hW hhi) (nT hhi hW.size)).mono ?_; rw [HD.out]; rintro e w1 ⟨rfl, hb1⟩; replace hb1 := nX hW a0 hb1; clear hW a0 ca la; obtain ⟨hW, a0, ca, la⟩ := hb1) | fail)
   all_goals go_ret
   all_goals (exact ⟨ah HO.out.symm, hW⟩)
 | true =>
 have HO : Hid (V = (decide (tag = 0) && aj.all (ig s))) := lH (by rw [HE.out, dT k40, HD.out, HA.out, dT (show aj.length = aX.length + 1 by simp at hl; omega)]; simp)
 clear HE
 go_enter Tryz.func96, Tryz.ntmps96
 go_upto_region 2 with fail
 go_quiet (fail)
 replace a0 := a0.drewN nq
 replace hW := bN hW nq
 generalize World.drewN (w.alloc (.cells #[.int .i64 3, .int .i64 tag, .int .i64 ak, .slice Ai aj.length ni, .slice Ak aX.length nk] 97)) nq = W at *
 have ca := a0.cell
 have la := a0.lt
 go_wp2_with (first | (go_at_call_of 95 (Value.slice Ai aj.length ni); refine (fE s aj _ _ (h.below hW) (hi_.below hW hhi) (nT hhi hW.size)).mono ?_; rintro e w1 ⟨rfl, hb1⟩; replace hb1 := nX hW a0 hb1; clear hW a0 ca la; obtain ⟨hW, a0, ca, la⟩ := hb1) | (go_at_call_of 95 (Value.slice Ak aX.length nk); refine (fE s aX _ _ (h.below hW) (hk_.below hW hhi) (nT hhi hW.size)).mono ?_; rw [HA.out]; rintro e w1 ⟨rfl, hb1⟩; replace hb1 := nX hW a0 hb1; clear hW a0 ca la; obtain ⟨hW, a0, ca, la⟩ := hb1) | (go_at_call 139; refine (jR aX _ _ (hk_.below hW hhi) (nT hhi hW.size)).mono ?_; rw [HD.out]; rintro e w1 ⟨rfl, hb1⟩; replace hb1 := nX hW a0 hb1; clear hW a0 ca la; obtain ⟨hW, a0, ca, la⟩ := hb1) | fail)
 all_goals go_ret
 all_goals ((try subst_vars); exact ⟨ah (by clear h hi_ hk_ a0 hW ca la; (try rw [HO.out]); simp_all <;> omega), hW⟩)
theorem PG (s : dP) (tag ak : Int) (aj aX : List aQ) (Ai Ak : Option Addr) (ni nk : Nat) (w : World) {g off lo hi lo' hi' : Nat} (h : At w g off lo hi dP.ay s)
 (hi_ : dz w lo' hi' 6 aQ.ay (.slice Ai aj.length ni) aj) (hk_ : dz w lo' hi' 6 aQ.ay (.slice Ak aX.length nk) aX) (hhi : hi' ≤ w.heap.size) :
 Calls Tryz.prog 96 #[.pointer (some ⟨g, off, none⟩), .agg #[.int .i64 4, .int .i64 tag, .int .i64 ak, .slice Ai aj.length ni, .slice Ak aX.length nk]] w fun e w' => e = .returned (.bool (fZ s ⟨4, tag, ak, aj, aX⟩)) ∧ Below w.heap.size w w' := by
 obtain ⟨a0, hW⟩ := eZ w 97 #[.int .i64 4, .int .i64 tag, .int .i64 ak, .slice Ai aj.length ni, .slice Ak aX.length nk]
 obtain ⟨An, nn, Ar, nr, Ao, no, Ag, ng, Au, nu, At', nt, Aa, na, hg, hle, hn, un, mn, hr, ur, mr, ho, uo, mo, hgl, ugl, mgl, hu, uu, mu, ht, ut, mt, ha, ua, ma, c0, c1, c2, c3, c4, c5, c6, c7, c8, c9, c10, c11, c12⟩ := dP.in_ h
 unfold maxLen at mr
 clear hle hn un mn ho uo mo hgl ugl mgl hu uu mu ht ut mt ha ua ma c0 c2 c3 c4 c5 c6 c7 c8 c9 c10 c11 hr ur mr c1
 by_cases hs1 : ak < 1
 ·have HO : Hid (fZ s ⟨4, tag, ak, aj, aX⟩ = false) := by show _ = _; simp [fZ, fU]; intro a b; exfalso; omega
  have d1 := dT hs1
  clear hs1
  go_enter Tryz.func96, Tryz.ntmps96
  go_upto_region 2 with fail
  go_quiet (fail)
  go_wp2_with fail
  go_ret
  exact ⟨ah HO.out.symm, bN hW _⟩
 have d1 := dF hs1
 by_cases hs2 : s.kI < ak
 ·have HO : Hid (fZ s ⟨4, tag, ak, aj, aX⟩ = false) := by show _ = _; simp [fZ, fU]; intro a b; exfalso; omega
  have d2 := dT hs2
  clear hs2
  go_enter Tryz.func96, Tryz.ntmps96
  go_upto_region 2 with fail
  go_quiet (fail)
  go_wp2_with fail
  go_ret
  exact ⟨ah HO.out.symm, bN hW _⟩
 have d2 := dF hs2
 generalize hV : fZ s ⟨4, tag, ak, aj, aX⟩ = V
 have HE : Hid (V = (decide (tag = 0) && (decide (aX.length ≤ 40) && qb aX && aX.all (ig s)) && decide (aj.length = 0))) := by
  show _ = _
  rw [← hV]
  simp [fZ, fU, tK, qV, mK, show 1 ≤ ak ∧ ak ≤ s.kI by omega]
 clear hs1 hs2
 clear hV
 rcases (Classical.em (aX.length ≤ 40)).symm with k40 | k40
 have d40 : decide ((aX.length : Int) ≤ 40) = false := dF (by omega)
 have HO : Hid (V = false) := lH (by rw [HE.out, dF k40]; simp)
 clear HE
 clear k40
 rotate_left
 have d40 : decide ((aX.length : Int) ≤ 40) = true := dT (by omega)
 cases hd : qb aX
 have HD := lH hd
 have HO : Hid (V = false) := lH (by rw [HE.out, HD.out]; simp)
 clear HE
 clear hd k40
 rotate_left
 have HD := lH hd
 clear hd
 cases ha : aX.all (ig s)
 have HA := lH ha
 have HO : Hid (V = false) := lH (by rw [HE.out, HA.out]; simp)
 clear HE
 clear ha k40
 rotate_left
 rotate_right 3
 iterate 3 focus
  go_enter Tryz.func96, Tryz.ntmps96
  go_upto_region 2 with fail
  go_quiet (fail)
  replace a0 := a0.drewN nq
  replace hW := bN hW nq
  generalize World.drewN (w.alloc (.cells #[.int .i64 4, .int .i64 tag, .int .i64 ak, .slice Ai aj.length ni, .slice Ak aX.length nk] 97)) nq = W at *
  have ca := a0.cell
  have la := a0.lt
  go_wp2_with (first | (go_at_call_of 95 (Value.slice Ai aj.length ni); refine (fE s aj _ _ (h.below hW) (hi_.below hW hhi) (nT hhi hW.size)).mono ?_; rintro e w1 ⟨rfl, hb1⟩; replace hb1 := nX hW a0 hb1; clear hW a0 ca la; obtain ⟨hW, a0, ca, la⟩ := hb1) | (go_at_call_of 95 (Value.slice Ak aX.length nk); refine (fE s aX _ _ (h.below hW) (hk_.below hW hhi) (nT hhi hW.size)).mono ?_; rw [HA.out]; rintro e w1 ⟨rfl, hb1⟩; replace hb1 := nX hW a0 hb1; clear hW a0 ca la; obtain ⟨hW, a0, ca, la⟩ := hb1) | (go_at_call 139; refine (jR aX _ _ (hk_.below hW hhi) (nT hhi hW.size)).mono ?_; rw [HD.out]; rintro e w1 ⟨rfl, hb1⟩; replace hb1 := nX hW a0 hb1; clear hW a0 ca la; obtain ⟨hW, a0, ca, la⟩ := hb1) | fail)
  all_goals go_ret
  all_goals (exact ⟨ah HO.out.symm, hW⟩)
 have HA := lH ha
 clear ha
 have HO : Hid (V = (decide (tag = 0) && ((aj.length : Int) == 0))) := lH (by rw [HE.out, dT k40, HD.out, HA.out, show ((aj.length : Int) == 0) = decide (aj.length = 0) by rw [Bool.eq_iff_iff]; simp]; simp)
 clear HE
 go_enter Tryz.func96, Tryz.ntmps96
 go_upto_region 2 with fail
 go_quiet (fail)
 replace a0 := a0.drewN nq
 replace hW := bN hW nq
 generalize World.drewN (w.alloc (.cells #[.int .i64 4, .int .i64 tag, .int .i64 ak, .slice Ai aj.length ni, .slice Ak aX.length nk] 97)) nq = W at *
 have ca := a0.cell
 have la := a0.lt
 go_wp2_with (first | (go_at_call_of 95 (Value.slice Ai aj.length ni); refine (fE s aj _ _ (h.below hW) (hi_.below hW hhi) (nT hhi hW.size)).mono ?_; rintro e w1 ⟨rfl, hb1⟩; replace hb1 := nX hW a0 hb1; clear hW a0 ca la; obtain ⟨hW, a0, ca, la⟩ := hb1) | (go_at_call_of 95 (Value.slice Ak aX.length nk); refine (fE s aX _ _ (h.below hW) (hk_.below hW hhi) (nT hhi hW.size)).mono ?_; rw [HA.out]; rintro e w1 ⟨rfl, hb1⟩; replace hb1 := nX hW a0 hb1; clear hW a0 ca la; obtain ⟨hW, a0, ca, la⟩ := hb1) | (go_at_call 139; refine (jR aX _ _ (hk_.below hW hhi) (nT hhi hW.size)).mono ?_; rw [HD.out]; rintro e w1 ⟨rfl, hb1⟩; replace hb1 := nX hW a0 hb1; clear hW a0 ca la; obtain ⟨hW, a0, ca, la⟩ := hb1) | fail)
 all_goals go_ret
 all_goals ((try subst_vars); exact ⟨ah (by clear h hi_ hk_ a0 hW ca la; (try rw [HO.out]); simp_all <;> omega), hW⟩)
theorem PI (s : dP) (tag ak : Int) (aj aX : List aQ) (Ai Ak : Option Addr) (ni nk : Nat) (w : World) {g off lo hi lo' hi' : Nat} (h : At w g off lo hi dP.ay s)
 (hi_ : dz w lo' hi' 6 aQ.ay (.slice Ai aj.length ni) aj) (hk_ : dz w lo' hi' 6 aQ.ay (.slice Ak aX.length nk) aX) (hhi : hi' ≤ w.heap.size) :
 Calls Tryz.prog 96 #[.pointer (some ⟨g, off, none⟩), .agg #[.int .i64 7, .int .i64 tag, .int .i64 ak, .slice Ai aj.length ni, .slice Ak aX.length nk]] w fun e w' => e = .returned (.bool (fZ s ⟨7, tag, ak, aj, aX⟩)) ∧ Below w.heap.size w w' := by
 obtain ⟨a0, hW⟩ := eZ w 97 #[.int .i64 7, .int .i64 tag, .int .i64 ak, .slice Ai aj.length ni, .slice Ak aX.length nk]
 obtain ⟨An, nn, Ar, nr, Ao, no, Ag, ng, Au, nu, At', nt, Aa, na, hg, hle, hn, un, mn, hr, ur, mr, ho, uo, mo, hgl, ugl, mgl, hu, uu, mu, ht, ut, mt, ha, ua, ma, c0, c1, c2, c3, c4, c5, c6, c7, c8, c9, c10, c11, c12⟩ := dP.in_ h
 unfold maxLen at mr
 clear hle hn un mn ho uo mo hgl ugl mgl hu uu mu ht ut mt ha ua ma c0 c2 c3 c4 c5 c6 c7 c8 c9 c10 c11 hr ur mr c1
 by_cases hs1 : ak < 1
 have HO : Hid (fZ s ⟨7, tag, ak, aj, aX⟩ = false) := by show _ = _; simp [fZ, fU]; intro a b; exfalso; omega
 have d1 := dT hs1
 clear hs1
 rotate_left
 have d1 := dF hs1
 by_cases hs2 : s.kI < ak
 have HO : Hid (fZ s ⟨7, tag, ak, aj, aX⟩ = false) := by show _ = _; simp [fZ, fU]; intro a b; exfalso; omega
 have d2 := dT hs2
 clear hs2
 rotate_left
 rotate_right 2
 iterate 2 focus
  go_enter Tryz.func96, Tryz.ntmps96
  go_upto_region 2 with fail
  go_quiet (fail)
  go_wp2_with fail
  go_ret
  exact ⟨ah HO.out.symm, bN hW _⟩
 have d2 := dF hs2
 have HO : Hid (fZ s ⟨7, tag, ak, aj, aX⟩ = (decide (aX.length = 0) && yc s tag aj)) := by
  show _ = _
  simp [fZ, fU, tK, qV, mK, show 1 ≤ ak ∧ ak ≤ s.kI by omega]
 clear hs1 hs2
 go_enter Tryz.func96, Tryz.ntmps96
 go_upto_region 2 with fail
 go_quiet (fail)
 replace a0 := a0.drewN nq
 replace hW := bN hW nq
 generalize World.drewN (w.alloc (.cells #[.int .i64 7, .int .i64 tag, .int .i64 ak, .slice Ai aj.length ni, .slice Ak aX.length nk] 97)) nq = W at *
 have ca := a0.cell
 have la := a0.lt
 go_wp2_with (first | (go_at_call 140; refine (zo s tag aj _ _ (h.below hW) (hi_.below hW hhi) (nT hhi hW.size)).mono ?_; rintro e w1 ⟨rfl, hb1⟩; replace hb1 := nX hW a0 hb1; clear hW a0 ca la; obtain ⟨hW, a0, ca, la⟩ := hb1) | fail)
 all_goals go_ret
 all_goals ((try subst_vars); exact ⟨ah (by clear h hi_ hk_ a0 hW ca la; (try rw [HO.out]); simp_all <;> omega), hW⟩)
theorem PK (s : dP) (tag ak : Int) (aj aX : List aQ) (Ai Ak : Option Addr) (ni nk : Nat) (w : World) {g off lo hi lo' hi' : Nat} (h : At w g off lo hi dP.ay s)
 (hi_ : dz w lo' hi' 6 aQ.ay (.slice Ai aj.length ni) aj) (hk_ : dz w lo' hi' 6 aQ.ay (.slice Ak aX.length nk) aX) (hhi : hi' ≤ w.heap.size) :
 Calls Tryz.prog 96 #[.pointer (some ⟨g, off, none⟩), .agg #[.int .i64 8, .int .i64 tag, .int .i64 ak, .slice Ai aj.length ni, .slice Ak aX.length nk]] w fun e w' => e = .returned (.bool (fZ s ⟨8, tag, ak, aj, aX⟩)) ∧ Below w.heap.size w w' := by
 obtain ⟨a0, hW⟩ := eZ w 97 #[.int .i64 8, .int .i64 tag, .int .i64 ak, .slice Ai aj.length ni, .slice Ak aX.length nk]
 by_cases hs : ak = 0
 rotate_left
 ·have e0 : (ak != 0) = true := by simp [hs]
  have HO : Hid (fZ s ⟨8, tag, ak, aj, aX⟩ = false) := by show _ = _; simp [fZ, fU, hs]
  clear hs
  go_enter Tryz.func96, Tryz.ntmps96
  go_upto_region 2 with fail
  go_quiet (fail)
  go_wp2_with fail
  go_ret
  exact ⟨ah HO.out.symm, bN hW _⟩
 have e0 : (ak != 0) = false := by simp [hs]
 generalize hV : fZ s ⟨8, tag, ak, aj, aX⟩ = V
 have HE : Hid (V = (decide (tag = 0) && decide (aX.length = 0) && vU s aj)) := by
  show _ = _
  rw [← hV]
  simp [fZ, fU, tK, qV, mK, hs]
 clear hs hV
 by_cases h2 : aj.length = 2
 rotate_left
 ·have HO : Hid (V = false) := lH (by rw [HE.out, Ep h2]; simp)
  have d2 : ((aj.length : Int) == 2) = false := by simp; omega
  clear h2 HE
  go_enter Tryz.func96, Tryz.ntmps96
  go_upto_region 2 with fail
  go_quiet (fail)
  replace a0 := a0.drewN nq
  replace hW := bN hW nq
  generalize World.drewN (w.alloc (.cells #[.int .i64 8, .int .i64 tag, .int .i64 ak, .slice Ai aj.length ni, .slice Ak aX.length nk] 97)) nq = W at *
  have ca := a0.cell
  have la := a0.lt
  go_wp2_with fail
  all_goals go_ret
  all_goals (exact ⟨ah HO.out.symm, hW⟩)
 have d2 : ((aj.length : Int) == 2) = true := by simp; omega
 have hln : 2 ≤ aj.length := by omega
 obtain ⟨a, ha⟩ : ∃ c, aj[0]? = some c := ⟨_, gE (by omega)⟩
 obtain ⟨b, hb⟩ : ∃ c, aj[1]? = some c := ⟨_, gE (by omega)⟩
 obtain ⟨g', off', rfl, hg1, hg2, -⟩ := aQ.at_ hi_ (j := 0) ha
 have HC := lH (JH (s := s) h2 ha hb)
 clear h2
 by_cases k5 : a.kind = 5
 rotate_left
 ·have HO : Hid (V = false) := lH (by rw [HE.out, HC.out, dF k5]; simp)
  have e5 : (a.kind == 5) = false := by simp [k5]
  clear HE HC k5
  go_enter Tryz.func96, Tryz.ntmps96
  go_upto_region 2 with fail
  go_quiet (fail)
  replace a0 := a0.drewN nq
  replace hW := bN hW nq
  generalize World.drewN (w.alloc (.cells #[.int .i64 8, .int .i64 tag, .int .i64 ak, .slice (some ⟨g', off', none⟩) aj.length ni, .slice Ak aX.length nk] 97)) nq = W at *
  have ca := a0.cell
  have la := a0.lt
  obtain ⟨pa0, pa1, pa2, pa3, pa4, pa5⟩ := dV (hi_.below hW hhi) ha (p := off') (by omega)
  obtain ⟨pb0, pb1, pb2, pb3, pb4, pb5⟩ := dV (hi_.below hW hhi) hb (p := off' + 6) (by omega)
  go_wp2_with (first | (go_at_call_of 95 (Value.slice (some ⟨g', off', none⟩) aj.length ni); refine (fE s aj _ _ (h.below hW) (hi_.below hW hhi) (nT hhi hW.size)).mono ?_; rintro e w1 ⟨rfl, hb1⟩; replace hb1 := nX hW a0 hb1; clear hW a0 ca la; obtain ⟨hW, a0, ca, la⟩ := hb1) | fail)
  all_goals go_ret
  all_goals (exact ⟨ah HO.out.symm, hW⟩)
 have e5 : (a.kind == 5) = true := by simp [k5]
 have HO : Hid (V = (decide (tag = 0) && decide (aX.length = 0) && aj.all (ig s))) := lH (by rw [HE.out, HC.out, dT k5]; simp)
 clear HE HC k5
 go_enter Tryz.func96, Tryz.ntmps96
 go_upto_region 2 with fail
 go_quiet (fail)
 replace a0 := a0.drewN nq
 replace hW := bN hW nq
 generalize World.drewN (w.alloc (.cells #[.int .i64 8, .int .i64 tag, .int .i64 ak, .slice (some ⟨g', off', none⟩) aj.length ni, .slice Ak aX.length nk] 97)) nq = W at *
 have ca := a0.cell
 have la := a0.lt
 obtain ⟨pa0, pa1, pa2, pa3, pa4, pa5⟩ := dV (hi_.below hW hhi) ha (p := off') (by omega)
 obtain ⟨pb0, pb1, pb2, pb3, pb4, pb5⟩ := dV (hi_.below hW hhi) hb (p := off' + 6) (by omega)
 go_wp2_with (first | (go_at_call_of 95 (Value.slice (some ⟨g', off', none⟩) aj.length ni); refine (fE s aj _ _ (h.below hW) (hi_.below hW hhi) (nT hhi hW.size)).mono ?_; rintro e w1 ⟨rfl, hb1⟩; replace hb1 := nX hW a0 hb1; clear hW a0 ca la; obtain ⟨hW, a0, ca, la⟩ := hb1) | fail)
 all_goals go_ret
 all_goals ((try subst_vars); exact ⟨ah (by clear h hi_ hk_ a0 hW ca la; (try rw [HO.out]); simp_all <;> omega), hW⟩)
theorem NN (s : dP) (tag ak kind : Int) (aj aX : List aQ) (Ai Ak : Option Addr) (ni nk : Nat) (w : World) {g off lo hi lo' hi' : Nat} (h : At w g off lo hi dP.ay s)
 (hi_ : dz w lo' hi' 6 aQ.ay (.slice Ai aj.length ni) aj) (hk_ : dz w lo' hi' 6 aQ.ay (.slice Ak aX.length nk) aX) (hhi : hi' ≤ w.heap.size) (hk : kind < 1) :
 Calls Tryz.prog 96 #[.pointer (some ⟨g, off, none⟩), .agg #[.int .i64 kind, .int .i64 tag, .int .i64 ak, .slice Ai aj.length ni, .slice Ak aX.length nk]] w fun e w' => e = .returned (.bool (fZ s ⟨kind, tag, ak, aj, aX⟩)) ∧ Below w.heap.size w w' := by
 obtain ⟨a0, hW⟩ := eZ w 97 #[.int .i64 kind, .int .i64 tag, .int .i64 ak, .slice Ai aj.length ni, .slice Ak aX.length nk]
 have HI : mK s ⟨kind, tag, ak, aj, aX⟩ = false := by unfold mK; rw [if_neg (show ¬ kind = 1 by omega), if_neg (show ¬ kind = 2 by omega), if_neg (show ¬ kind = 3 by omega), if_neg (show ¬ kind = 4 by omega), if_neg (show ¬ kind = 5 by omega), if_neg (show ¬ kind = 6 by omega), if_neg (show ¬ kind = 7 by omega), if_neg (show ¬ kind = 8 by omega), if_neg (show ¬ kind = 9 by omega)]
 have HO : Hid (fZ s ⟨kind, tag, ak, aj, aX⟩ = false) := by show _ = _; unfold fZ; rw [HI, Bool.and_false]
 clear HI
 have k1 : (kind == 1) = false := by simp; omega
 have k2 : (kind == 2) = false := by simp; omega
 have k3 : (kind == 3) = false := by simp; omega
 have k4 : (kind == 4) = false := by simp; omega
 have k5 : (kind == 5) = false := by simp; omega
 have k6 : (kind == 6) = false := by simp; omega
 have k7 : (kind == 7) = false := by simp; omega
 have k8 : (kind == 8) = false := by simp; omega
 have k9 : (kind == 9) = false := by simp; omega
 have r2 : decide (2 ≤ kind) = false := by simp; omega
 have r7 : decide (kind ≤ 7) = true := by simp; omega
 clear hk
 cases e0 : (ak != 0) with
 | true =>
   go_enter Tryz.func96, Tryz.ntmps96
   go_upto_region 2 with fail
   go_quiet (fail)
   replace a0 := a0.drewN nq
   replace hW := bN hW nq
   generalize World.drewN (w.alloc (.cells #[.int .i64 kind, .int .i64 tag, .int .i64 ak, .slice Ai aj.length ni, .slice Ak aX.length nk] 97)) nq = W at *
   have ca := a0.cell
   have la := a0.lt
   go_wp2_with fail
   all_goals go_ret <;> exact ⟨ah HO.out.symm, hW⟩
 | false =>
   go_enter Tryz.func96, Tryz.ntmps96
   go_upto_region 2 with fail
   go_quiet (fail)
   replace a0 := a0.drewN nq
   replace hW := bN hW nq
   generalize World.drewN (w.alloc (.cells #[.int .i64 kind, .int .i64 tag, .int .i64 ak, .slice Ai aj.length ni, .slice Ak aX.length nk] 97)) nq = W at *
   have ca := a0.cell
   have la := a0.lt
   go_wp2_with fail
   all_goals go_ret <;> exact ⟨ah HO.out.symm, hW⟩
theorem NP (s : dP) (tag ak kind : Int) (aj aX : List aQ) (Ai Ak : Option Addr) (ni nk : Nat) (w : World) {g off lo hi lo' hi' : Nat} (h : At w g off lo hi dP.ay s)
 (hi_ : dz w lo' hi' 6 aQ.ay (.slice Ai aj.length ni) aj) (hk_ : dz w lo' hi' 6 aQ.ay (.slice Ak aX.length nk) aX) (hhi : hi' ≤ w.heap.size) (hk : 9 < kind) :
 Calls Tryz.prog 96 #[.pointer (some ⟨g, off, none⟩), .agg #[.int .i64 kind, .int .i64 tag, .int .i64 ak, .slice Ai aj.length ni, .slice Ak aX.length nk]] w fun e w' => e = .returned (.bool (fZ s ⟨kind, tag, ak, aj, aX⟩)) ∧ Below w.heap.size w w' := by
 obtain ⟨a0, hW⟩ := eZ w 97 #[.int .i64 kind, .int .i64 tag, .int .i64 ak, .slice Ai aj.length ni, .slice Ak aX.length nk]
 have HI : mK s ⟨kind, tag, ak, aj, aX⟩ = false := by unfold mK; rw [if_neg (show ¬ kind = 1 by omega), if_neg (show ¬ kind = 2 by omega), if_neg (show ¬ kind = 3 by omega), if_neg (show ¬ kind = 4 by omega), if_neg (show ¬ kind = 5 by omega), if_neg (show ¬ kind = 6 by omega), if_neg (show ¬ kind = 7 by omega), if_neg (show ¬ kind = 8 by omega), if_neg (show ¬ kind = 9 by omega)]
 have HO : Hid (fZ s ⟨kind, tag, ak, aj, aX⟩ = false) := by show _ = _; unfold fZ; rw [HI, Bool.and_false]
 clear HI
 have k1 : (kind == 1) = false := by simp; omega
 have k2 : (kind == 2) = false := by simp; omega
 have k3 : (kind == 3) = false := by simp; omega
 have k4 : (kind == 4) = false := by simp; omega
 have k5 : (kind == 5) = false := by simp; omega
 have k6 : (kind == 6) = false := by simp; omega
 have k7 : (kind == 7) = false := by simp; omega
 have k8 : (kind == 8) = false := by simp; omega
 have k9 : (kind == 9) = false := by simp; omega
 have r2 : decide (2 ≤ kind) = true := by simp; omega
 have r7 : decide (kind ≤ 7) = false := by simp; omega
 clear hk
 cases e0 : (ak != 0) with
 | true =>
   go_enter Tryz.func96, Tryz.ntmps96
   go_upto_region 2 with fail
   go_quiet (fail)
   replace a0 := a0.drewN nq
   replace hW := bN hW nq
   generalize World.drewN (w.alloc (.cells #[.int .i64 kind, .int .i64 tag, .int .i64 ak, .slice Ai aj.length ni, .slice Ak aX.length nk] 97)) nq = W at *
   have ca := a0.cell
   have la := a0.lt
   go_wp2_with fail
   all_goals go_ret <;> exact ⟨ah HO.out.symm, hW⟩
 | false =>
   go_enter Tryz.func96, Tryz.ntmps96
   go_upto_region 2 with fail
   go_quiet (fail)
   replace a0 := a0.drewN nq
   replace hW := bN hW nq
   generalize World.drewN (w.alloc (.cells #[.int .i64 kind, .int .i64 tag, .int .i64 ak, .slice Ai aj.length ni, .slice Ak aX.length nk] 97)) nq = W at *
   have ca := a0.cell
   have la := a0.lt
   go_wp2_with fail
   all_goals go_ret <;> exact ⟨ah HO.out.symm, hW⟩
end Go.Proofs.YtoddlphekcihgaaGreatDoor
