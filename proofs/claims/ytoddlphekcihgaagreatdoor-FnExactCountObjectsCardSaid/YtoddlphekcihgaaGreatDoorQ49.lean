/- Is a machine QH Of the program. FP of the program. The law FnExactCountObjects: it returns true and writes nothing that was there. -/
import Derived.Test.YtoddlphekcihgaaGreatDoorQ26
import Derived.Test.YtoddlphekcihgaaGreatDoorQ28
import Derived.Test.YtoddlphekcihgaaGreatDoorQ44
import Derived.Test.YtoddlphekcihgaaGreatDoorQ45
set_option maxRecDepth 100000
set_option maxHeartbeats 40000000
set_option linter.unusedVariables false
set_option linter.unusedSimpArgs false
namespace Go.Proofs.YtoddlphekcihgaaGreatDoor
open Go.RowKit
theorem OL {w : World} {lo hi g off cap : Nat} {l : List Int} (h : dz w lo hi 1 gW (.slice (some ⟨g, off, none⟩) l.length cap) l) {j : Nat} (hj : j < l.length) : w.cell? ⟨g, off + j, none⟩ = some (.int .i64 (l.getD j 0)) := by
 obtain ⟨g', off', hA, h1, h2, q0⟩ := h.num (gE hj)
 injection hA with hA
 injection hA with e1 e2 _
 subst e1 e2
 rw [q0, List.getD, gE hj]; rfl
theorem Bb (m : eG) {w w1 : World} {g lo hi : Nat} {bM bZ cu dD dG bO bP bQ cB dH bS eH fC : Option Addr} {bq bU bV cZ dh bu bB bC bW dw bD eD fq : Nat} (a0 : Blk w1 g 58 #[Value.slice bM m.aF.length bq, .slice bZ m.aK.length bU, .slice cu m.aL.length bV, .int .i64 m.dO, .slice dD m.bf.length cZ, .slice dG m.aR.length dh, .slice bO m.aG.length bu, .slice bP m.aM.length bB, .slice bQ m.aH.length bC, .string m.aU, .int .i64 m.aO, .slice cB m.aS.length bW, .slice dH m.bg.length dw, .slice bS m.aN.length bD, .bool m.aT, .int .i64 m.bX, .int .i64 m.bn, .int .i64 m.dA, .slice eH m.bY.length eD, .slice fC m.dQ.length fq, .int .i64 m.status, .int .i64 m.fault, .int .i64 m.line, .int .i64 m.bK, .int .i64 m.aP, .int .i64 m.aV, .string m.bL, .int .i64 m.aJ, .int .i64 m.aD]) (hx : fA w lo hi eG.ay (.agg #[Value.slice bM m.aF.length bq, .slice bZ m.aK.length bU, .slice cu m.aL.length bV, .int .i64 m.dO, .slice dD m.bf.length cZ, .slice dG m.aR.length dh, .slice bO m.aG.length bu, .slice bP m.aM.length bB, .slice bQ m.aH.length bC, .string m.aU, .int .i64 m.aO, .slice cB m.aS.length bW, .slice dH m.bg.length dw, .slice bS m.aN.length bD, .bool m.aT, .int .i64 m.bX, .int .i64 m.bn, .int .i64 m.dA, .slice eH m.bY.length eD, .slice fC m.dQ.length fq, .int .i64 m.status, .int .i64 m.fault, .int .i64 m.line, .int .i64 m.bK, .int .i64 m.aP, .int .i64 m.aV, .string m.bL, .int .i64 m.aJ, .int .i64 m.aD]) m) (hhi : hi ≤ w.heap.size) (hW : Below w.heap.size w w1) :
 Calls Tryz.prog 51 #[.pointer (some ⟨g, 0, none⟩), .slice (some ⟨w1.heap.size, 0, none⟩) 1 1] (w1.alloc (.cells #[Value.int .i64 m.bK, .int .i64 m.aP, .int .i64 m.aV, .string m.bL, .int .i64 m.aJ, .int .i64 m.aD] 56)) fun e w' => e = .returned (.bool ([m.result].all (pN m.store))) ∧ Below w.heap.size w w' ∧ Blk w' g 58 #[Value.slice bM m.aF.length bq, .slice bZ m.aK.length bU, .slice cu m.aL.length bV, .int .i64 m.dO, .slice dD m.bf.length cZ, .slice dG m.aR.length dh, .slice bO m.aG.length bu, .slice bP m.aM.length bB, .slice bQ m.aH.length bC, .string m.aU, .int .i64 m.aO, .slice cB m.aS.length bW, .slice dH m.bg.length dw, .slice bS m.aN.length bD, .bool m.aT, .int .i64 m.bX, .int .i64 m.bn, .int .i64 m.dA, .slice eH m.bY.length eD, .slice fC m.dQ.length fq, .int .i64 m.status, .int .i64 m.fault, .int .i64 m.line, .int .i64 m.bK, .int .i64 m.aP, .int .i64 m.aV, .string m.bL, .int .i64 m.aJ, .int .i64 m.aD] := by
 have q0 := a0.alloc (.cells #[Value.int .i64 m.bK, .int .i64 m.aP, .int .i64 m.aV, .string m.bL, .int .i64 m.aJ, .int .i64 m.aD] 56)
 have hB := hW.alloc hW.size (.cells #[Value.int .i64 m.bK, .int .i64 m.aP, .int .i64 m.aV, .string m.bL, .int .i64 m.aJ, .int .i64 m.aD] 56)
 have q1 := At.box q0 (hx.below hB hhi) (nT hhi hB.size)
 have q2 := gB m [m.result] _ _ q1 (Blk.R8 (lo := 0) (hi := 0) (c := m.result) (Blk.new w1 56 _)) (by simp)
 refine q2.mono ?_
 rintro e w2 ⟨rfl, hb⟩
 exact ⟨rfl, hB.trans (hb.mono hB.size), q0.later hb⟩
theorem yj (m : eG) (x : Value) (w : World) {lo hi : Nat} (hx : fA w lo hi eG.ay x m) (hhi : hi ≤ w.heap.size) (hst : iw w) (htx : ∀ y ∈ m.code.av, y.text.size ≤ 1048576) :
 Calls Tryz.prog 20 #[x] w fun e w' => e = .returned (.bool (Bj m)) ∧ Below w.heap.size w w' := by
 generalize hV : Bj m = V
 have HE : Hid (V = (gJ m && tL m && m.store.aI.all (rE m) && qN m)) := by rw [← hV]; rfl
 clear hV
 obtain ⟨bM, bq, bZ, bU, cu, bV, dD, cZ, dG, dh, bO, bu, bP, bB, bQ, bC, cB, bW, dH, dw, bS, bD, eH, eD, fC, fq, rfl, gX, og, kQ, iE, oM, lC, iF, oN, lD, ji, pU, mM, iL, pV, mP, gP, oh, kR, gy, lq, jd, gQ, om, kS, iy, oO, lF, iM, pW, mQ, gT, oo, kT, pq, sD, qG, oz, vw, rX⟩ := eG.form hx
 unfold maxLen at kQ lC lD mM mP kR jd kS lF mQ kT qG rX
 have hcr := dK.mk_ (c := m.code) gX iE iF ji
 have hsr := dP.mk_ (c := m.store) iL gP gy gQ iy iM gT
 obtain ⟨a0, hW⟩ := eZ w 58 #[.slice bM m.aF.length bq, .slice bZ m.aK.length bU, .slice cu m.aL.length bV, .int .i64 m.dO, .slice dD m.bf.length cZ, .slice dG m.aR.length dh, .slice bO m.aG.length bu, .slice bP m.aM.length bB, .slice bQ m.aH.length bC, .string m.aU, .int .i64 m.aO, .slice cB m.aS.length bW, .slice dH m.bg.length dw, .slice bS m.aN.length bD, .bool m.aT, .int .i64 m.bX, .int .i64 m.bn, .int .i64 m.dA, .slice eH m.bY.length eD, .slice fC m.dQ.length fq, .int .i64 m.status, .int .i64 m.fault, .int .i64 m.line, .int .i64 m.bK, .int .i64 m.aP, .int .i64 m.aV, .string m.bL, .int .i64 m.aJ, .int .i64 m.aD]
 have HTX := lH htx
 clear htx
 go_enter Tryz.func20, Tryz.ntmps20
 go_upto_region 1 with fail
 dsimp only [List.append]
 generalize w.alloc (.cells #[Value.slice bM m.aF.length bq, .slice bZ m.aK.length bU, .slice cu m.aL.length bV, .int .i64 m.dO, .slice dD m.bf.length cZ, .slice dG m.aR.length dh, .slice bO m.aG.length bu, .slice bP m.aM.length bB, .slice bQ m.aH.length bC, .string m.aU, .int .i64 m.aO, .slice cB m.aS.length bW, .slice dH m.bg.length dw, .slice bS m.aN.length bD, .bool m.aT, .int .i64 m.bX, .int .i64 m.bn, .int .i64 m.dA, .slice eH m.bY.length eD, .slice fC m.dQ.length fq, .int .i64 m.status, .int .i64 m.fault, .int .i64 m.line, .int .i64 m.bK, .int .i64 m.aP, .int .i64 m.aV, .string m.bL, .int .i64 m.aJ, .int .i64 m.aD] 58) = W at *
 have ca := a0.cell
 have la := a0.lt
 cases bHC : validCode m.code with
 | false =>
   have HC := lH bHC
   have HO : Hid (V = false) := lH (by rw [HE.out, show gJ m = false by rw [gJ, HC.out]; rfl]; rfl)
   clear HE bHC
   go_wp2_with (first | (go_at_call 49; refine (qO m.code _ _ lo hi (hcr.below hW hhi) (nT hhi hW.size) (hst.below hW hst.2) HTX.out).mono ?_; rw [HC.out]; rintro e w1 ⟨rfl, hb1⟩; replace hW := hW.trans (hb1.mono hW.size); replace a0 := a0.later hb1; replace ca := a0.cell; replace la := a0.lt; (try replace qa := HQA _ hW); clear hb1) | fail)
   all_goals go_ret <;> exact ⟨ah (by first | rfl | exact HO.out.symm), (by first | exact hW | exact bN hW _ | exact aC hW)⟩
 | true =>
 have HC := lH bHC
 clear bHC
 cases bHS : sV m.store
 have HS := lH bHS
 have HO : Hid (V = false) := lH (by rw [HE.out, show gJ m = false by rw [gJ, HS.out]; simp]; rfl)
 clear HE bHS
 rotate_left
 have HS := lH bHS
 clear bHS
 by_cases n1 : ¬ m.store.fu.length = m.code.au.length
 have dn1 : ((m.aR.length : Int) != (m.aF.length : Int)) = true := by
  have e : ¬ (m.aR.length : Int) = (m.aF.length : Int) := fun e => n1 (by have h : m.aR.length = m.aF.length := (by omega); exact h)
  simpa using e
 have HO : Hid (V = false) := lH (by rw [HE.out, show gJ m = false by rw [gJ, dF n1]; simp]; rfl)
 clear HE n1
 rotate_left
 have Hn1 : Hid (m.store.fu.length = m.code.au.length) := lH (Classical.not_not.1 n1)
 have dn1 : ((m.aR.length : Int) != (m.aF.length : Int)) = false := by
  have e : (m.aR.length : Int) = (m.aF.length : Int) := by
   have h : m.aR.length = m.aF.length := Hn1.out
   omega
  simpa using e
 clear n1
 by_cases n2 : ¬ m.store.aA.length = m.code.aA.length
 have dn2 : ((m.aG.length : Int) != (m.aK.length : Int)) = true := by
  have e : ¬ (m.aG.length : Int) = (m.aK.length : Int) := fun e => n2 (by have h : m.aG.length = m.aK.length := (by omega); exact h)
  simpa using e
 have HO : Hid (V = false) := lH (by rw [HE.out, show gJ m = false by rw [gJ, dF n2]; simp]; rfl)
 clear HE n2
 rotate_left
 have Hn2 : Hid (m.store.aA.length = m.code.aA.length) := lH (Classical.not_not.1 n2)
 have dn2 : ((m.aG.length : Int) != (m.aK.length : Int)) = false := by
  have e : (m.aG.length : Int) = (m.aK.length : Int) := by
   have h : m.aG.length = m.aK.length := Hn2.out
   omega
  simpa using e
 clear n2
 by_cases n3 : ¬ m.store.aB.length = m.code.aB.length
 have dn3 : ((m.aH.length : Int) != (m.aL.length : Int)) = true := by
  have e : ¬ (m.aH.length : Int) = (m.aL.length : Int) := fun e => n3 (by have h : m.aH.length = m.aL.length := (by omega); exact h)
  simpa using e
 have HO : Hid (V = false) := lH (by rw [HE.out, show gJ m = false by rw [gJ, dF n3]; simp]; rfl)
 clear HE n3
 rotate_left
 have Hn3 : Hid (m.store.aB.length = m.code.aB.length) := lH (Classical.not_not.1 n3)
 have dn3 : ((m.aH.length : Int) != (m.aL.length : Int)) = false := by
  have e : (m.aH.length : Int) = (m.aL.length : Int) := by
   have h : m.aH.length = m.aL.length := Hn3.out
   omega
  simpa using e
 clear n3
 by_cases s0 : m.status < 0
 have ds0 : decide (m.status < 0) = true := by first | (simp; omega) | (simp; intro e; exact s0 (by exact_mod_cast e)) | simp [s0]
 have HO : Hid (V = false) := lH (by rw [HE.out, show gJ m = false by rw [gJ, dF (show ¬ 0 ≤ m.status by omega)]; simp]; rfl)
 clear HE s0
 rotate_left
 have ds0 : decide (m.status < 0) = false := by first | (simp; omega) | simp [s0]
 have Hs0 : Hid (0 ≤ m.status) := lH (by omega)
 clear s0
 by_cases s1 : 5 < m.status
 have ds1 : decide (5 < m.status) = true := by first | (simp; omega) | (simp; intro e; exact s1 (by exact_mod_cast e)) | simp [s1]
 have HO : Hid (V = false) := lH (by rw [HE.out, show gJ m = false by rw [gJ, dF (show ¬ m.status ≤ 5 by omega)]; simp]; rfl)
 clear HE s1
 rotate_left
 have ds1 : decide (5 < m.status) = false := by first | (simp; omega) | simp [s1]
 have Hs1 : Hid (m.status ≤ 5) := lH (by omega)
 clear s1
 by_cases l0 : m.line < 0
 have dl0 : decide (m.line < 0) = true := by first | (simp; omega) | (simp; intro e; exact l0 (by exact_mod_cast e)) | simp [l0]
 have HO : Hid (V = false) := lH (by rw [HE.out, show gJ m = false by rw [gJ, dF (show ¬ 0 ≤ m.line by omega)]; simp]; rfl)
 clear HE l0
 rotate_left
 have dl0 : decide (m.line < 0) = false := by first | (simp; omega) | simp [l0]
 have Hl0 : Hid (0 ≤ m.line) := lH (by omega)
 clear l0
 by_cases na : m.dQ.length = 0
 have dna : ((m.dQ.length : Int) == 0) = true := by simp; exact List.eq_nil_of_length_eq_zero na
 have HO : Hid (V = false) := lH (by rw [HE.out, show gJ m = false by rw [gJ, List.eq_nil_of_length_eq_zero na]; simp]; rfl)
 clear HE na
 rotate_left
 rotate_right 8
 iterate 8 focus
  go_wp2_with (first | (go_at_call 49; refine (qO m.code _ _ lo hi (hcr.below hW hhi) (nT hhi hW.size) (hst.below hW hst.2) HTX.out).mono ?_; rw [HC.out]; rintro e w1 ⟨rfl, hb1⟩; replace hW := hW.trans (hb1.mono hW.size); replace a0 := a0.later hb1; replace ca := a0.cell; replace la := a0.lt; (try replace qa := HQA _ hW); clear hb1) | (go_at_call 50; refine (lN m.store _ _ (hsr.below hW hhi) (nT hhi hW.size) (hst.below hW hst.2)).mono ?_; rw [HS.out]; rintro e w1 ⟨rfl, hb1⟩; replace hW := hW.trans (hb1.mono hW.size); replace a0 := a0.later hb1; replace ca := a0.cell; replace la := a0.lt; (try replace qa := HQA _ hW); clear hb1) | fail)
  all_goals go_ret <;> exact ⟨ah (by first | rfl | exact HO.out.symm), (by first | exact hW | exact bN hW _ | exact aC hW)⟩
 have dna : ((m.dQ.length : Int) == 0) = false := by simp; intro e; exact na (by rw [e]; rfl)
 have hpa : (0 : Int) < (m.dQ.length : Int) := by omega
 have hpb : 0 < m.dQ.length := by omega
 clear na
 obtain ⟨ac, hac⟩ : ∃ c, m.dQ[0]? = some c := ⟨_, gE (by omega)⟩
 obtain ⟨ga, oa, rfl, U3, QI, qa⟩ := oz.num hac
 simp only [Nat.add_zero] at qa
 have HQA : ∀ W1, Below w.heap.size w W1 → W1.cell? ⟨ga, oa, none⟩ = some (.int .i64 ac) := fun W1 hb => (hb.cell (p := ⟨ga, oa, none⟩) (nL QI hhi)).trans qa
 clear qa
 have qa := HQA _ hW
 have HA0 := lH (Jl hac)
 clear hac
 cases da0 : (ac != 0) with
 | true =>
   have HO : Hid (V = false) := lH (by rw [HE.out, show gJ m = false by rw [gJ, HA0.out, show (ac == 0) = false by simpa using da0]; simp]; rfl)
   clear HE
   go_wp2_with (first | (go_at_call 49; refine (qO m.code _ _ lo hi (hcr.below hW hhi) (nT hhi hW.size) (hst.below hW hst.2) HTX.out).mono ?_; rw [HC.out]; rintro e w1 ⟨rfl, hb1⟩; replace hW := hW.trans (hb1.mono hW.size); replace a0 := a0.later hb1; replace ca := a0.cell; replace la := a0.lt; (try replace qa := HQA _ hW); clear hb1) | (go_at_call 50; refine (lN m.store _ _ (hsr.below hW hhi) (nT hhi hW.size) (hst.below hW hst.2)).mono ?_; rw [HS.out]; rintro e w1 ⟨rfl, hb1⟩; replace hW := hW.trans (hb1.mono hW.size); replace a0 := a0.later hb1; replace ca := a0.cell; replace la := a0.lt; (try replace qa := HQA _ hW); clear hb1) | fail)
   all_goals go_ret <;> exact ⟨ah (by first | rfl | exact HO.out.symm), (by first | exact hW | exact bN hW _ | exact aC hW)⟩
 | false =>
 replace HA0 : Hid (decide (m.dQ.head? = some 0) = true) := by show _ = _; rw [HA0.out]; simpa using da0
 cases bHR : [m.result].all (pN m.store) with
 | false =>
   have HR := lH bHR
   have HO : Hid (V = false) := lH (by rw [HE.out, show gJ m = false by rw [gJ, show pN m.store m.result = false by simpa using HR.out, Bool.and_false]]; rfl)
   clear HE bHR
   go_wp2_with (first | (go_at_call 49; refine (qO m.code _ _ lo hi (hcr.below hW hhi) (nT hhi hW.size) (hst.below hW hst.2) HTX.out).mono ?_; rw [HC.out]; rintro e w1 ⟨rfl, hb1⟩; replace hW := hW.trans (hb1.mono hW.size); replace a0 := a0.later hb1; replace ca := a0.cell; replace la := a0.lt; (try replace qa := HQA _ hW); clear hb1) | (go_at_call 50; refine (lN m.store _ _ (hsr.below hW hhi) (nT hhi hW.size) (hst.below hW hst.2)).mono ?_; rw [HS.out]; rintro e w1 ⟨rfl, hb1⟩; replace hW := hW.trans (hb1.mono hW.size); replace a0 := a0.later hb1; replace ca := a0.cell; replace la := a0.lt; (try replace qa := HQA _ hW); clear hb1) | (go_at_call 51; refine (Bb m a0 hx hhi hW).mono ?_; rw [HR.out]; rintro e w1 ⟨rfl, hb1, hq1⟩; replace hW := hb1; replace a0 := hq1; replace ca := a0.cell; replace la := a0.lt; clear hb1 hq1) | fail)
   all_goals go_ret <;> exact ⟨ah (by first | rfl | exact HO.out.symm), (by first | exact hW | exact bN hW _ | exact aC hW)⟩
 | true =>
 have HR := lH bHR
 replace HE : Hid (V = (tL m && m.store.aI.all (rE m) && qN m)) := by show _ = _; rw [HE.out, show gJ m = true by rw [gJ, HC.out, HS.out, dT Hn1.out, dT Hn2.out, dT Hn3.out, dT Hs0.out, dT Hs1.out, dT Hl0.out, HA0.out, show pN m.store m.result = true by simpa using HR.out]; rfl, Bool.true_and]
 clear bHR
 go_wp2_with (first | (go_at_call 49; refine (qO m.code _ _ lo hi (hcr.below hW hhi) (nT hhi hW.size) (hst.below hW hst.2) HTX.out).mono ?_; rw [HC.out]; rintro e w1 ⟨rfl, hb1⟩; replace hW := hW.trans (hb1.mono hW.size); replace a0 := a0.later hb1; replace ca := a0.cell; replace la := a0.lt; (try replace qa := HQA _ hW); clear hb1) | (go_at_call 50; refine (lN m.store _ _ (hsr.below hW hhi) (nT hhi hW.size) (hst.below hW hst.2)).mono ?_; rw [HS.out]; rintro e w1 ⟨rfl, hb1⟩; replace hW := hW.trans (hb1.mono hW.size); replace a0 := a0.later hb1; replace ca := a0.cell; replace la := a0.lt; (try replace qa := HQA _ hW); clear hb1) | (go_at_call 51; refine (Bb m a0 hx hhi hW).mono ?_; rw [HR.out]; rintro e w1 ⟨rfl, hb1, hq1⟩; replace hW := hb1; replace a0 := hq1; replace ca := a0.cell; replace la := a0.lt; clear hb1 hq1) | fail)
 clear HC HR Hn1 Hn2 Hn3 Hs0 Hs1 Hl0 HA0 qa HQA da0 dna hcr hsr HTX
 obtain ⟨W2, rfl⟩ : ∃ X : World, X = w1 := ⟨_, rfl⟩
 go_loopw [89] (fun i wr => ∃ k : Nat, k ≤ m.dQ.length ∧ i = .int .i64 k ∧ Hid (∀ (j : Nat) (c : Int), j < k → m.dQ[j]? = some c → uR m j c = true) ∧ Below W2.heap.size W2 wr) (fun i _ => m.dQ.length - (intOf i).toNat)
 case atStart => exact ⟨0, nZ _, rfl, (fun j _ hj => absurd hj (by omega)), bR _ _⟩
 case round =>
  obtain ⟨k, hk, rfl, hgo, hb⟩ := hrel
  obtain ⟨wo, rfl⟩ := nW wr
  have hWo := hW.trans (hb.mono hW.size)
  have a1 := a0.later hb
  clear ca la
  have ca := a1.cell
  have la := a1.lt
  by_cases hlt : k < m.dQ.length
  ·skip
   obtain ⟨c, hc⟩ : ∃ c, m.dQ[k]? = some c := ⟨_, gE hlt⟩
   have hra := oz.below hWo hhi
   obtain ⟨g2, o2, hAA, hg1, hg2, q0⟩ := hra.num hc
   injection hAA with hAA
   injection hAA with e1 e2 _
   subst e1 e2
   have HN := lH (fun h => xZ (q := uR m) hc hgo.out h)
   have HF := lH (fun h => zY (m := m) hc h)
   clear hc hgo
   rcases dC (c < 0) with ⟨c0, d0⟩ | ⟨c0, d0⟩
   ·have HO : Hid (V = false) := lH (by rw [HE.out, HF.out (by unfold uR; rw [dF (show ¬ 0 ≤ c by omega)]; simp)]; simp)
    clear HE HN HF c0
    go_wp2_with fail
    all_goals go_ret <;> exact ⟨ah (by first | rfl | exact HO.out.symm), (by first | exact hWo | exact bN hWo _ | exact aC hWo)⟩
   rcases dC ((m.bY.length : Int) ≤ c) with ⟨c1, d1⟩ | ⟨c1, d1⟩
   ·have HO : Hid (V = false) := lH (by rw [HE.out, HF.out (by unfold uR; rw [dF (show ¬ c < (m.bY.length : Int) by omega)]; simp)]; simp)
    clear HE HN HF c1 c0
    go_wp2_with fail
    all_goals go_ret <;> exact ⟨ah (by first | rfl | exact HO.out.symm), (by first | exact hWo | exact bN hWo _ | exact aC hWo)⟩
   have Sl : (k : Int) ≤ (fq : Int) := by omega
   cases hk2 : (m.dQ.take k).contains c with
   | true =>
     have HK := lH hk2
     have HO : Hid (V = false) := lH (by rw [HE.out, HF.out (by unfold uR; rw [HK.out]; simp)]; simp)
     clear HE HN HF hk2 c0 c1
     as_aux_lemma =>
      go_wp2_with (first | (go_at_call 52; refine (Tryz.slices_Contains_int _ _ k _ m.dQ c _ (by omega) (by omega) (fun j hj => OL hra hj)).mono ?_; rw [HK.out]; rintro e w2 ⟨rfl, rfl⟩) | fail)
      go_ret
      exact ⟨ah HO.out.symm, (by first | exact hWo | exact bN hWo _ | exact aC hWo)⟩
   | false =>
     have HK := lH hk2
     have HN := lH (HN.out (by unfold uR; rw [HK.out, dT (show 0 ≤ c by omega), dT (show c < (m.bY.length : Int) by omega)]; rfl))
     clear HF hk2 c0 c1
     go_wp2_with (first | (go_at_call 52; refine (Tryz.slices_Contains_int _ _ k _ m.dQ c _ (by omega) (by omega) (fun j hj => OL hra hj)).mono ?_; rw [HK.out]; rintro e w2 ⟨rfl, rfl⟩) | fail)
     go_roundw
     case rel => exact ⟨k + 1, by omega, by go_num, HN, (by first | exact hb | exact bN hb _ | exact aC hb)⟩
     case measure => simp [intOf]; omega
  obtain rfl : k = m.dQ.length := by omega
  have HAC := lH (CJ hgo.out)
  replace HE : Hid (V = (m.store.aI.all (rE m) && qN m)) := by show _ = _; rw [HE.out, HAC.out]; simp
  clear HAC
  replace hW := hWo
  replace a0 := a1
  clear hlt hk hb a1 hWo hgo
  obtain ⟨W3, rfl⟩ : ∃ X : World, X = wo := ⟨_, rfl⟩
  go_wp2_with fail
  go_loopw [116] (fun i wr => ∃ k : Nat, k ≤ m.store.aI.length ∧ i = .int .i64 k ∧ Hid ((m.store.aI.take k).all (rE m) = true) ∧ Below W3.heap.size W3 wr) (fun i _ => m.store.aI.length - (intOf i).toNat)
  case atStart => exact ⟨0, nZ _, rfl, by simp [Hid], bR _ _⟩
  case round =>
   obtain ⟨k, hk, rfl, hgo, hb⟩ := hrel
   obtain ⟨wo, rfl⟩ := nW wr
   have hWo := hW.trans (hb.mono hW.size)
   have a1 := a0.later hb
   clear ca la
   have ca := a1.cell
   have la := a1.lt
   by_cases hlt : k < m.store.aI.length
   ·have hlq : m.store.aI.length ≤ 2 ^ 63 - 1 := nT lq jd
    obtain ⟨ob, hc⟩ : ∃ o, m.store.aI[k]? = some o := ⟨_, gE hlt⟩
    obtain ⟨g2, o2, Ai, ni, Ak, nk, hAA, hg1, hg2, hmem, hrep, p0, p1, p2, p3, p4⟩ := fV.at_ (gy.below hWo hhi) hc
    obtain rfl := hAA
    clear hmem hrep
    have HN := lH (fun h => fJ (q := rE m) hc hgo.out h)
    have HF := lH (fun h => lI (q := rE m) (mG hc) h)
    clear hc hgo
    have hba : Below W3.heap.size W3 (wo.alloc (.cells #[Value.int .i64 ob.kind, .int .i64 ob.tag, .int .i64 ob.ak, .slice Ai ob.aj.length ni, .slice Ak ob.aX.length nk] 97)) := hb.alloc hb.size _
    have hWa : Below w.heap.size w (wo.alloc (.cells #[Value.int .i64 ob.kind, .int .i64 ob.tag, .int .i64 ob.ak, .slice Ai ob.aj.length ni, .slice Ak ob.aX.length nk] 97)) := hWo.alloc hWo.size _
    cases d6 : (ob.kind == 6) with
    | false =>
      have HN := lH (HN.out (by rw [rE, show decide (ob.kind = 6) = false by simpa using d6]; rfl))
      clear HF
      go_wp2_with fail
      go_roundw
      case rel => exact ⟨k + 1, by omega, by go_num, HN, (by first | exact hba | exact bN hba _ | exact aC hba)⟩
      case measure => simp [intOf]; omega
    | true =>
    cases dt : decide ((m.bY.length : Int) ≤ ob.tag) with
    | false =>
      have HN := lH (HN.out (by rw [rE, dt, Bool.and_false]; rfl))
      clear HF
      go_wp2_with fail
      go_roundw
      case rel => exact ⟨k + 1, by omega, by go_num, HN, (by first | exact hba | exact bN hba _ | exact aC hba)⟩
      case measure => simp [intOf]; omega
    | true =>
      have HO : Hid (V = false) := lH (by rw [HE.out, HF.out (by rw [rE, dt, show decide (ob.kind = 6) = true by simpa using d6]; rfl)]; simp)
      clear HE HN HF
      go_wp2_with fail
      all_goals go_ret <;> exact ⟨ah (by first | rfl | exact HO.out.symm), (by first | exact hWa | exact bN hWa _ | exact aC hWa)⟩
   obtain rfl : k = m.store.aI.length := by omega
   rw [List.take_length] at hgo
   replace HE : Hid (V = (qN m)) := by show _ = _; rw [HE.out, hgo.out]; simp
   replace hW := hWo
   replace a0 := a1
   clear hlt hk hb a1 hWo hgo
   obtain ⟨W4, rfl⟩ : ∃ X : World, X = wo := ⟨_, rfl⟩
   go_wp2_with fail
   go_loopw [135] (fun i wr => ∃ k : Nat, k ≤ m.bY.length ∧ i = .int .i64 k ∧ Hid (∀ (j : Nat) (t : jS), j < k → m.bY[j]? = some t → zN m j t = true) ∧ Below W4.heap.size W4 wr) (fun i _ => m.bY.length - (intOf i).toNat)
   case atStart => exact ⟨0, nZ _, rfl, (fun j _ hj => absurd hj (by omega)), bR _ _⟩
   case round =>
    obtain ⟨k, hk, rfl, hgo, hb⟩ := hrel
    obtain ⟨wo, rfl⟩ := nW wr
    have hWo := hW.trans (hb.mono hW.size)
    have a1 := a0.later hb
    clear ca la
    have ca := a1.cell
    have la := a1.lt
    by_cases hlt : k < m.bY.length
    ·skip
     obtain ⟨t, hc⟩ : ∃ t, m.bY[k]? = some t := ⟨_, gE hlt⟩
     have HN := lH (fun h => xZ (q := zN m) hc hgo.out h)
     have HF := lH (fun h => CK (m := m) hc h)
     clear hgo
     go_wp2_with fail
     refine (Bp m k t _ (At.box a1 (hx.below hWo hhi) (nT hhi hWo.size)) hc (hst.below hWo hst.2) HS.out).mono ?_; rintro e w2 ⟨rfl, hb2⟩
     have hw2 := hb.trans (hb2.mono hb.size)
     clear hb2 hc
     cases hq : zN m k t with
     | true =>
       have HN := lH (HN.out hq)
       clear HF hq
       go_wp2_with fail
       go_roundw
       case rel => exact ⟨k + 1, by omega, by go_num, HN, hw2⟩
       case measure => simp [intOf]; omega
     | false =>
       have HO : Hid (V = false) := lH (by rw [HE.out, HF.out hq])
       clear HE HN HF hq
       go_wp2_with fail
       all_goals go_ret <;> exact ⟨ah (by first | rfl | exact HO.out.symm), hW.trans (hw2.mono hW.size)⟩
    have HO : Hid (V = true) := lH (by rw [HE.out, AZ (fun j t hj hx => hgo.out j t (by omega) hx)])
    clear HE hgo
    go_wp2_with fail
    all_goals go_ret <;> exact ⟨ah (by first | rfl | exact HO.out.symm), hWo⟩
theorem Kj : (Tryz.prog.info? 58).map (·.size) = some 29 := by kernel_rfl
theorem zK (m : eG) (x : Value) (w : World) {lo hi : Nat} (hx : fA w lo hi eG.ay x m) (hhi : hi ≤ w.heap.size) (hst : iw w) (htx : ∀ y ∈ m.code.av, y.text.size ≤ 1048576) :
 Calls Tryz.prog 7 #[x] w fun e w' => e = .returned (.int .i64 (countB m)) ∧ Below w.heap.size w w' := by
 obtain ⟨bM, bq, bZ, bU, cu, bV, dD, cZ, dG, dh, bO, bu, bP, bB, bQ, bC, cB, bW, dH, dw, bS, bD, eH, eD, fC, fq, rfl, gX, og, kQ, iE, oM, lC, iF, oN, lD, ji, pU, mM, iL, pV, mP, gP, oh, kR, gy, lq, jd, gQ, om, kS, iy, oO, lF, iM, pW, mQ, gT, oo, kT, pq, sD, qG, oz, vw, rX⟩ := eG.form hx
 obtain ⟨a0, hW⟩ := eZ w 58 #[.slice bM m.aF.length bq, .slice bZ m.aK.length bU, .slice cu m.aL.length bV, .int .i64 m.dO, .slice dD m.bf.length cZ, .slice dG m.aR.length dh, .slice bO m.aG.length bu, .slice bP m.aM.length bB, .slice bQ m.aH.length bC, .string m.aU, .int .i64 m.aO, .slice cB m.aS.length bW, .slice dH m.bg.length dw, .slice bS m.aN.length bD, .bool m.aT, .int .i64 m.bX, .int .i64 m.bn, .int .i64 m.dA, .slice eH m.bY.length eD, .slice fC m.dQ.length fq, .int .i64 m.status, .int .i64 m.fault, .int .i64 m.line, .int .i64 m.bK, .int .i64 m.aP, .int .i64 m.aV, .string m.bL, .int .i64 m.aJ, .int .i64 m.aD]
 have HTX := lH htx
 clear htx
 go_enter Tryz.func7, Tryz.ntmps7
 go_upto_region 1 with fail
 generalize w.alloc (.cells #[Value.slice bM m.aF.length bq, .slice bZ m.aK.length bU, .slice cu m.aL.length bV, .int .i64 m.dO, .slice dD m.bf.length cZ, .slice dG m.aR.length dh, .slice bO m.aG.length bu, .slice bP m.aM.length bB, .slice bQ m.aH.length bC, .string m.aU, .int .i64 m.aO, .slice cB m.aS.length bW, .slice dH m.bg.length dw, .slice bS m.aN.length bD, .bool m.aT, .int .i64 m.bX, .int .i64 m.bn, .int .i64 m.dA, .slice eH m.bY.length eD, .slice fC m.dQ.length fq, .int .i64 m.status, .int .i64 m.fault, .int .i64 m.line, .int .i64 m.bK, .int .i64 m.aP, .int .i64 m.aV, .string m.bL, .int .i64 m.aJ, .int .i64 m.aD] 58) = W at *
 have HL := lH (a0.rO (cs := [Value.slice bM m.aF.length bq, .slice bZ m.aK.length bU, .slice cu m.aL.length bV, .int .i64 m.dO, .slice dD m.bf.length cZ, .slice dG m.aR.length dh, .slice bO m.aG.length bu, .slice bP m.aM.length bB, .slice bQ m.aH.length bC, .string m.aU, .int .i64 m.aO, .slice cB m.aS.length bW, .slice dH m.bg.length dw, .slice bS m.aN.length bD, .bool m.aT, .int .i64 m.bX, .int .i64 m.bn, .int .i64 m.dA, .slice eH m.bY.length eD, .slice fC m.dQ.length fq, .int .i64 m.status, .int .i64 m.fault, .int .i64 m.line, .int .i64 m.bK, .int .i64 m.aP, .int .i64 m.aV, .string m.bL, .int .i64 m.aJ, .int .i64 m.aD]))
 have HS := lH Kj
 have la := a0.lt
 as_aux_lemma =>
 go_wp2_with (first | (refine wpList_load_mid rfl 58 (.tmp 1) rfl w.heap.size 0 rfl [Value.slice bM m.aF.length bq, .slice bZ m.aK.length bU, .slice cu m.aL.length bV, .int .i64 m.dO, .slice dD m.bf.length cZ, .slice dG m.aR.length dh, .slice bO m.aG.length bu, .slice bP m.aM.length bB, .slice bQ m.aH.length bC, .string m.aU, .int .i64 m.aO, .slice cB m.aS.length bW, .slice dH m.bg.length dw, .slice bS m.aN.length bD, .bool m.aT, .int .i64 m.bX, .int .i64 m.bn, .int .i64 m.dA, .slice eH m.bY.length eD, .slice fC m.dQ.length fq, .int .i64 m.status, .int .i64 m.fault, .int .i64 m.line, .int .i64 m.bK, .int .i64 m.aP, .int .i64 m.aV, .string m.bL, .int .i64 m.aJ, .int .i64 m.aD] _ HL.out Tryz.underlying58 rfl HS.out ?_) | fail)
 refine (yj m _ _ (hx.below hW hhi) (nT hhi hW.size) (hst.below hW hst.2) HTX.out).mono ?_; rintro e w1 ⟨rfl, hb1⟩
 replace a0 := a0.later hb1
 replace hW := hW.trans (hb1.mono hW.size)
 clear la hb1 HL HS
 have ca := a0.cell
 have la := a0.lt
 cases hm : Bj m with
 | false =>
   have HO := lH (Ey hm)
   clear hm
   as_aux_lemma =>
   go_wp2_with fail
   go_ret
   exact ⟨by rw [HO.out]; rfl, hW⟩
 | true =>
   have HO := lH (CG hm)
   clear hm
   as_aux_lemma =>
   go_wp2_with fail
   go_ret
   exact ⟨by rw [HO.out]; rfl, hW⟩
end Go.Proofs.YtoddlphekcihgaaGreatDoor
