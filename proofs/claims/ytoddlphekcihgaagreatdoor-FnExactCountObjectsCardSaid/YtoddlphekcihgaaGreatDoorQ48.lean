/- A Qa of a machine: is it Ml Of the reference. Is a machine QH Of the reference. FP of the reference. TA, QZ of the laws. An ar -/
import Derived.Test.YtoddlphekcihgaaGreatDoorQ01
import Derived.Test.YtoddlphekcihgaaGreatDoorQ47
import Derived.Test.YtoddlphekcihgaaGreatDoorQ31
import Derived.Test.YtoddlphekcihgaaGreatDoorQ33
import Derived.Test.YtoddlphekcihgaaGreatDoorQ41
import Derived.Deep.Slices
import Derived.Deep.Fields
set_option maxRecDepth 100000
set_option maxHeartbeats 40000000
set_option linter.unusedVariables false
set_option linter.unusedSimpArgs false
namespace Go.Proofs.YtoddlphekcihgaaGreatDoor
section
open Go.RowKit
theorem yD (n : Int) (l : List Int) (v : Value) (w : World) {lo hi : Nat} (hv : dz w lo hi 1 gW v l) :
 Calls Tryz.prog 38 #[v, .int .i64 n] w fun e w' => e = .returned (.bool (l.contains n)) ∧ Same w w' := by
 obtain ⟨A, cap, rfl, hc1, hc2⟩ := hv.shape
 unfold maxLen at hc2
 go_enter Tryz.func38, Tryz.ntmps38
 go_wp2_with fail
 go_loopw [5] (fun i wr => ∃ k : Nat, k ≤ l.length ∧ i = .int .i64 k ∧ Hid ((l.take k).contains n = false) ∧ Same w wr) (fun i _ => l.length - (intOf i).toNat)
 case atStart => exact ⟨0, nZ _, rfl, rfl, Same.refl _⟩
 case round =>
  obtain ⟨k, hk, rfl, hgo, hb⟩ := hrel
  obtain ⟨wo, rfl⟩ := nW wr
  by_cases hlt : k < l.length
  ·obtain ⟨c, hc⟩ : ∃ c, l[k]? = some c := ⟨_, gE hlt⟩
   obtain ⟨g', off', rfl, hg1, hg2, q0⟩ := (hv.same hb).num hc
   by_cases he : c = n
   ·have de : (c == n) = true := by simp [he]
    have HO : Hid (l.contains n = true) := by show _ = _; simp; exact he ▸ mG hc
    clear he hc hgo
    go_wp2_with fail
    go_ret
    exact ⟨ah HO.out.symm, hb⟩
   ·have de : (c == n) = false := by simp [he]
    have HN : Hid ((l.take (k + 1)).contains n = false) := by
     show _ = _
     have e := hgo.out
     simp at e ⊢
     rw [List.take_add_one, hc]
     simp
     exact ⟨e, fun h => he h.symm⟩
    clear he hc hgo
    go_wp2_with fail
    go_roundw
    case rel => exact ⟨k + 1, by omega, by go_num, HN, hb⟩
    case measure => simp [intOf]; omega
  ·obtain rfl : k = l.length := by omega
   rw [List.take_length] at hgo
   go_wp2_with fail
   go_ret
   exact ⟨ah hgo.out.symm, hb⟩
theorem Ba (m : eG) {w w1 : World} {g lo hi : Nat} {bM bZ cu dD dG bO bP bQ cB dH bS eH fC : Option Addr} {bq bU bV cZ dh bu bB bC bW dw bD eD fq : Nat} (a0 : Blk w1 g 58 #[Value.slice bM m.aF.length bq, .slice bZ m.aK.length bU, .slice cu m.aL.length bV, .int .i64 m.dO, .slice dD m.bf.length cZ, .slice dG m.aR.length dh, .slice bO m.aG.length bu, .slice bP m.aM.length bB, .slice bQ m.aH.length bC, .string m.aU, .int .i64 m.aO, .slice cB m.aS.length bW, .slice dH m.bg.length dw, .slice bS m.aN.length bD, .bool m.aT, .int .i64 m.bX, .int .i64 m.bn, .int .i64 m.dA, .slice eH m.bY.length eD, .slice fC m.dQ.length fq, .int .i64 m.status, .int .i64 m.fault, .int .i64 m.line, .int .i64 m.bK, .int .i64 m.aP, .int .i64 m.aV, .string m.bL, .int .i64 m.aJ, .int .i64 m.aD]) (hx : fA w lo hi eG.ay (.agg #[Value.slice bM m.aF.length bq, .slice bZ m.aK.length bU, .slice cu m.aL.length bV, .int .i64 m.dO, .slice dD m.bf.length cZ, .slice dG m.aR.length dh, .slice bO m.aG.length bu, .slice bP m.aM.length bB, .slice bQ m.aH.length bC, .string m.aU, .int .i64 m.aO, .slice cB m.aS.length bW, .slice dH m.bg.length dw, .slice bS m.aN.length bD, .bool m.aT, .int .i64 m.bX, .int .i64 m.bn, .int .i64 m.dA, .slice eH m.bY.length eD, .slice fC m.dQ.length fq, .int .i64 m.status, .int .i64 m.fault, .int .i64 m.line, .int .i64 m.bK, .int .i64 m.aP, .int .i64 m.aV, .string m.bL, .int .i64 m.aJ, .int .i64 m.aD]) m) (hhi : hi ≤ w.heap.size) (hW : Below w.heap.size w w1) :
 Calls Tryz.prog 37 #[.pointer (some ⟨g, 0, none⟩), .slice (some ⟨w1.heap.size, 0, none⟩) 1 1] (w1.alloc (.cells #[Value.int .i64 m.bK, .int .i64 m.aP, .int .i64 m.aV, .string m.bL, .int .i64 m.aJ, .int .i64 m.aD] 56)) fun e w' => e = .returned (.bool ([m.result].all (pN m.store))) ∧ Below w.heap.size w w' ∧ Blk w' g 58 #[Value.slice bM m.aF.length bq, .slice bZ m.aK.length bU, .slice cu m.aL.length bV, .int .i64 m.dO, .slice dD m.bf.length cZ, .slice dG m.aR.length dh, .slice bO m.aG.length bu, .slice bP m.aM.length bB, .slice bQ m.aH.length bC, .string m.aU, .int .i64 m.aO, .slice cB m.aS.length bW, .slice dH m.bg.length dw, .slice bS m.aN.length bD, .bool m.aT, .int .i64 m.bX, .int .i64 m.bn, .int .i64 m.dA, .slice eH m.bY.length eD, .slice fC m.dQ.length fq, .int .i64 m.status, .int .i64 m.fault, .int .i64 m.line, .int .i64 m.bK, .int .i64 m.aP, .int .i64 m.aV, .string m.bL, .int .i64 m.aJ, .int .i64 m.aD] := by
 have q0 := a0.alloc (.cells #[Value.int .i64 m.bK, .int .i64 m.aP, .int .i64 m.aV, .string m.bL, .int .i64 m.aJ, .int .i64 m.aD] 56)
 have hB := hW.alloc hW.size (.cells #[Value.int .i64 m.bK, .int .i64 m.aP, .int .i64 m.aV, .string m.bL, .int .i64 m.aJ, .int .i64 m.aD] 56)
 have q1 := At.box q0 (hx.below hB hhi) (nT hhi hB.size)
 have q2 := jV m [m.result] _ _ q1 (Blk.R8 (lo := 0) (hi := 0) (c := m.result) (Blk.new w1 56 _)) (by simp)
 refine q2.mono ?_
 rintro e w2 ⟨rfl, hb⟩
 exact ⟨rfl, hB.trans (hb.mono hB.size), q0.later hb⟩
theorem yh (m : eG) (x : Value) (w : World) {lo hi : Nat} (hx : fA w lo hi eG.ay x m) (hhi : hi ≤ w.heap.size) (htx : ∀ y ∈ m.code.av, y.text.size ≤ 1048576) :
 Calls Tryz.prog 14 #[x] w fun e w' => e = .returned (.bool (Bj m)) ∧ Below w.heap.size w w' := by
 generalize hV : Bj m = V
 have HE : Hid (V = (gJ m && tL m && m.store.aI.all (rE m) && qN m)) := by rw [← hV]; rfl
 have HNS : Hid (m.bY.length = 0 → V = false) := fun h => by rw [← hV]; exact DX h
 clear hV
 obtain ⟨bM, bq, bZ, bU, cu, bV, dD, cZ, dG, dh, bO, bu, bP, bB, bQ, bC, cB, bW, dH, dw, bS, bD, eH, eD, fC, fq, rfl, gX, og, kQ, iE, oM, lC, iF, oN, lD, ji, pU, mM, iL, pV, mP, gP, oh, kR, gy, lq, jd, gQ, om, kS, iy, oO, lF, iM, pW, mQ, gT, oo, kT, pq, sD, qG, oz, vw, rX⟩ := eG.form hx
 unfold maxLen at kQ lC lD mM mP kR jd kS lF mQ kT qG rX
 have hcr := dK.mk_ (c := m.code) gX iE iF ji
 have hsr := dP.mk_ (c := m.store) iL gP gy gQ iy iM gT
 obtain ⟨a0, hW⟩ := eZ w 58 #[.slice bM m.aF.length bq, .slice bZ m.aK.length bU, .slice cu m.aL.length bV, .int .i64 m.dO, .slice dD m.bf.length cZ, .slice dG m.aR.length dh, .slice bO m.aG.length bu, .slice bP m.aM.length bB, .slice bQ m.aH.length bC, .string m.aU, .int .i64 m.aO, .slice cB m.aS.length bW, .slice dH m.bg.length dw, .slice bS m.aN.length bD, .bool m.aT, .int .i64 m.bX, .int .i64 m.bn, .int .i64 m.dA, .slice eH m.bY.length eD, .slice fC m.dQ.length fq, .int .i64 m.status, .int .i64 m.fault, .int .i64 m.line, .int .i64 m.bK, .int .i64 m.aP, .int .i64 m.aV, .string m.bL, .int .i64 m.aJ, .int .i64 m.aD]
 have HTX := lH htx
 clear htx
 go_enter Tryz.func14, Tryz.ntmps14
 go_upto_region 1 with fail
 dsimp only [List.append]
 generalize w.alloc (.cells #[Value.slice bM m.aF.length bq, .slice bZ m.aK.length bU, .slice cu m.aL.length bV, .int .i64 m.dO, .slice dD m.bf.length cZ, .slice dG m.aR.length dh, .slice bO m.aG.length bu, .slice bP m.aM.length bB, .slice bQ m.aH.length bC, .string m.aU, .int .i64 m.aO, .slice cB m.aS.length bW, .slice dH m.bg.length dw, .slice bS m.aN.length bD, .bool m.aT, .int .i64 m.bX, .int .i64 m.bn, .int .i64 m.dA, .slice eH m.bY.length eD, .slice fC m.dQ.length fq, .int .i64 m.status, .int .i64 m.fault, .int .i64 m.line, .int .i64 m.bK, .int .i64 m.aP, .int .i64 m.aV, .string m.bL, .int .i64 m.aJ, .int .i64 m.aD] 58) = W at *
 have ca := a0.cell
 have la := a0.lt
 cases bHC : validCode m.code with
 | false =>
   have HC := lH bHC
   have HO : Hid (V = false) := lH (by rw [HE.out, show gJ m = false by rw [gJ, HC.out]; rfl]; rfl)
   clear HE bHC
   go_wp2_with (first | (go_at_call 34; refine (mV m.code _ _ lo hi (hcr.below hW hhi) (nT hhi hW.size) HTX.out).mono ?_; rw [HC.out]; rintro e w1 ⟨rfl, hb1⟩; replace hW := hW.trans (hb1.mono hW.size); replace a0 := a0.later hb1; replace ca := a0.cell; replace la := a0.lt; (try replace qa := HQA _ hW); clear hb1) | fail)
   all_goals go_ret <;> exact ⟨ah (by first | rfl | exact HO.out.symm), (by first | exact hW | exact bN hW _ | exact aC hW)⟩
 | true =>
 have HC := lH bHC
 clear bHC
 cases bHS : sV m.store
 have HS := lH bHS
 have HO : Hid (V = false) := lH (by rw [HE.out, show gJ m = false by rw [gJ, HS.out]; simp]; rfl)
 clear HE bHS
 rotate_left
 have HS := lH bHS
 clear bHS
 by_cases n1 : ¬ m.store.fu.length = m.code.au.length
 have dn1 : ((m.aR.length : Int) != (m.aF.length : Int)) = true := by
  have e : ¬ (m.aR.length : Int) = (m.aF.length : Int) := fun e => n1 (by have h : m.aR.length = m.aF.length := (by omega); exact h)
  simpa using e
 have HO : Hid (V = false) := lH (by rw [HE.out, show gJ m = false by rw [gJ, dF n1]; simp]; rfl)
 clear HE n1
 rotate_left
 have Hn1 : Hid (m.store.fu.length = m.code.au.length) := lH (Classical.not_not.1 n1)
 have dn1 : ((m.aR.length : Int) != (m.aF.length : Int)) = false := by
  have e : (m.aR.length : Int) = (m.aF.length : Int) := by
   have h : m.aR.length = m.aF.length := Hn1.out
   omega
  simpa using e
 clear n1
 by_cases n2 : ¬ m.store.aA.length = m.code.aA.length
 have dn2 : ((m.aG.length : Int) != (m.aK.length : Int)) = true := by
  have e : ¬ (m.aG.length : Int) = (m.aK.length : Int) := fun e => n2 (by have h : m.aG.length = m.aK.length := (by omega); exact h)
  simpa using e
 have HO : Hid (V = false) := lH (by rw [HE.out, show gJ m = false by rw [gJ, dF n2]; simp]; rfl)
 clear HE n2
 rotate_left
 have Hn2 : Hid (m.store.aA.length = m.code.aA.length) := lH (Classical.not_not.1 n2)
 have dn2 : ((m.aG.length : Int) != (m.aK.length : Int)) = false := by
  have e : (m.aG.length : Int) = (m.aK.length : Int) := by
   have h : m.aG.length = m.aK.length := Hn2.out
   omega
  simpa using e
 clear n2
 by_cases n3 : ¬ m.store.aB.length = m.code.aB.length
 have dn3 : ((m.aH.length : Int) != (m.aL.length : Int)) = true := by
  have e : ¬ (m.aH.length : Int) = (m.aL.length : Int) := fun e => n3 (by have h : m.aH.length = m.aL.length := (by omega); exact h)
  simpa using e
 have HO : Hid (V = false) := lH (by rw [HE.out, show gJ m = false by rw [gJ, dF n3]; simp]; rfl)
 clear HE n3
 rotate_left
 rotate_right 4
 iterate 4 focus
  go_wp2_with (first | (go_at_call 34; refine (mV m.code _ _ lo hi (hcr.below hW hhi) (nT hhi hW.size) HTX.out).mono ?_; rw [HC.out]; rintro e w1 ⟨rfl, hb1⟩; replace hW := hW.trans (hb1.mono hW.size); replace a0 := a0.later hb1; replace ca := a0.cell; replace la := a0.lt; (try replace qa := HQA _ hW); clear hb1) | (go_at_call 35; refine (mZ m.store _ _ (hsr.below hW hhi) (nT hhi hW.size)).mono ?_; rw [HS.out]; rintro e w1 ⟨rfl, hb1⟩; replace hW := hW.trans (hb1.mono hW.size); replace a0 := a0.later hb1; replace ca := a0.cell; replace la := a0.lt; (try replace qa := HQA _ hW); clear hb1) | fail)
  all_goals go_ret <;> exact ⟨ah (by first | rfl | exact HO.out.symm), (by first | exact hW | exact bN hW _ | exact aC hW)⟩
 have Hn3 : Hid (m.store.aB.length = m.code.aB.length) := lH (Classical.not_not.1 n3)
 have dn3 : ((m.aH.length : Int) != (m.aL.length : Int)) = false := by
  have e : (m.aH.length : Int) = (m.aL.length : Int) := by
   have h : m.aH.length = m.aL.length := Hn3.out
   omega
  simpa using e
 clear n3
 cases bHI : inB m.status 0 5 with
 | false =>
   have HI := lH bHI
   have HO : Hid (V = false) := by
    show _ = _
    rw [HE.out]
    have e : (decide (0 ≤ m.status) && decide (m.status ≤ 5)) = false := HI.out
    have : gJ m = false := by
     cases hm : gJ m with
     | false => rfl
     | true => simp [gJ] at hm; simp at e; omega
    rw [this]; rfl
   clear HE bHI
   go_wp2_with (first | (go_at_call 34; refine (mV m.code _ _ lo hi (hcr.below hW hhi) (nT hhi hW.size) HTX.out).mono ?_; rw [HC.out]; rintro e w1 ⟨rfl, hb1⟩; replace hW := hW.trans (hb1.mono hW.size); replace a0 := a0.later hb1; replace ca := a0.cell; replace la := a0.lt; (try replace qa := HQA _ hW); clear hb1) | (go_at_call 35; refine (mZ m.store _ _ (hsr.below hW hhi) (nT hhi hW.size)).mono ?_; rw [HS.out]; rintro e w1 ⟨rfl, hb1⟩; replace hW := hW.trans (hb1.mono hW.size); replace a0 := a0.later hb1; replace ca := a0.cell; replace la := a0.lt; (try replace qa := HQA _ hW); clear hb1) | (go_at_call 36; refine (bJ m.status 0 5 _).mono ?_; rw [HI.out]; rintro e w1 ⟨rfl, rfl⟩) | fail)
   all_goals go_ret <;> exact ⟨ah (by first | rfl | exact HO.out.symm), (by first | exact hW | exact bN hW _ | exact aC hW)⟩
 | true =>
 have HI := lH bHI
 have zs : 0 ≤ m.status ∧ m.status ≤ 5 := by simpa [inB] using bHI
 have Hs0 := lH zs.1
 have Hs1 := lH zs.2
 clear bHI zs
 by_cases ns : m.bY.length = 0
 ·have dns : ((m.bY.length : Int) == 0) = true := by simp [ns]
  have HO : Hid (V = false) := by show _ = _; exact HNS.out ns
  clear HE ns HNS
  go_wp2_with (first | (go_at_call 34; refine (mV m.code _ _ lo hi (hcr.below hW hhi) (nT hhi hW.size) HTX.out).mono ?_; rw [HC.out]; rintro e w1 ⟨rfl, hb1⟩; replace hW := hW.trans (hb1.mono hW.size); replace a0 := a0.later hb1; replace ca := a0.cell; replace la := a0.lt; (try replace qa := HQA _ hW); clear hb1) | (go_at_call 35; refine (mZ m.store _ _ (hsr.below hW hhi) (nT hhi hW.size)).mono ?_; rw [HS.out]; rintro e w1 ⟨rfl, hb1⟩; replace hW := hW.trans (hb1.mono hW.size); replace a0 := a0.later hb1; replace ca := a0.cell; replace la := a0.lt; (try replace qa := HQA _ hW); clear hb1) | (go_at_call 36; refine (bJ m.status 0 5 _).mono ?_; rw [HI.out]; rintro e w1 ⟨rfl, rfl⟩) | fail)
  all_goals go_ret <;> exact ⟨ah (by first | rfl | exact HO.out.symm), (by first | exact hW | exact bN hW _ | exact aC hW)⟩
 have dns : ((m.bY.length : Int) == 0) = false := by simp; intro e; exact ns (by rw [e]; rfl)
 clear ns HNS
 by_cases na : m.dQ.length = 0
 ·have dna : ((m.dQ.length : Int) == 0) = true := by simp; exact List.eq_nil_of_length_eq_zero na
  have HO : Hid (V = false) := lH (by rw [HE.out, show gJ m = false by rw [gJ, List.eq_nil_of_length_eq_zero na]; simp]; rfl)
  clear HE na
  go_wp2_with (first | (go_at_call 34; refine (mV m.code _ _ lo hi (hcr.below hW hhi) (nT hhi hW.size) HTX.out).mono ?_; rw [HC.out]; rintro e w1 ⟨rfl, hb1⟩; replace hW := hW.trans (hb1.mono hW.size); replace a0 := a0.later hb1; replace ca := a0.cell; replace la := a0.lt; (try replace qa := HQA _ hW); clear hb1) | (go_at_call 35; refine (mZ m.store _ _ (hsr.below hW hhi) (nT hhi hW.size)).mono ?_; rw [HS.out]; rintro e w1 ⟨rfl, hb1⟩; replace hW := hW.trans (hb1.mono hW.size); replace a0 := a0.later hb1; replace ca := a0.cell; replace la := a0.lt; (try replace qa := HQA _ hW); clear hb1) | (go_at_call 36; refine (bJ m.status 0 5 _).mono ?_; rw [HI.out]; rintro e w1 ⟨rfl, rfl⟩) | fail)
  all_goals go_ret <;> exact ⟨ah (by first | rfl | exact HO.out.symm), (by first | exact hW | exact bN hW _ | exact aC hW)⟩
 have dna : ((m.dQ.length : Int) == 0) = false := by simp; intro e; exact na (by rw [e]; rfl)
 have hpa : (0 : Int) < (m.dQ.length : Int) := by omega
 have hpb : 0 < m.dQ.length := by omega
 clear na
 obtain ⟨ac, hac⟩ : ∃ c, m.dQ[0]? = some c := ⟨_, gE (by omega)⟩
 obtain ⟨ga, oa, rfl, U3, QI, qa⟩ := oz.num hac
 simp only [Nat.add_zero] at qa
 have HQA : ∀ W1, Below w.heap.size w W1 → W1.cell? ⟨ga, oa, none⟩ = some (.int .i64 ac) := fun W1 hb => (hb.cell (p := ⟨ga, oa, none⟩) (nL QI hhi)).trans qa
 clear qa
 have qa := HQA _ hW
 have HA0 := lH (Jl hac)
 clear hac
 cases da0 : (ac != 0) with
 | true =>
   have HO : Hid (V = false) := lH (by rw [HE.out, show gJ m = false by rw [gJ, HA0.out, show (ac == 0) = false by simpa using da0]; simp]; rfl)
   clear HE
   go_wp2_with (first | (go_at_call 34; refine (mV m.code _ _ lo hi (hcr.below hW hhi) (nT hhi hW.size) HTX.out).mono ?_; rw [HC.out]; rintro e w1 ⟨rfl, hb1⟩; replace hW := hW.trans (hb1.mono hW.size); replace a0 := a0.later hb1; replace ca := a0.cell; replace la := a0.lt; (try replace qa := HQA _ hW); clear hb1) | (go_at_call 35; refine (mZ m.store _ _ (hsr.below hW hhi) (nT hhi hW.size)).mono ?_; rw [HS.out]; rintro e w1 ⟨rfl, hb1⟩; replace hW := hW.trans (hb1.mono hW.size); replace a0 := a0.later hb1; replace ca := a0.cell; replace la := a0.lt; (try replace qa := HQA _ hW); clear hb1) | (go_at_call 36; refine (bJ m.status 0 5 _).mono ?_; rw [HI.out]; rintro e w1 ⟨rfl, rfl⟩) | fail)
   all_goals go_ret <;> exact ⟨ah (by first | rfl | exact HO.out.symm), (by first | exact hW | exact bN hW _ | exact aC hW)⟩
 | false =>
 replace HA0 : Hid (decide (m.dQ.head? = some 0) = true) := by show _ = _; rw [HA0.out]; simpa using da0
 by_cases l0 : m.line < 0
 ·have dl0 : decide (m.line < 0) = true := by first | (simp; omega) | (simp; intro e; exact l0 (by exact_mod_cast e)) | simp [l0]
  have HO : Hid (V = false) := lH (by rw [HE.out, show gJ m = false by rw [gJ, dF (show ¬ 0 ≤ m.line by omega)]; simp]; rfl)
  clear HE l0
  go_wp2_with (first | (go_at_call 34; refine (mV m.code _ _ lo hi (hcr.below hW hhi) (nT hhi hW.size) HTX.out).mono ?_; rw [HC.out]; rintro e w1 ⟨rfl, hb1⟩; replace hW := hW.trans (hb1.mono hW.size); replace a0 := a0.later hb1; replace ca := a0.cell; replace la := a0.lt; (try replace qa := HQA _ hW); clear hb1) | (go_at_call 35; refine (mZ m.store _ _ (hsr.below hW hhi) (nT hhi hW.size)).mono ?_; rw [HS.out]; rintro e w1 ⟨rfl, hb1⟩; replace hW := hW.trans (hb1.mono hW.size); replace a0 := a0.later hb1; replace ca := a0.cell; replace la := a0.lt; (try replace qa := HQA _ hW); clear hb1) | (go_at_call 36; refine (bJ m.status 0 5 _).mono ?_; rw [HI.out]; rintro e w1 ⟨rfl, rfl⟩) | fail)
  all_goals go_ret <;> exact ⟨ah (by first | rfl | exact HO.out.symm), (by first | exact hW | exact bN hW _ | exact aC hW)⟩
 have dl0 : decide (m.line < 0) = false := by first | (simp; omega) | simp [l0]
 have Hl0 : Hid (0 ≤ m.line) := lH (by omega)
 clear l0
 cases bHR : [m.result].all (pN m.store) with
 | false =>
   have HR := lH bHR
   have HO : Hid (V = false) := lH (by rw [HE.out, show gJ m = false by rw [gJ, show pN m.store m.result = false by simpa using HR.out, Bool.and_false]]; rfl)
   clear HE bHR
   go_wp2_with (first | (go_at_call 34; refine (mV m.code _ _ lo hi (hcr.below hW hhi) (nT hhi hW.size) HTX.out).mono ?_; rw [HC.out]; rintro e w1 ⟨rfl, hb1⟩; replace hW := hW.trans (hb1.mono hW.size); replace a0 := a0.later hb1; replace ca := a0.cell; replace la := a0.lt; (try replace qa := HQA _ hW); clear hb1) | (go_at_call 35; refine (mZ m.store _ _ (hsr.below hW hhi) (nT hhi hW.size)).mono ?_; rw [HS.out]; rintro e w1 ⟨rfl, hb1⟩; replace hW := hW.trans (hb1.mono hW.size); replace a0 := a0.later hb1; replace ca := a0.cell; replace la := a0.lt; (try replace qa := HQA _ hW); clear hb1) | (go_at_call 36; refine (bJ m.status 0 5 _).mono ?_; rw [HI.out]; rintro e w1 ⟨rfl, rfl⟩) | (go_at_call 37; refine (Ba m a0 hx hhi hW).mono ?_; rw [HR.out]; rintro e w1 ⟨rfl, hb1, hq1⟩; replace hW := hb1; replace a0 := hq1; replace ca := a0.cell; replace la := a0.lt; clear hb1 hq1) | fail)
   all_goals go_ret <;> exact ⟨ah (by first | rfl | exact HO.out.symm), (by first | exact hW | exact bN hW _ | exact aC hW)⟩
 | true =>
 have HR := lH bHR
 replace HE : Hid (V = (tL m && m.store.aI.all (rE m) && qN m)) := by show _ = _; rw [HE.out, show gJ m = true by rw [gJ, HC.out, HS.out, dT Hn1.out, dT Hn2.out, dT Hn3.out, dT Hs0.out, dT Hs1.out, dT Hl0.out, HA0.out, show pN m.store m.result = true by simpa using HR.out]; rfl, Bool.true_and]
 clear bHR
 go_wp2_with (first | (go_at_call 34; refine (mV m.code _ _ lo hi (hcr.below hW hhi) (nT hhi hW.size) HTX.out).mono ?_; rw [HC.out]; rintro e w1 ⟨rfl, hb1⟩; replace hW := hW.trans (hb1.mono hW.size); replace a0 := a0.later hb1; replace ca := a0.cell; replace la := a0.lt; (try replace qa := HQA _ hW); clear hb1) | (go_at_call 35; refine (mZ m.store _ _ (hsr.below hW hhi) (nT hhi hW.size)).mono ?_; rw [HS.out]; rintro e w1 ⟨rfl, hb1⟩; replace hW := hW.trans (hb1.mono hW.size); replace a0 := a0.later hb1; replace ca := a0.cell; replace la := a0.lt; (try replace qa := HQA _ hW); clear hb1) | (go_at_call 36; refine (bJ m.status 0 5 _).mono ?_; rw [HI.out]; rintro e w1 ⟨rfl, rfl⟩) | (go_at_call 37; refine (Ba m a0 hx hhi hW).mono ?_; rw [HR.out]; rintro e w1 ⟨rfl, hb1, hq1⟩; replace hW := hb1; replace a0 := hq1; replace ca := a0.cell; replace la := a0.lt; clear hb1 hq1) | fail)
 clear HC HR Hn1 Hn2 Hn3 Hs0 Hs1 Hl0 HA0 qa HQA da0 dna hcr hsr HTX
 obtain ⟨W2, rfl⟩ : ∃ X : World, X = w1 := ⟨_, rfl⟩
 go_loopw [3] (fun i wr => ∃ k : Nat, k ≤ m.store.aI.length ∧ i = .int .i64 k ∧ Hid ((m.store.aI.take k).all (rE m) = true) ∧ Below W2.heap.size W2 wr) (fun i _ => m.store.aI.length - (intOf i).toNat)
 case atStart => exact ⟨0, nZ _, rfl, by simp [Hid], bR _ _⟩
 case round =>
  obtain ⟨k, hk, rfl, hgo, hb⟩ := hrel
  obtain ⟨wo, rfl⟩ := nW wr
  have hWo := hW.trans (hb.mono hW.size)
  have a1 := a0.later hb
  clear ca la
  have ca := a1.cell
  have la := a1.lt
  by_cases hlt : k < m.store.aI.length
  ·have hlq : m.store.aI.length ≤ 2 ^ 63 - 1 := nT lq jd
   obtain ⟨ob, hc⟩ : ∃ o, m.store.aI[k]? = some o := ⟨_, gE hlt⟩
   obtain ⟨g2, o2, Ai, ni, Ak, nk, hAA, hg1, hg2, hmem, hrep, p0, p1, p2, p3, p4⟩ := fV.at_ (gy.below hWo hhi) hc
   obtain rfl := hAA
   clear hmem hrep
   have HN := lH (fun h => fJ (q := rE m) hc hgo.out h)
   have HF := lH (fun h => lI (q := rE m) (mG hc) h)
   clear hc hgo
   have hba := hb
   have hWa := hWo
   have hka : (k : Int) < (m.store.aI.length : Int) := by omega
   go_upto_region 6 with fail
   cases d6 : (ob.kind == 6) with
   | false =>
     have HN := lH (HN.out (by rw [rE, show decide (ob.kind = 6) = false by simpa using d6]; rfl))
     clear HF
     go_quiet (fail)
     go_wp2_with fail
     go_roundw
     case rel => exact ⟨k + 1, by omega, by go_num, HN, (by first | exact hba | exact bN hba _ | exact aC hba)⟩
     case measure => simp [intOf]; omega
   | true =>
   cases dt : decide ((m.bY.length : Int) ≤ ob.tag) with
   | false =>
     have HN := lH (HN.out (by rw [rE, dt, Bool.and_false]; rfl))
     clear HF
     go_quiet (fail)
     go_wp2_with fail
     go_roundw
     case rel => exact ⟨k + 1, by omega, by go_num, HN, (by first | exact hba | exact bN hba _ | exact aC hba)⟩
     case measure => simp [intOf]; omega
   | true =>
     have HO : Hid (V = false) := lH (by rw [HE.out, HF.out (by rw [rE, dt, show decide (ob.kind = 6) = true by simpa using d6]; rfl)]; simp)
     clear HE HN HF
     go_quiet (fail)
     go_wp2_with fail
     all_goals go_ret <;> exact ⟨ah (by first | rfl | exact HO.out.symm), (by first | exact hWa | exact bN hWa _ | exact aC hWa)⟩
  obtain rfl : k = m.store.aI.length := by omega
  rw [List.take_length] at hgo
  replace HE : Hid (V = (tL m && qN m)) := by show _ = _; rw [HE.out, hgo.out]; simp
  replace hW := hWo
  replace a0 := a1
  clear hlt hk hb a1 hWo hgo
  obtain ⟨W3, rfl⟩ : ∃ X : World, X = wo := ⟨_, rfl⟩
  go_wp2_with fail
  go_loopw [4] (fun i wr => ∃ k : Nat, k ≤ m.dQ.length ∧ i = .int .i64 k ∧ Hid (∀ (j : Nat) (c : Int), j < k → m.dQ[j]? = some c → uR m j c = true) ∧ Below W3.heap.size W3 wr) (fun i _ => m.dQ.length - (intOf i).toNat)
  case atStart => exact ⟨0, nZ _, rfl, (fun j _ hj => absurd hj (by omega)), bR _ _⟩
  case round =>
   obtain ⟨k, hk, rfl, hgo, hb⟩ := hrel
   obtain ⟨wo, rfl⟩ := nW wr
   have hWo := hW.trans (hb.mono hW.size)
   have a1 := a0.later hb
   clear ca la
   have ca := a1.cell
   have la := a1.lt
   by_cases hlt : k < m.dQ.length
   ·skip
    obtain ⟨c, hc⟩ : ∃ c, m.dQ[k]? = some c := ⟨_, gE hlt⟩
    have hra := oz.below hWo hhi
    obtain ⟨g2, o2, hAA, hg1, hg2, q0⟩ := hra.num hc
    injection hAA with hAA
    injection hAA with e1 e2 _
    subst e1 e2
    have HN := lH (fun h => xZ (q := uR m) hc hgo.out h)
    have HF := lH (fun h => zY (m := m) hc h)
    clear hc hgo
    have hwl : IntKind.i64.wrap ((m.bY.length : Int) - 1) = (m.bY.length : Int) - 1 := IntWalk.i64_in _ (by omega)
    have kcb := qC (B := wo.heap.size) a1 la
    have kq0 := aW (B := wo.heap.size) q0 (nL hg2 (nT hhi hWo.size))
    have hka : (k : Int) < (m.dQ.length : Int) := by omega
    have hkb : (k : Int) ≤ (fq : Int) := by omega
    go_upto_region 11 with fail
    cases hq : inB c 0 ((m.bY.length : Int) - 1) with
    | false =>
      have HQ := lH hq
      have HO : Hid (V = false) := lH (by rw [HE.out, HF.out (by unfold uR; simp [inB] at hq; by_cases h0 : 0 ≤ c; (rw [dF (show ¬ c < (m.bY.length : Int) by omega)]; simp); (rw [dF h0]; simp))]; simp)
      clear HE HN HF hq
      refine fI (B := wo.heap.size) (by kernel_rfl) (by kernel_rfl) ?_
      repeat (go_big_quiet_step (first | (go_at_call 36; exact dB ((bJ c 0 ((m.bY.length : Int) - 1) _).mono fun _ _ ⟨a, b⟩ => ⟨a.trans (by rw [HQ.out]), b⟩)) | fail))
      refine wpQuiet_nil ?_
      intro w' hw'
      obtain ⟨v, rfl⟩ := hw'
      go_wp2_with fail
      all_goals go_ret <;> exact ⟨ah (by first | rfl | exact HO.out.symm), (Kept.of hWo hWo.size v)⟩
    | true =>
    have HQ := lH hq
    simp [inB] at hq
    obtain ⟨z0, z1⟩ := hq
    cases hk2 : (m.dQ.take k).contains c with
    | true =>
      have HK := lH hk2
      have HO : Hid (V = false) := lH (by rw [HE.out, HF.out (by unfold uR; rw [HK.out]; simp)]; simp)
      clear HE HN HF hk2 z0 z1
      refine fI (B := wo.heap.size) (by kernel_rfl) (by kernel_rfl) ?_
      repeat (go_big_quiet_step (first | (go_at_call 36; exact dB ((bJ c 0 ((m.bY.length : Int) - 1) _).mono fun _ _ ⟨a, b⟩ => ⟨a.trans (by rw [HQ.out]), b⟩)) | (go_at_call 38; exact fB (nR _) ((yD c (m.dQ.take k) _ _ (dz.take (f := gW) (k := 1) (l := m.dQ) (fun _ => rfl) (oz.below (Kept.of hWo hWo.size _) hhi) (j := k) hk)).mono fun _ _ ⟨a, b⟩ => ⟨a.trans (by rw [HK.out]), b.below _⟩)) | fail))
      refine wpQuiet_nil ?_
      intro w' hw'
      obtain ⟨v, rfl⟩ := hw'
      go_wp2_with fail
      all_goals go_ret <;> exact ⟨ah (by first | rfl | exact HO.out.symm), (Kept.of hWo hWo.size v)⟩
    | false =>
      have HK := lH hk2
      have HN := lH (HN.out (by unfold uR; rw [HK.out, dT (show 0 ≤ c by omega), dT (show c < (m.bY.length : Int) by omega)]; rfl))
      clear HF hk2 z0 z1
      refine fI (B := wo.heap.size) (by kernel_rfl) (by kernel_rfl) ?_
      repeat (go_big_quiet_step (first | (go_at_call 36; exact dB ((bJ c 0 ((m.bY.length : Int) - 1) _).mono fun _ _ ⟨a, b⟩ => ⟨a.trans (by rw [HQ.out]), b⟩)) | (go_at_call 38; exact fB (nR _) ((yD c (m.dQ.take k) _ _ (dz.take (f := gW) (k := 1) (l := m.dQ) (fun _ => rfl) (oz.below (Kept.of hWo hWo.size _) hhi) (j := k) hk)).mono fun _ _ ⟨a, b⟩ => ⟨a.trans (by rw [HK.out]), b.below _⟩)) | fail))
      refine wpQuiet_nil ?_
      intro w' hw'
      obtain ⟨v, rfl⟩ := hw'
      go_wp2_with fail
      go_roundw
      case rel => exact ⟨k + 1, by omega, by go_num, HN, (hb.trans (v.below.mono hb.size))⟩
      case measure => simp [intOf]; omega
   obtain rfl : k = m.dQ.length := by omega
   have HAC := lH (CJ hgo.out)
   replace HE : Hid (V = (qN m)) := by show _ = _; rw [HE.out, HAC.out]; simp
   clear HAC
   replace hW := hWo
   replace a0 := a1
   clear hlt hk hb a1 hWo hgo
   obtain ⟨W4, rfl⟩ : ∃ X : World, X = wo := ⟨_, rfl⟩
   go_wp2_with fail
   go_loopw [5] (fun i wr => ∃ k : Nat, k ≤ m.bY.length ∧ i = .int .i64 k ∧ Hid (∀ (j : Nat) (t : jS), j < k → m.bY[j]? = some t → zN m j t = true) ∧ Below W4.heap.size W4 wr) (fun i _ => m.bY.length - (intOf i).toNat)
   case atStart => exact ⟨0, nZ _, rfl, (fun j _ hj => absurd hj (by omega)), bR _ _⟩
   case round =>
    obtain ⟨k, hk, rfl, hgo, hb⟩ := hrel
    obtain ⟨wo, rfl⟩ := nW wr
    have hWo := hW.trans (hb.mono hW.size)
    have a1 := a0.later hb
    clear ca la
    have ca := a1.cell
    have la := a1.lt
    by_cases hlt : k < m.bY.length
    ·skip
     obtain ⟨t, hc⟩ : ∃ t, m.bY[k]? = some t := ⟨_, gE hlt⟩
     have HN := lH (fun h => xZ (q := zN m) hc hgo.out h)
     have HF := lH (fun h => CK (m := m) hc h)
     clear hgo
     go_wp2_with fail
     refine (CX m k t _ (At.box a1 (hx.below hWo hhi) (nT hhi hWo.size)) hc).mono ?_; rintro e w2 ⟨rfl, hb2⟩
     have hw2 := hb.trans (hb2.mono hb.size)
     clear hb2 hc
     cases hq : zN m k t with
     | true =>
       have HN := lH (HN.out hq)
       clear HF hq
       go_wp2_with fail
       go_roundw
       case rel => exact ⟨k + 1, by omega, by go_num, HN, hw2⟩
       case measure => simp [intOf]; omega
     | false =>
       have HO : Hid (V = false) := lH (by rw [HE.out, HF.out hq])
       clear HE HN HF hq
       go_wp2_with fail
       all_goals go_ret <;> exact ⟨ah (by first | rfl | exact HO.out.symm), hW.trans (hw2.mono hW.size)⟩
    have HO : Hid (V = true) := lH (by rw [HE.out, AZ (fun j t hj hx => hgo.out j t (by omega) hx)])
    clear HE hgo
    go_wp2_with fail
    all_goals go_ret <;> exact ⟨ah (by first | rfl | exact HO.out.symm), hWo⟩
end
section
open Go.RowKit
theorem Ka : (Tryz.prog.info? 58).map (·.size) = some 29 := by kernel_rfl
theorem zF (m : eG) (x : Value) (w : World) {lo hi : Nat} (hx : fA w lo hi eG.ay x m) (hhi : hi ≤ w.heap.size) (htx : ∀ y ∈ m.code.av, y.text.size ≤ 1048576) :
 Calls Tryz.prog 5 #[x] w fun e w' => e = .returned (.int .i64 (countB m)) ∧ Below w.heap.size w w' := by
 obtain ⟨bM, bq, bZ, bU, cu, bV, dD, cZ, dG, dh, bO, bu, bP, bB, bQ, bC, cB, bW, dH, dw, bS, bD, eH, eD, fC, fq, rfl, gX, og, kQ, iE, oM, lC, iF, oN, lD, ji, pU, mM, iL, pV, mP, gP, oh, kR, gy, lq, jd, gQ, om, kS, iy, oO, lF, iM, pW, mQ, gT, oo, kT, pq, sD, qG, oz, vw, rX⟩ := eG.form hx
 obtain ⟨a0, hW⟩ := eZ w 58 #[.slice bM m.aF.length bq, .slice bZ m.aK.length bU, .slice cu m.aL.length bV, .int .i64 m.dO, .slice dD m.bf.length cZ, .slice dG m.aR.length dh, .slice bO m.aG.length bu, .slice bP m.aM.length bB, .slice bQ m.aH.length bC, .string m.aU, .int .i64 m.aO, .slice cB m.aS.length bW, .slice dH m.bg.length dw, .slice bS m.aN.length bD, .bool m.aT, .int .i64 m.bX, .int .i64 m.bn, .int .i64 m.dA, .slice eH m.bY.length eD, .slice fC m.dQ.length fq, .int .i64 m.status, .int .i64 m.fault, .int .i64 m.line, .int .i64 m.bK, .int .i64 m.aP, .int .i64 m.aV, .string m.bL, .int .i64 m.aJ, .int .i64 m.aD]
 have HTX := lH htx
 clear htx
 go_enter Tryz.func5, Tryz.ntmps5
 go_upto_region 1 with fail
 generalize w.alloc (.cells #[Value.slice bM m.aF.length bq, .slice bZ m.aK.length bU, .slice cu m.aL.length bV, .int .i64 m.dO, .slice dD m.bf.length cZ, .slice dG m.aR.length dh, .slice bO m.aG.length bu, .slice bP m.aM.length bB, .slice bQ m.aH.length bC, .string m.aU, .int .i64 m.aO, .slice cB m.aS.length bW, .slice dH m.bg.length dw, .slice bS m.aN.length bD, .bool m.aT, .int .i64 m.bX, .int .i64 m.bn, .int .i64 m.dA, .slice eH m.bY.length eD, .slice fC m.dQ.length fq, .int .i64 m.status, .int .i64 m.fault, .int .i64 m.line, .int .i64 m.bK, .int .i64 m.aP, .int .i64 m.aV, .string m.bL, .int .i64 m.aJ, .int .i64 m.aD] 58) = W at *
 have HL := lH (a0.rO (cs := [Value.slice bM m.aF.length bq, .slice bZ m.aK.length bU, .slice cu m.aL.length bV, .int .i64 m.dO, .slice dD m.bf.length cZ, .slice dG m.aR.length dh, .slice bO m.aG.length bu, .slice bP m.aM.length bB, .slice bQ m.aH.length bC, .string m.aU, .int .i64 m.aO, .slice cB m.aS.length bW, .slice dH m.bg.length dw, .slice bS m.aN.length bD, .bool m.aT, .int .i64 m.bX, .int .i64 m.bn, .int .i64 m.dA, .slice eH m.bY.length eD, .slice fC m.dQ.length fq, .int .i64 m.status, .int .i64 m.fault, .int .i64 m.line, .int .i64 m.bK, .int .i64 m.aP, .int .i64 m.aV, .string m.bL, .int .i64 m.aJ, .int .i64 m.aD]))
 have HS := lH Ka
 have la := a0.lt
 as_aux_lemma =>
 go_wp2_with (first | (refine wpList_load_mid rfl 58 (.tmp 1) rfl w.heap.size 0 rfl [Value.slice bM m.aF.length bq, .slice bZ m.aK.length bU, .slice cu m.aL.length bV, .int .i64 m.dO, .slice dD m.bf.length cZ, .slice dG m.aR.length dh, .slice bO m.aG.length bu, .slice bP m.aM.length bB, .slice bQ m.aH.length bC, .string m.aU, .int .i64 m.aO, .slice cB m.aS.length bW, .slice dH m.bg.length dw, .slice bS m.aN.length bD, .bool m.aT, .int .i64 m.bX, .int .i64 m.bn, .int .i64 m.dA, .slice eH m.bY.length eD, .slice fC m.dQ.length fq, .int .i64 m.status, .int .i64 m.fault, .int .i64 m.line, .int .i64 m.bK, .int .i64 m.aP, .int .i64 m.aV, .string m.bL, .int .i64 m.aJ, .int .i64 m.aD] _ HL.out Tryz.underlying58 rfl HS.out ?_) | fail)
 refine (yh m _ _ (hx.below hW hhi) (nT hhi hW.size) HTX.out).mono ?_; rintro e w1 ⟨rfl, hb1⟩
 replace a0 := a0.later hb1
 replace hW := hW.trans (hb1.mono hW.size)
 clear la hb1 HL HS
 have ca := a0.cell
 have la := a0.lt
 cases hm : Bj m with
 | false =>
   have HO := lH (Ey hm)
   clear hm
   as_aux_lemma =>
   go_wp2_with fail
   go_ret
   exact ⟨by rw [HO.out]; rfl, hW⟩
 | true =>
   have HO := lH (CG hm)
   clear hm
   as_aux_lemma =>
   go_wp2_with fail
   go_ret
   exact ⟨by rw [HO.out]; rfl, hW⟩
end
end Go.Proofs.YtoddlphekcihgaaGreatDoor
