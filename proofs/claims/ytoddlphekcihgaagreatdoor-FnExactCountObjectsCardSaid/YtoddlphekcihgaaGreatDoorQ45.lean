/- Rl, QM of the laws at two values that read as the same: true. -/
import Derived.Test.YtoddlphekcihgaaGreatDoorQ43
set_option maxRecDepth 100000
set_option maxHeartbeats 8000000
set_option linter.unusedVariables false
set_option linter.unusedSimpArgs false
namespace Go.Proofs.YtoddlphekcihgaaGreatDoor
open Go.RowKit
theorem Eb (c : eG) (x y : Value) (w : World) (lo hi lo' hi' : Nat) (h : fA w lo hi eG.ay x c) (h' : fA w lo' hi' eG.ay y c) (hhi : hi ≤ w.heap.size) (eP : hi' ≤ w.heap.size) :
 Calls Tryz.prog 8 #[x, y] w fun e w' => e = .returned (.bool true) ∧ Below w.heap.size w w' := by
 obtain ⟨bM, bq, bZ, bU, cu, bV, dD, cZ, dG, dh, bO, bu, bP, bB, bQ, bC, cB, bW, dH, dw, bS, bD, eH, eD, fC, fq, rfl, gX, og, kQ, iE, oM, lC, iF, oN, lD, ji, pU, mM, iL, pV, mP, gP, oh, kR, gy, lq, jd, gQ, om, kS, iy, oO, lF, iM, pW, mQ, gT, oo, kT, pq, sD, qG, oz, vw, rX⟩ := eG.form h
 obtain ⟨iN, iO, jI, jJ, jK, jL, jW, jX, jY, jZ, iP, iQ, iR, iT, iU, iV, jM, jN, kg, ko, iW, iX, oH, oJ, qw, qx, rfl, Bu, Kn, Ko, De, MI, MJ, Df, MK, ML, Ec, MV, MW, Ed, MX, MY, Bv, Kq, Kr, Bw, Ks, Kt, Bz, Ku, Kv, Dg, MN, MO, Ee, MZ, M0, BA, Kw, Ky, Kh, Rm, Rn, MP, TL, TM⟩ := eG.form h'
 have QN : (c.dO != c.dO) = false := by simp
 have MQ := str_eq c.aU
 have Kz : (c.aO != c.aO) = false := by simp
 have MR : (c.aT != c.aT) = false := by cases c.aT <;> rfl
 have Oo : (c.bX != c.bX) = false := by simp
 have M3 : (c.bn != c.bn) = false := by simp
 have OJ : (c.dA != c.dA) = false := by simp
 have Um : (c.status != c.status) = false := by simp
 have U7 : (c.fault != c.fault) = false := by simp
 have IY : (c.line != c.line) = false := by simp
 have Oq : (c.bK != c.bK) = false := by simp
 have MS : (c.aP != c.aP) = false := by simp
 have M4 : (c.aV != c.aV) = false := by simp
 have Ot := str_eq c.bL
 have KD : (c.aJ != c.aJ) = false := by simp
 have Ki : (c.aD != c.aD) = false := by simp
 have hw0 : Below w.heap.size w ((w.alloc (.cells #[Value.slice bM c.aF.length bq, .slice bZ c.aK.length bU, .slice cu c.aL.length bV, .int .i64 c.dO, .slice dD c.bf.length cZ, .slice dG c.aR.length dh, .slice bO c.aG.length bu, .slice bP c.aM.length bB, .slice bQ c.aH.length bC, .string c.aU, .int .i64 c.aO, .slice cB c.aS.length bW, .slice dH c.bg.length dw, .slice bS c.aN.length bD, .bool c.aT, .int .i64 c.bX, .int .i64 c.bn, .int .i64 c.dA, .slice eH c.bY.length eD, .slice fC c.dQ.length fq, .int .i64 c.status, .int .i64 c.fault, .int .i64 c.line, .int .i64 c.bK, .int .i64 c.aP, .int .i64 c.aV, .string c.bL, .int .i64 c.aJ, .int .i64 c.aD] 58)).alloc (.cells #[Value.slice iN c.aF.length iO, .slice jI c.aK.length jJ, .slice jK c.aL.length jL, .int .i64 c.dO, .slice jW c.bf.length jX, .slice jY c.aR.length jZ, .slice iP c.aG.length iQ, .slice iR c.aM.length iT, .slice iU c.aH.length iV, .string c.aU, .int .i64 c.aO, .slice jM c.aS.length jN, .slice kg c.bg.length ko, .slice iW c.aN.length iX, .bool c.aT, .int .i64 c.bX, .int .i64 c.bn, .int .i64 c.dA, .slice oH c.bY.length oJ, .slice qw c.dQ.length qx, .int .i64 c.status, .int .i64 c.fault, .int .i64 c.line, .int .i64 c.bK, .int .i64 c.aP, .int .i64 c.aV, .string c.bL, .int .i64 c.aJ, .int .i64 c.aD] 58)) := (bA _ _).alloc (by simp) _
 have a0 := (Blk.new w 58 #[Value.slice bM c.aF.length bq, .slice bZ c.aK.length bU, .slice cu c.aL.length bV, .int .i64 c.dO, .slice dD c.bf.length cZ, .slice dG c.aR.length dh, .slice bO c.aG.length bu, .slice bP c.aM.length bB, .slice bQ c.aH.length bC, .string c.aU, .int .i64 c.aO, .slice cB c.aS.length bW, .slice dH c.bg.length dw, .slice bS c.aN.length bD, .bool c.aT, .int .i64 c.bX, .int .i64 c.bn, .int .i64 c.dA, .slice eH c.bY.length eD, .slice fC c.dQ.length fq, .int .i64 c.status, .int .i64 c.fault, .int .i64 c.line, .int .i64 c.bK, .int .i64 c.aP, .int .i64 c.aV, .string c.bL, .int .i64 c.aJ, .int .i64 c.aD]).alloc (.cells #[Value.slice iN c.aF.length iO, .slice jI c.aK.length jJ, .slice jK c.aL.length jL, .int .i64 c.dO, .slice jW c.bf.length jX, .slice jY c.aR.length jZ, .slice iP c.aG.length iQ, .slice iR c.aM.length iT, .slice iU c.aH.length iV, .string c.aU, .int .i64 c.aO, .slice jM c.aS.length jN, .slice kg c.bg.length ko, .slice iW c.aN.length iX, .bool c.aT, .int .i64 c.bX, .int .i64 c.bn, .int .i64 c.dA, .slice oH c.bY.length oJ, .slice qw c.dQ.length qx, .int .i64 c.status, .int .i64 c.fault, .int .i64 c.line, .int .i64 c.bK, .int .i64 c.aP, .int .i64 c.aV, .string c.bL, .int .i64 c.aJ, .int .i64 c.aD] 58)
 have e0 := Blk.newAt (w.alloc (.cells #[Value.slice bM c.aF.length bq, .slice bZ c.aK.length bU, .slice cu c.aL.length bV, .int .i64 c.dO, .slice dD c.bf.length cZ, .slice dG c.aR.length dh, .slice bO c.aG.length bu, .slice bP c.aM.length bB, .slice bQ c.aH.length bC, .string c.aU, .int .i64 c.aO, .slice cB c.aS.length bW, .slice dH c.bg.length dw, .slice bS c.aN.length bD, .bool c.aT, .int .i64 c.bX, .int .i64 c.bn, .int .i64 c.dA, .slice eH c.bY.length eD, .slice fC c.dQ.length fq, .int .i64 c.status, .int .i64 c.fault, .int .i64 c.line, .int .i64 c.bK, .int .i64 c.aP, .int .i64 c.aV, .string c.bL, .int .i64 c.aJ, .int .i64 c.aD] 58)) 58 #[Value.slice iN c.aF.length iO, .slice jI c.aK.length jJ, .slice jK c.aL.length jL, .int .i64 c.dO, .slice jW c.bf.length jX, .slice jY c.aR.length jZ, .slice iP c.aG.length iQ, .slice iR c.aM.length iT, .slice iU c.aH.length iV, .string c.aU, .int .i64 c.aO, .slice jM c.aS.length jN, .slice kg c.bg.length ko, .slice iW c.aN.length iX, .bool c.aT, .int .i64 c.bX, .int .i64 c.bn, .int .i64 c.dA, .slice oH c.bY.length oJ, .slice qw c.dQ.length qx, .int .i64 c.status, .int .i64 c.fault, .int .i64 c.line, .int .i64 c.bK, .int .i64 c.aP, .int .i64 c.aV, .string c.bL, .int .i64 c.aJ, .int .i64 c.aD] (w.heap.size + 1) (by simp)
 go_enter Tryz.func8, Tryz.ntmps8
 go_wp2_with fail
 refine (Ib c.code _ _ _ lo hi lo' hi' (dK.mk_ (gX.below hw0 hhi) (iE.below hw0 hhi) (iF.below hw0 hhi) (ji.below hw0 hhi)) (dK.mk_ (Bu.below hw0 eP) (De.below hw0 eP) (Df.below hw0 eP) (Ec.below hw0 eP)) (nT hhi hw0.size) (nT eP hw0.size)).mono ?_; rintro e w1 ⟨rfl, hb1⟩
 have hw1 : Below w.heap.size w w1 := hw0.trans (hb1.mono hw0.size)
 have a1 := a0.later hb1
 have e1 := e0.later hb1
 have ca := a1.cell
 have ce := e1.cell
 have la := a1.lt
 have le := e1.lt
 clear hb1
 go_wp2_with fail
 refine (G9 c.store _ _ _ lo hi lo' hi' (dP.mk_ (iL.below hw1 hhi) (gP.below hw1 hhi) (gy.below hw1 hhi) (gQ.below hw1 hhi) (iy.below hw1 hhi) (iM.below hw1 hhi) (gT.below hw1 hhi)) (dP.mk_ (Ed.below hw1 eP) (Bv.below hw1 eP) (Bw.below hw1 eP) (Bz.below hw1 eP) (Dg.below hw1 eP) (Ee.below hw1 eP) (BA.below hw1 eP)) (nT hhi hw1.size) (nT eP hw1.size)).mono ?_; rintro e w2 ⟨rfl, hb2⟩
 have hw2 : Below w.heap.size w w2 := hw1.trans (hb2.mono hw1.size)
 have a2 := a1.later hb2
 have e2 := e1.later hb2
 clear ca ce la le
 have ca := a2.cell
 have ce := e2.cell
 have la := a2.lt
 have le := e2.lt
 clear hb2
 go_wp2_with fail
 refine (D4 c.bY _ _ _ lo hi lo' hi' (pq.below hw2 hhi) (Kh.below hw2 eP) (nT hhi hw2.size) (nT eP hw2.size)).mono ?_; rintro e w3 ⟨rfl, hb3⟩
 have hw3 : Below w.heap.size w w3 := hw2.trans (hb3.mono hw2.size)
 have a3 := a2.later hb3
 have e3 := e2.later hb3
 clear ca ce la le
 have ca := a3.cell
 have ce := e3.cell
 have la := a3.lt
 have le := e3.lt
 clear hb3
 go_wp2_with fail
 refine (yV c.dQ _ _ _ lo hi lo' hi' (oz.below hw3 hhi) (MP.below hw3 eP) (nT hhi hw3.size) (nT eP hw3.size)).mono ?_; rintro e w4 ⟨rfl, hb4⟩
 have hw4 : Below w.heap.size w w4 := hw3.trans (hb4.mono hw3.size)
 have a4 := a3.later hb4
 have e4 := e3.later hb4
 clear ca ce la le
 have ca := a4.cell
 have ce := e4.cell
 have la := a4.lt
 have le := e4.lt
 clear hb4
 go_wp2_with fail
 refine (AP c.result _ _ _ lo hi lo' hi' (aQ.mk_) (aQ.mk_) (nT hhi hw4.size) (nT eP hw4.size)).mono ?_; rintro e w5 ⟨rfl, hb5⟩
 have hw5 : Below w.heap.size w w5 := hw4.trans (hb5.mono hw4.size)
 have a5 := a4.later hb5
 have e5 := e4.later hb5
 clear ca ce la le
 have ca := a5.cell
 have ce := e5.cell
 have la := a5.lt
 have le := e5.lt
 clear hb5
 go_wp2_with fail
 go_ret
 exact ⟨rfl, hw5⟩
end Go.Proofs.YtoddlphekcihgaaGreatDoor
