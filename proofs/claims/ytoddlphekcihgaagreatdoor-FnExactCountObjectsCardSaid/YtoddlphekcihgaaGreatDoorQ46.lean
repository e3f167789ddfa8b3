/- Is a machine QH Of the program. FP of the program. The law FnExactCountObjects: it returns true and writes nothing that was there. -/
import Derived.Test.YtoddlphekcihgaaGreatDoorQ49
import Derived.Test.YtoddlphekcihgaaGreatDoorQ48
import Derived.Test.YtoddlphekcihgaaGreatDoorQ26
import Derived.Test.YtoddlphekcihgaaGreatDoorQ28
import Derived.Test.YtoddlphekcihgaaGreatDoorQ44
import Derived.Test.YtoddlphekcihgaaGreatDoorQ45
set_option maxRecDepth 100000
set_option maxHeartbeats 40000000
set_option linter.unusedVariables false
set_option linter.unusedSimpArgs false
namespace Go.Proofs.YtoddlphekcihgaaGreatDoor
open Go.RowKit
theorem Kk : (Tryz.prog.info? 40).map (·.size) = some 29 := by kernel_rfl
theorem Aq (x : Value) (c : eG) (w : World) (lo hi : Nat) (h : fA w lo hi eG.ay x c) (hhi : hi ≤ w.heap.size) (hf : c.Fits) (hst : iw w) :
 Calls Tryz.prog 3 #[x] w fun e w' => e = .returned (.bool true) ∧ Below w.heap.size w w' := by
 obtain ⟨bM, bq, bZ, bU, cu, bV, dD, cZ, dG, dh, bO, bu, bP, bB, bQ, bC, cB, bW, dH, dw, bS, bD, eH, eD, fC, fq, rfl, -⟩ := eG.form h
 obtain ⟨a0, hw0⟩ := eZ w 40 #[.slice bM c.aF.length bq, .slice bZ c.aK.length bU, .slice cu c.aL.length bV, .int .i64 c.dO, .slice dD c.bf.length cZ, .slice dG c.aR.length dh, .slice bO c.aG.length bu, .slice bP c.aM.length bB, .slice bQ c.aH.length bC, .string c.aU, .int .i64 c.aO, .slice cB c.aS.length bW, .slice dH c.bg.length dw, .slice bS c.aN.length bD, .bool c.aT, .int .i64 c.bX, .int .i64 c.bn, .int .i64 c.dA, .slice eH c.bY.length eD, .slice fC c.dQ.length fq, .int .i64 c.status, .int .i64 c.fault, .int .i64 c.line, .int .i64 c.bK, .int .i64 c.aP, .int .i64 c.aV, .string c.bL, .int .i64 c.aJ, .int .i64 c.aD]
 obtain ⟨r, hr⟩ : ∃ r, countB c = r := ⟨_, rfl⟩
 have HR := lH hr
 have hrr : (r != r) = false := by simp
 have HSL := lH Kk
 have HSI := lH EE
 clear hr
 go_enter Tryz.func3, Tryz.ntmps3
 go_upto_region 1 with fail
 generalize w.alloc (.cells #[Value.slice bM c.aF.length bq, .slice bZ c.aK.length bU, .slice cu c.aL.length bV, .int .i64 c.dO, .slice dD c.bf.length cZ, .slice dG c.aR.length dh, .slice bO c.aG.length bu, .slice bP c.aM.length bB, .slice bQ c.aH.length bC, .string c.aU, .int .i64 c.aO, .slice cB c.aS.length bW, .slice dH c.bg.length dw, .slice bS c.aN.length bD, .bool c.aT, .int .i64 c.bX, .int .i64 c.bn, .int .i64 c.dA, .slice eH c.bY.length eD, .slice fC c.dQ.length fq, .int .i64 c.status, .int .i64 c.fault, .int .i64 c.line, .int .i64 c.bK, .int .i64 c.aP, .int .i64 c.aV, .string c.bL, .int .i64 c.aJ, .int .i64 c.aD] 40) = W at *
 have HL := lH (a0.rO (cs := [Value.slice bM c.aF.length bq, .slice bZ c.aK.length bU, .slice cu c.aL.length bV, .int .i64 c.dO, .slice dD c.bf.length cZ, .slice dG c.aR.length dh, .slice bO c.aG.length bu, .slice bP c.aM.length bB, .slice bQ c.aH.length bC, .string c.aU, .int .i64 c.aO, .slice cB c.aS.length bW, .slice dH c.bg.length dw, .slice bS c.aN.length bD, .bool c.aT, .int .i64 c.bX, .int .i64 c.bn, .int .i64 c.dA, .slice eH c.bY.length eD, .slice fC c.dQ.length fq, .int .i64 c.status, .int .i64 c.fault, .int .i64 c.line, .int .i64 c.bK, .int .i64 c.aP, .int .i64 c.aV, .string c.bL, .int .i64 c.aJ, .int .i64 c.aD]))
 have la := a0.lt
 as_aux_lemma =>
 go_wp2_with (first | (refine wpList_load_mid rfl 40 (.tmp 1) rfl w.heap.size 0 rfl [Value.slice bM c.aF.length bq, .slice bZ c.aK.length bU, .slice cu c.aL.length bV, .int .i64 c.dO, .slice dD c.bf.length cZ, .slice dG c.aR.length dh, .slice bO c.aG.length bu, .slice bP c.aM.length bB, .slice bQ c.aH.length bC, .string c.aU, .int .i64 c.aO, .slice cB c.aS.length bW, .slice dH c.bg.length dw, .slice bS c.aN.length bD, .bool c.aT, .int .i64 c.bX, .int .i64 c.bn, .int .i64 c.dA, .slice eH c.bY.length eD, .slice fC c.dQ.length fq, .int .i64 c.status, .int .i64 c.fault, .int .i64 c.line, .int .i64 c.bK, .int .i64 c.aP, .int .i64 c.aV, .string c.bL, .int .i64 c.aJ, .int .i64 c.aD] _ HL.out Tryz.underlying40 rfl HSL.out ?_) | fail)
 refine (Ea c _ _ _ _ _ (h.below hw0 hhi) (nT hhi hw0.size) (by omega) (by omega) hf).mono ?_; rintro e w1 ⟨rfl, hb1⟩
 have a1 := a0.later hb1
 have hw1 : Below w.heap.size w w1 := hw0.trans (hb1.mono hw0.size)
 clear HL la
 have HL := lH (a1.rO (cs := [Value.slice bM c.aF.length bq, .slice bZ c.aK.length bU, .slice cu c.aL.length bV, .int .i64 c.dO, .slice dD c.bf.length cZ, .slice dG c.aR.length dh, .slice bO c.aG.length bu, .slice bP c.aM.length bB, .slice bQ c.aH.length bC, .string c.aU, .int .i64 c.aO, .slice cB c.aS.length bW, .slice dH c.bg.length dw, .slice bS c.aN.length bD, .bool c.aT, .int .i64 c.bX, .int .i64 c.bn, .int .i64 c.dA, .slice eH c.bY.length eD, .slice fC c.dQ.length fq, .int .i64 c.status, .int .i64 c.fault, .int .i64 c.line, .int .i64 c.bK, .int .i64 c.aP, .int .i64 c.aV, .string c.bL, .int .i64 c.aJ, .int .i64 c.aD]))
 have la := a1.lt
 clear hb1 hw0 a0
 by_cases hk1 : (1048576 : Int) < c.dX
 ·rw [dM hk1]
  as_aux_lemma =>
  go_wp2_with fail
  go_ret
  exact ⟨rfl, hw1⟩
 rw [ep hk1]
 have hbk : c.dX ≤ 1048576 := by omega
 have htx := lH (JQ hbk)
 clear hk1
 as_aux_lemma =>
 go_wp2_with (first | (refine wpList_load_mid rfl 40 (.tmp 1) rfl w.heap.size 0 rfl [Value.slice bM c.aF.length bq, .slice bZ c.aK.length bU, .slice cu c.aL.length bV, .int .i64 c.dO, .slice dD c.bf.length cZ, .slice dG c.aR.length dh, .slice bO c.aG.length bu, .slice bP c.aM.length bB, .slice bQ c.aH.length bC, .string c.aU, .int .i64 c.aO, .slice cB c.aS.length bW, .slice dH c.bg.length dw, .slice bS c.aN.length bD, .bool c.aT, .int .i64 c.bX, .int .i64 c.bn, .int .i64 c.dA, .slice eH c.bY.length eD, .slice fC c.dQ.length fq, .int .i64 c.status, .int .i64 c.fault, .int .i64 c.line, .int .i64 c.bK, .int .i64 c.aP, .int .i64 c.aV, .string c.bL, .int .i64 c.aJ, .int .i64 c.aD] _ HL.out Tryz.underlying40 rfl HSL.out ?_) | fail)
 refine (wz c _ _ _ _ (h.below hw1 hhi) (nT hhi hw1.size) hbk).mono ?_; rintro e w2 ⟨x1, rfl, hr2, hb2⟩
 have a2 := a1.later hb2
 have hw2 := hw1.trans (hb2.mono hw1.size)
 clear HL la a1 hb2
 have HL := lH (a2.rO (cs := [Value.slice bM c.aF.length bq, .slice bZ c.aK.length bU, .slice cu c.aL.length bV, .int .i64 c.dO, .slice dD c.bf.length cZ, .slice dG c.aR.length dh, .slice bO c.aG.length bu, .slice bP c.aM.length bB, .slice bQ c.aH.length bC, .string c.aU, .int .i64 c.aO, .slice cB c.aS.length bW, .slice dH c.bg.length dw, .slice bS c.aN.length bD, .bool c.aT, .int .i64 c.bX, .int .i64 c.bn, .int .i64 c.dA, .slice eH c.bY.length eD, .slice fC c.dQ.length fq, .int .i64 c.status, .int .i64 c.fault, .int .i64 c.line, .int .i64 c.bK, .int .i64 c.aP, .int .i64 c.aV, .string c.bL, .int .i64 c.aJ, .int .i64 c.aD]))
 have la := a2.lt
 as_aux_lemma =>
 go_wp2_with (first | (refine wpList_load_mid rfl 40 (.tmp 1) rfl w.heap.size 0 rfl [Value.slice bM c.aF.length bq, .slice bZ c.aK.length bU, .slice cu c.aL.length bV, .int .i64 c.dO, .slice dD c.bf.length cZ, .slice dG c.aR.length dh, .slice bO c.aG.length bu, .slice bP c.aM.length bB, .slice bQ c.aH.length bC, .string c.aU, .int .i64 c.aO, .slice cB c.aS.length bW, .slice dH c.bg.length dw, .slice bS c.aN.length bD, .bool c.aT, .int .i64 c.bX, .int .i64 c.bn, .int .i64 c.dA, .slice eH c.bY.length eD, .slice fC c.dQ.length fq, .int .i64 c.status, .int .i64 c.fault, .int .i64 c.line, .int .i64 c.bK, .int .i64 c.aP, .int .i64 c.aV, .string c.bL, .int .i64 c.aJ, .int .i64 c.aD] _ HL.out Tryz.underlying40 rfl HSL.out ?_) | fail)
 refine (zF c _ _ hr2 (nR _) htx.out).mono ?_; rw [HR.out]; rintro e w3 ⟨rfl, hb3⟩
 have a3 := a2.later hb3
 have hw3 := hw2.trans (hb3.mono hw2.size)
 clear HL la a2 hb3 hr2
 have HL := lH (a3.rO (cs := [Value.slice bM c.aF.length bq, .slice bZ c.aK.length bU, .slice cu c.aL.length bV, .int .i64 c.dO, .slice dD c.bf.length cZ, .slice dG c.aR.length dh, .slice bO c.aG.length bu, .slice bP c.aM.length bB, .slice bQ c.aH.length bC, .string c.aU, .int .i64 c.aO, .slice cB c.aS.length bW, .slice dH c.bg.length dw, .slice bS c.aN.length bD, .bool c.aT, .int .i64 c.bX, .int .i64 c.bn, .int .i64 c.dA, .slice eH c.bY.length eD, .slice fC c.dQ.length fq, .int .i64 c.status, .int .i64 c.fault, .int .i64 c.line, .int .i64 c.bK, .int .i64 c.aP, .int .i64 c.aV, .string c.bL, .int .i64 c.aJ, .int .i64 c.aD]))
 have la := a3.lt
 as_aux_lemma =>
 go_wp2_with (first | (refine wpList_load_mid rfl 40 (.tmp 1) rfl w.heap.size 0 rfl [Value.slice bM c.aF.length bq, .slice bZ c.aK.length bU, .slice cu c.aL.length bV, .int .i64 c.dO, .slice dD c.bf.length cZ, .slice dG c.aR.length dh, .slice bO c.aG.length bu, .slice bP c.aM.length bB, .slice bQ c.aH.length bC, .string c.aU, .int .i64 c.aO, .slice cB c.aS.length bW, .slice dH c.bg.length dw, .slice bS c.aN.length bD, .bool c.aT, .int .i64 c.bX, .int .i64 c.bn, .int .i64 c.dA, .slice eH c.bY.length eD, .slice fC c.dQ.length fq, .int .i64 c.status, .int .i64 c.fault, .int .i64 c.line, .int .i64 c.bK, .int .i64 c.aP, .int .i64 c.aV, .string c.bL, .int .i64 c.aJ, .int .i64 c.aD] _ HL.out Tryz.underlying40 rfl HSL.out ?_) | fail)
 refine (wz c _ _ _ _ (h.below hw3 hhi) (nT hhi hw3.size) hbk).mono ?_; rintro e w4 ⟨x2, rfl, hr4, hb4⟩
 obtain ⟨iN, iO, jI, jJ, jK, jL, jW, jX, jY, jZ, iP, iQ, iR, iT, iU, iV, jM, jN, kg, ko, iW, iX, oH, oJ, qw, qx, rfl, -⟩ := eG.form hr4
 have a4 := a3.later hb4
 have hw4 := hw3.trans (hb4.mono hw3.size)
 clear HL la a3 hb4
 have z4 : Blk (w4.alloc (.cells #[Value.slice none 0 0, .slice none 0 0, .slice none 0 0, .int .i64 0, .slice none 0 0, .slice none 0 0, .slice none 0 0, .slice none 0 0, .slice none 0 0, .string ⟨#[]⟩, .int .i64 0, .slice none 0 0, .slice none 0 0, .slice none 0 0, .bool false, .int .i64 0, .int .i64 0, .int .i64 0, .slice none 0 0, .slice none 0 0, .int .i64 0, .int .i64 0, .int .i64 0, .int .i64 0, .int .i64 0, .int .i64 0, .string ⟨#[]⟩, .int .i64 0, .int .i64 0] 58)) w4.heap.size 58 #[Value.slice none 0 0, .slice none 0 0, .slice none 0 0, .int .i64 0, .slice none 0 0, .slice none 0 0, .slice none 0 0, .slice none 0 0, .slice none 0 0, .string ⟨#[]⟩, .int .i64 0, .slice none 0 0, .slice none 0 0, .slice none 0 0, .bool false, .int .i64 0, .int .i64 0, .int .i64 0, .slice none 0 0, .slice none 0 0, .int .i64 0, .int .i64 0, .int .i64 0, .int .i64 0, .int .i64 0, .int .i64 0, .string ⟨#[]⟩, .int .i64 0, .int .i64 0] := Blk.new w4 58 #[Value.slice none 0 0, .slice none 0 0, .slice none 0 0, .int .i64 0, .slice none 0 0, .slice none 0 0, .slice none 0 0, .slice none 0 0, .slice none 0 0, .string ⟨#[]⟩, .int .i64 0, .slice none 0 0, .slice none 0 0, .slice none 0 0, .bool false, .int .i64 0, .int .i64 0, .int .i64 0, .slice none 0 0, .slice none 0 0, .int .i64 0, .int .i64 0, .int .i64 0, .int .i64 0, .int .i64 0, .int .i64 0, .string ⟨#[]⟩, .int .i64 0, .int .i64 0]
 have HT := lH (z4.KI (cs := [Value.slice none 0 0, .slice none 0 0, .slice none 0 0, .int .i64 0, .slice none 0 0, .slice none 0 0, .slice none 0 0, .slice none 0 0, .slice none 0 0, .string ⟨#[]⟩, .int .i64 0, .slice none 0 0, .slice none 0 0, .slice none 0 0, .bool false, .int .i64 0, .int .i64 0, .int .i64 0, .slice none 0 0, .slice none 0 0, .int .i64 0, .int .i64 0, .int .i64 0, .int .i64 0, .int .i64 0, .int .i64 0, .string ⟨#[]⟩, .int .i64 0, .int .i64 0]) 29 (by simp))
 have k5 : Below w4.heap.size w4 (w4.alloc (.cells #[Value.slice none 0 0, .slice none 0 0, .slice none 0 0, .int .i64 0, .slice none 0 0, .slice none 0 0, .slice none 0 0, .slice none 0 0, .slice none 0 0, .string ⟨#[]⟩, .int .i64 0, .slice none 0 0, .slice none 0 0, .slice none 0 0, .bool false, .int .i64 0, .int .i64 0, .int .i64 0, .slice none 0 0, .slice none 0 0, .int .i64 0, .int .i64 0, .int .i64 0, .int .i64 0, .int .i64 0, .int .i64 0, .string ⟨#[]⟩, .int .i64 0, .int .i64 0] 58)) := bA _ _
 have e5 := Blk.BM z4 [Value.slice iN c.aF.length iO, .slice jI c.aK.length jJ, .slice jK c.aL.length jL, .int .i64 c.dO, .slice jW c.bf.length jX, .slice jY c.aR.length jZ, .slice iP c.aG.length iQ, .slice iR c.aM.length iT, .slice iU c.aH.length iV, .string c.aU, .int .i64 c.aO, .slice jM c.aS.length jN, .slice kg c.bg.length ko, .slice iW c.aN.length iX, .bool c.aT, .int .i64 c.bX, .int .i64 c.bn, .int .i64 c.dA, .slice oH c.bY.length oJ, .slice qw c.dQ.length qx, .int .i64 c.status, .int .i64 c.fault, .int .i64 c.line, .int .i64 c.bK, .int .i64 c.aP, .int .i64 c.aV, .string c.bL, .int .i64 c.aJ, .int .i64 c.aD] rfl
 have a5 := Blk.wR (g := w.heap.size) (q := w4.heap.size) (by have := a4.lt; omega) [Value.slice iN c.aF.length iO, .slice jI c.aK.length jJ, .slice jK c.aL.length jL, .int .i64 c.dO, .slice jW c.bf.length jX, .slice jY c.aR.length jZ, .slice iP c.aG.length iQ, .slice iR c.aM.length iT, .slice iU c.aH.length iV, .string c.aU, .int .i64 c.aO, .slice jM c.aS.length jN, .slice kg c.bg.length ko, .slice iW c.aN.length iX, .bool c.aT, .int .i64 c.bX, .int .i64 c.bn, .int .i64 c.dA, .slice oH c.bY.length oJ, .slice qw c.dQ.length qx, .int .i64 c.status, .int .i64 c.fault, .int .i64 c.line, .int .i64 c.bK, .int .i64 c.aP, .int .i64 c.aV, .string c.bL, .int .i64 c.aJ, .int .i64 c.aD] _ 0 (a4.alloc (.cells #[Value.slice none 0 0, .slice none 0 0, .slice none 0 0, .int .i64 0, .slice none 0 0, .slice none 0 0, .slice none 0 0, .slice none 0 0, .slice none 0 0, .string ⟨#[]⟩, .int .i64 0, .slice none 0 0, .slice none 0 0, .slice none 0 0, .bool false, .int .i64 0, .int .i64 0, .int .i64 0, .slice none 0 0, .slice none 0 0, .int .i64 0, .int .i64 0, .int .i64 0, .int .i64 0, .int .i64 0, .int .i64 0, .string ⟨#[]⟩, .int .i64 0, .int .i64 0] 58))
 have b5 := lK (g := w4.heap.size) (B := w4.heap.size) (nR _) [Value.slice iN c.aF.length iO, .slice jI c.aK.length jJ, .slice jK c.aL.length jL, .int .i64 c.dO, .slice jW c.bf.length jX, .slice jY c.aR.length jZ, .slice iP c.aG.length iQ, .slice iR c.aM.length iT, .slice iU c.aH.length iV, .string c.aU, .int .i64 c.aO, .slice jM c.aS.length jN, .slice kg c.bg.length ko, .slice iW c.aN.length iX, .bool c.aT, .int .i64 c.bX, .int .i64 c.bn, .int .i64 c.dA, .slice oH c.bY.length oJ, .slice qw c.dQ.length qx, .int .i64 c.status, .int .i64 c.fault, .int .i64 c.line, .int .i64 c.bK, .int .i64 c.aP, .int .i64 c.aV, .string c.bL, .int .i64 c.aJ, .int .i64 c.aD] _ _ 0 k5
 have s5 : (gq (w4.alloc (.cells #[Value.slice none 0 0, .slice none 0 0, .slice none 0 0, .int .i64 0, .slice none 0 0, .slice none 0 0, .slice none 0 0, .slice none 0 0, .slice none 0 0, .string ⟨#[]⟩, .int .i64 0, .slice none 0 0, .slice none 0 0, .slice none 0 0, .bool false, .int .i64 0, .int .i64 0, .int .i64 0, .slice none 0 0, .slice none 0 0, .int .i64 0, .int .i64 0, .int .i64 0, .int .i64 0, .int .i64 0, .int .i64 0, .string ⟨#[]⟩, .int .i64 0, .int .i64 0] 58)) w4.heap.size 0 [Value.slice iN c.aF.length iO, .slice jI c.aK.length jJ, .slice jK c.aL.length jL, .int .i64 c.dO, .slice jW c.bf.length jX, .slice jY c.aR.length jZ, .slice iP c.aG.length iQ, .slice iR c.aM.length iT, .slice iU c.aH.length iV, .string c.aU, .int .i64 c.aO, .slice jM c.aS.length jN, .slice kg c.bg.length ko, .slice iW c.aN.length iX, .bool c.aT, .int .i64 c.bX, .int .i64 c.bn, .int .i64 c.dA, .slice oH c.bY.length oJ, .slice qw c.dQ.length qx, .int .i64 c.status, .int .i64 c.fault, .int .i64 c.line, .int .i64 c.bK, .int .i64 c.aP, .int .i64 c.aV, .string c.bL, .int .i64 c.aJ, .int .i64 c.aD]).heap.size = w4.heap.size + 1 := by rw [kK]; simp
 obtain ⟨V5, hV⟩ : ∃ V, gq (w4.alloc (.cells #[Value.slice none 0 0, .slice none 0 0, .slice none 0 0, .int .i64 0, .slice none 0 0, .slice none 0 0, .slice none 0 0, .slice none 0 0, .slice none 0 0, .string ⟨#[]⟩, .int .i64 0, .slice none 0 0, .slice none 0 0, .slice none 0 0, .bool false, .int .i64 0, .int .i64 0, .int .i64 0, .slice none 0 0, .slice none 0 0, .int .i64 0, .int .i64 0, .int .i64 0, .int .i64 0, .int .i64 0, .int .i64 0, .string ⟨#[]⟩, .int .i64 0, .int .i64 0] 58)) w4.heap.size 0 [Value.slice iN c.aF.length iO, .slice jI c.aK.length jJ, .slice jK c.aL.length jL, .int .i64 c.dO, .slice jW c.bf.length jX, .slice jY c.aR.length jZ, .slice iP c.aG.length iQ, .slice iR c.aM.length iT, .slice iU c.aH.length iV, .string c.aU, .int .i64 c.aO, .slice jM c.aS.length jN, .slice kg c.bg.length ko, .slice iW c.aN.length iX, .bool c.aT, .int .i64 c.bX, .int .i64 c.bn, .int .i64 c.dA, .slice oH c.bY.length oJ, .slice qw c.dQ.length qx, .int .i64 c.status, .int .i64 c.fault, .int .i64 c.line, .int .i64 c.bK, .int .i64 c.aP, .int .i64 c.aV, .string c.bL, .int .i64 c.aJ, .int .i64 c.aD] = V := ⟨_, rfl⟩
 rw [hV] at e5 b5 a5 s5
 have HV := lH hV
 have HR5 := lH (e5.rO (cs := [Value.slice iN c.aF.length iO, .slice jI c.aK.length jJ, .slice jK c.aL.length jL, .int .i64 c.dO, .slice jW c.bf.length jX, .slice jY c.aR.length jZ, .slice iP c.aG.length iQ, .slice iR c.aM.length iT, .slice iU c.aH.length iV, .string c.aU, .int .i64 c.aO, .slice jM c.aS.length jN, .slice kg c.bg.length ko, .slice iW c.aN.length iX, .bool c.aT, .int .i64 c.bX, .int .i64 c.bn, .int .i64 c.dA, .slice oH c.bY.length oJ, .slice qw c.dQ.length qx, .int .i64 c.status, .int .i64 c.fault, .int .i64 c.line, .int .i64 c.bK, .int .i64 c.aP, .int .i64 c.aV, .string c.bL, .int .i64 c.aJ, .int .i64 c.aD]))
 clear hV k5 z4
 have la := a5.lt
 have le := e5.lt
 have hw5 := hw4.trans (b5.mono hw4.size)
 as_aux_lemma =>
 go_wp2_with (first | (refine wpList_store_mid rfl 58 (.tmp 5) (.tmp 16) rfl w4.heap.size 0 #[Value.slice iN c.aF.length iO, .slice jI c.aK.length jJ, .slice jK c.aL.length jL, .int .i64 c.dO, .slice jW c.bf.length jX, .slice jY c.aR.length jZ, .slice iP c.aG.length iQ, .slice iR c.aM.length iT, .slice iU c.aH.length iV, .string c.aU, .int .i64 c.aO, .slice jM c.aS.length jN, .slice kg c.bg.length ko, .slice iW c.aN.length iX, .bool c.aT, .int .i64 c.bX, .int .i64 c.bn, .int .i64 c.dA, .slice oH c.bY.length oJ, .slice qw c.dQ.length qx, .int .i64 c.status, .int .i64 c.fault, .int .i64 c.line, .int .i64 c.bK, .int .i64 c.aP, .int .i64 c.aV, .string c.bL, .int .i64 c.aJ, .int .i64 c.aD] rfl rfl HT.out HSI.out (all_oneCell_toArray (by simp [Value.oneCell'])) ?_; rw [uU, HV.out]) | (refine wpList_load_mid rfl 58 (.tmp 5) rfl w4.heap.size 0 rfl [Value.slice iN c.aF.length iO, .slice jI c.aK.length jJ, .slice jK c.aL.length jL, .int .i64 c.dO, .slice jW c.bf.length jX, .slice jY c.aR.length jZ, .slice iP c.aG.length iQ, .slice iR c.aM.length iT, .slice iU c.aH.length iV, .string c.aU, .int .i64 c.aO, .slice jM c.aS.length jN, .slice kg c.bg.length ko, .slice iW c.aN.length iX, .bool c.aT, .int .i64 c.bX, .int .i64 c.bn, .int .i64 c.dA, .slice oH c.bY.length oJ, .slice qw c.dQ.length qx, .int .i64 c.status, .int .i64 c.fault, .int .i64 c.line, .int .i64 c.bK, .int .i64 c.aP, .int .i64 c.aV, .string c.bL, .int .i64 c.aJ, .int .i64 c.aD] _ HR5.out Tryz.underlying58 rfl HSI.out ?_) | fail)
 refine (zK c _ _ (hr4.below b5 (nR _)) (by omega) (hst.below hw5 hst.2) htx.out).mono ?_; rw [HR.out]; rintro e w6 ⟨rfl, hb6⟩
 have a6 := a5.later hb6
 have e6 := e5.later hb6
 have hw6 := hw5.trans (hb6.mono hw5.size)
 have z6 : w4.heap.size ≤ w6.heap.size := by have := hb6.size; omega
 have hr6 := (hr4.below b5 (nR _)).below hb6 (by omega)
 clear la le a5 e5 hb6 hr4 b5 hw5 HT HV HR5 a4
 have la := a6.lt
 have le := e6.lt
 as_aux_lemma =>
 go_upto_region 10 with fail
 refine Fj (S := fun w' => w'.rangeAt w.heap.size 0 [Value.slice bM c.aF.length bq, .slice bZ c.aK.length bU, .slice cu c.aL.length bV, .int .i64 c.dO, .slice dD c.bf.length cZ, .slice dG c.aR.length dh, .slice bO c.aG.length bu, .slice bP c.aM.length bB, .slice bQ c.aH.length bC, .string c.aU, .int .i64 c.aO, .slice cB c.aS.length bW, .slice dH c.bg.length dw, .slice bS c.aN.length bD, .bool c.aT, .int .i64 c.bX, .int .i64 c.bn, .int .i64 c.dA, .slice eH c.bY.length eD, .slice fC c.dQ.length fq, .int .i64 c.status, .int .i64 c.fault, .int .i64 c.line, .int .i64 c.bK, .int .i64 c.aP, .int .i64 c.aV, .string c.bL, .int .i64 c.aJ, .int .i64 c.aD] ∧ w'.rangeAt w4.heap.size 0 [Value.slice iN c.aF.length iO, .slice jI c.aK.length jJ, .slice jK c.aL.length jL, .int .i64 c.dO, .slice jW c.bf.length jX, .slice jY c.aR.length jZ, .slice iP c.aG.length iQ, .slice iR c.aM.length iT, .slice iU c.aH.length iV, .string c.aU, .int .i64 c.aO, .slice jM c.aS.length jN, .slice kg c.bg.length ko, .slice iW c.aN.length iX, .bool c.aT, .int .i64 c.bX, .int .i64 c.bn, .int .i64 c.dA, .slice oH c.bY.length oJ, .slice qw c.dQ.length qx, .int .i64 c.status, .int .i64 c.fault, .int .i64 c.line, .int .i64 c.bK, .int .i64 c.aP, .int .i64 c.aV, .string c.bL, .int .i64 c.aJ, .int .i64 c.aD]) (k := 5) (by kernel_rfl) ?_
 have hS0 : w6.drew.rangeAt w.heap.size 0 [Value.slice bM c.aF.length bq, .slice bZ c.aK.length bU, .slice cu c.aL.length bV, .int .i64 c.dO, .slice dD c.bf.length cZ, .slice dG c.aR.length dh, .slice bO c.aG.length bu, .slice bP c.aM.length bB, .slice bQ c.aH.length bC, .string c.aU, .int .i64 c.aO, .slice cB c.aS.length bW, .slice dH c.bg.length dw, .slice bS c.aN.length bD, .bool c.aT, .int .i64 c.bX, .int .i64 c.bn, .int .i64 c.dA, .slice eH c.bY.length eD, .slice fC c.dQ.length fq, .int .i64 c.status, .int .i64 c.fault, .int .i64 c.line, .int .i64 c.bK, .int .i64 c.aP, .int .i64 c.aV, .string c.bL, .int .i64 c.aJ, .int .i64 c.aD] ∧ w6.drew.rangeAt w4.heap.size 0 [Value.slice iN c.aF.length iO, .slice jI c.aK.length jJ, .slice jK c.aL.length jL, .int .i64 c.dO, .slice jW c.bf.length jX, .slice jY c.aR.length jZ, .slice iP c.aG.length iQ, .slice iR c.aM.length iT, .slice iU c.aH.length iV, .string c.aU, .int .i64 c.aO, .slice jM c.aS.length jN, .slice kg c.bg.length ko, .slice iW c.aN.length iX, .bool c.aT, .int .i64 c.bX, .int .i64 c.bn, .int .i64 c.dA, .slice oH c.bY.length oJ, .slice qw c.dQ.length qx, .int .i64 c.status, .int .i64 c.fault, .int .i64 c.line, .int .i64 c.bK, .int .i64 c.aP, .int .i64 c.aV, .string c.bL, .int .i64 c.aJ, .int .i64 c.aD] := ⟨a6.drew.rO, e6.drew.rO⟩
 refine xP 0 (v := _) rfl (by kernel_rfl) (by kernel_rfl) (by kernel_rfl) rfl (fun _ _ _ h => h) (yieldsIf_load_mid (by rfl) 58 (.tmp 5) rfl w4.heap.size 0 rfl [Value.slice iN c.aF.length iO, .slice jI c.aK.length jJ, .slice jK c.aL.length jL, .int .i64 c.dO, .slice jW c.bf.length jX, .slice jY c.aR.length jZ, .slice iP c.aG.length iQ, .slice iR c.aM.length iT, .slice iU c.aH.length iV, .string c.aU, .int .i64 c.aO, .slice jM c.aS.length jN, .slice kg c.bg.length ko, .slice iW c.aN.length iX, .bool c.aT, .int .i64 c.bX, .int .i64 c.bn, .int .i64 c.dA, .slice oH c.bY.length oJ, .slice qw c.dQ.length qx, .int .i64 c.status, .int .i64 c.fault, .int .i64 c.line, .int .i64 c.bK, .int .i64 c.aP, .int .i64 c.aV, .string c.bL, .int .i64 c.aJ, .int .i64 c.aD] _ (fun _ h => h.2) Tryz.underlying58 rfl HSI.out) hS0 ?_
 try simp only [Act.put, List.setIfInBounds_toArray, List.set_cons_zero, List.set_cons_succ]
 refine xP 1 (v := _) rfl (by kernel_rfl) (by kernel_rfl) (by kernel_rfl) rfl (fun _ _ _ h => h) (yieldsIf_load_mid (by rfl) 40 (.tmp 1) rfl w.heap.size 0 rfl [Value.slice bM c.aF.length bq, .slice bZ c.aK.length bU, .slice cu c.aL.length bV, .int .i64 c.dO, .slice dD c.bf.length cZ, .slice dG c.aR.length dh, .slice bO c.aG.length bu, .slice bP c.aM.length bB, .slice bQ c.aH.length bC, .string c.aU, .int .i64 c.aO, .slice cB c.aS.length bW, .slice dH c.bg.length dw, .slice bS c.aN.length bD, .bool c.aT, .int .i64 c.bX, .int .i64 c.bn, .int .i64 c.dA, .slice eH c.bY.length eD, .slice fC c.dQ.length fq, .int .i64 c.status, .int .i64 c.fault, .int .i64 c.line, .int .i64 c.bK, .int .i64 c.aP, .int .i64 c.aV, .string c.bL, .int .i64 c.aJ, .int .i64 c.aD] _ (fun _ h => h.1) Tryz.underlying40 rfl HSL.out) hS0 ?_
 try simp only [Act.put, List.setIfInBounds_toArray, List.set_cons_zero, List.set_cons_succ]
 refine wW [2] (by kernel_rfl) rfl ?_; refine sH.dJ rfl (fun K hK => ?_) sH.lu
 go_simp
 have y1 : w.heap.size ≤ w6.drew.heap.size := hw6.size
 refine (wz c _ _ _ _ (h.below hw6.drew hhi) (nT hhi hw6.size) hbk).mono ?_; rintro e wA ⟨xA, rfl, hrA, hbA⟩
 refine hK.out _ _ (fun _ => ⟨(a6.drew.later hbA).rO, (e6.drew.later hbA).rO⟩) ?_
 clear hK K
 try simp only [Act.put, List.setIfInBounds_toArray, List.set_cons_zero, List.set_cons_succ]
 refine wW [3] (by kernel_rfl) rfl ?_; refine sH.dJ rfl (fun K hK => ?_) sH.lu
 go_simp
 refine (Eb c _ _ _ _ _ _ _ (hr6.below ((bR w6.heap.size w6).drew.trans hbA) z6) hrA (nT z6 hbA.size) (nR _)).mono ?_; rintro e wB ⟨rfl, hbB⟩
 refine hK.out _ _ (fun _ => ⟨((a6.drew.later hbA).later hbB).rO, ((e6.drew.later hbA).later hbB).rO⟩) ?_
 clear hK K
 try simp only [Act.put, List.setIfInBounds_toArray, List.set_cons_zero, List.set_cons_succ]
 refine wW [4] (by kernel_rfl) rfl ?_; refine sH.dJ rfl (fun K hK => ?_) sH.lu
 go_simp
 refine hK.out _ _ (fun _ => ⟨((a6.drew.later hbA).later hbB).rO, ((e6.drew.later hbA).later hbB).rO⟩) ?_
 clear hK K
 try simp only [Act.put, List.setIfInBounds_toArray, List.set_cons_zero, List.set_cons_succ]
 refine GA (by kernel_rfl) ?_ _
 have hw8 : Below w.heap.size w wB := (hw6.drew.trans (hbA.mono y1)).trans (hbB.mono (nT y1 hbA.size))
 have la := ((a6.drew.later hbA).later hbB).lt
 as_aux_lemma =>
 go_wp2_with fail
 go_ret
 exact ⟨rfl, hw8⟩
end Go.Proofs.YtoddlphekcihgaaGreatDoor
