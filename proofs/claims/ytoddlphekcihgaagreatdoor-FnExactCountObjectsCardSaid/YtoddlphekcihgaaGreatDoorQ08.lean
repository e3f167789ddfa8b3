/- Machine at a place in memory: how it reads. No program. -/
import Derived.Test.YtoddlphekcihgaaGreatDoorQ03
import Derived.Test.YtoddlphekcihgaaGreatDoorQ05
set_option maxRecDepth 100000
set_option maxHeartbeats 8000000
set_option linter.unusedVariables false
set_option linter.unusedSimpArgs false
namespace Go.Proofs.YtoddlphekcihgaaGreatDoor
open Go.RowKit
theorem eG.in_ {w : World} {g off lo hi : Nat} {c : eG} (h : At w g off lo hi eG.ay c) : ∃ bM bq bZ bU cu bV dD cZ dG dh bO bu bP bB bQ bC cB bW dH dw bS bD eH eD fC fq, g < w.heap.size ∧ hi ≤ w.heap.size ∧ dz w lo hi 4 jF.ay (.slice bM c.aF.length bq) c.aF ∧ c.aF.length ≤ bq ∧ bq ≤ maxLen ∧ dz w lo hi 3 gU.ay (.slice bZ c.aK.length bU) c.aK ∧ c.aK.length ≤ bU ∧ bU ≤ maxLen ∧ dz w lo hi 1 eF (.slice cu c.aL.length bV) c.aL ∧ c.aL.length ≤ bV ∧ bV ≤ maxLen ∧ dz w lo hi 5 eO.ay (.slice dD c.bf.length cZ) c.bf ∧ c.bf.length ≤ cZ ∧ cZ ≤ maxLen ∧ dz w lo hi 1 eF (.slice dG c.aR.length dh) c.aR ∧ c.aR.length ≤ dh ∧ dh ≤ maxLen ∧ dz w lo hi 3 gU.ay (.slice bO c.aG.length bu) c.aG ∧ c.aG.length ≤ bu ∧ bu ≤ maxLen ∧ dz w lo hi 5 fV.ay (.slice bP c.aM.length bB) c.aM ∧ c.aM.length ≤ bB ∧ bB ≤ maxLen ∧ dz w lo hi 6 aQ.ay (.slice bQ c.aH.length bC) c.aH ∧ c.aH.length ≤ bC ∧ bC ≤ maxLen ∧ dz w lo hi 1 eF (.slice cB c.aS.length bW) c.aS ∧ c.aS.length ≤ bW ∧ bW ≤ maxLen ∧ dz w lo hi 1 eF (.slice dH c.bg.length dw) c.bg ∧ c.bg.length ≤ dw ∧ dw ≤ maxLen ∧ dz w lo hi 2 kZ.ay (.slice bS c.aN.length bD) c.aN ∧ c.aN.length ≤ bD ∧ bD ≤ maxLen ∧ dz w lo hi 12 jS.ay (.slice eH c.bY.length eD) c.bY ∧ c.bY.length ≤ eD ∧ eD ≤ maxLen ∧ dz w lo hi 1 gW (.slice fC c.dQ.length fq) c.dQ ∧ c.dQ.length ≤ fq ∧ fq ≤ maxLen ∧ w.cell? ⟨g, off, none⟩ = some (.slice bM c.aF.length bq) ∧ w.cell? ⟨g, off + 1, none⟩ = some (.slice bZ c.aK.length bU) ∧ w.cell? ⟨g, off + 2, none⟩ = some (.slice cu c.aL.length bV) ∧ w.cell? ⟨g, off + 3, none⟩ = some (.int .i64 c.dO) ∧ w.cell? ⟨g, off + 4, none⟩ = some (.slice dD c.bf.length cZ) ∧ w.cell? ⟨g, off + 5, none⟩ = some (.slice dG c.aR.length dh) ∧ w.cell? ⟨g, off + 6, none⟩ = some (.slice bO c.aG.length bu) ∧ w.cell? ⟨g, off + 7, none⟩ = some (.slice bP c.aM.length bB) ∧ w.cell? ⟨g, off + 8, none⟩ = some (.slice bQ c.aH.length bC) ∧ w.cell? ⟨g, off + 9, none⟩ = some (.string c.aU) ∧ w.cell? ⟨g, off + 10, none⟩ = some (.int .i64 c.aO) ∧ w.cell? ⟨g, off + 11, none⟩ = some (.slice cB c.aS.length bW) ∧ w.cell? ⟨g, off + 12, none⟩ = some (.slice dH c.bg.length dw) ∧ w.cell? ⟨g, off + 13, none⟩ = some (.slice bS c.aN.length bD) ∧ w.cell? ⟨g, off + 14, none⟩ = some (.bool c.aT) ∧ w.cell? ⟨g, off + 15, none⟩ = some (.int .i64 c.bX) ∧ w.cell? ⟨g, off + 16, none⟩ = some (.int .i64 c.bn) ∧ w.cell? ⟨g, off + 17, none⟩ = some (.int .i64 c.dA) ∧ w.cell? ⟨g, off + 18, none⟩ = some (.slice eH c.bY.length eD) ∧ w.cell? ⟨g, off + 19, none⟩ = some (.slice fC c.dQ.length fq) ∧ w.cell? ⟨g, off + 20, none⟩ = some (.int .i64 c.status) ∧ w.cell? ⟨g, off + 21, none⟩ = some (.int .i64 c.fault) ∧ w.cell? ⟨g, off + 22, none⟩ = some (.int .i64 c.line) ∧ w.cell? ⟨g, off + 23, none⟩ = some (.int .i64 c.bK) ∧ w.cell? ⟨g, off + 24, none⟩ = some (.int .i64 c.aP) ∧ w.cell? ⟨g, off + 25, none⟩ = some (.int .i64 c.aV) ∧ w.cell? ⟨g, off + 26, none⟩ = some (.string c.bL) ∧ w.cell? ⟨g, off + 27, none⟩ = some (.int .i64 c.aJ) ∧ w.cell? ⟨g, off + 28, none⟩ = some (.int .i64 c.aD) := by
 obtain ⟨cs, h1, h2, h3, h4⟩ := h
 obtain ⟨A0, n0, A1, n1, A2, n2, A3, n3, A4, n4, A5, n5, A6, n6, A7, n7, A8, n8, A9, n9, A10, n10, A11, n11, A12, n12, hx, l0, a0, b0, l1, a1, b1, l2, a2, b2, l3, a3, b3, l4, a4, b4, l5, a5, b5, l6, a6, b6, l7, a7, b7, l8, a8, b8, l9, a9, b9, l10, a10, b10, l11, a11, b11, l12, a12, b12⟩ := eG.form h1
 injection hx with hx
 obtain rfl : cs = [_, _, _, _, _, _, _, _, _, _, _, _, _, _, _, _, _, _, _, _, _, _, _, _, _, _, _, _, _] := congrArg Array.toList hx
 exact ⟨A0, n0, A1, n1, A2, n2, A3, n3, A4, n4, A5, n5, A6, n6, A7, n7, A8, n8, A9, n9, A10, n10, A11, n11, A12, n12, h3, h4, l0, a0, b0, l1, a1, b1, l2, a2, b2, l3, a3, b3, l4, a4, b4, l5, a5, b5, l6, a6, b6, l7, a7, b7, l8, a8, b8, l9, a9, b9, l10, a10, b10, l11, a11, b11, l12, a12, b12, h2 0 _ rfl, h2 1 _ rfl, h2 2 _ rfl, h2 3 _ rfl, h2 4 _ rfl, h2 5 _ rfl, h2 6 _ rfl, h2 7 _ rfl, h2 8 _ rfl, h2 9 _ rfl, h2 10 _ rfl, h2 11 _ rfl, h2 12 _ rfl, h2 13 _ rfl, h2 14 _ rfl, h2 15 _ rfl, h2 16 _ rfl, h2 17 _ rfl, h2 18 _ rfl, h2 19 _ rfl, h2 20 _ rfl, h2 21 _ rfl, h2 22 _ rfl, h2 23 _ rfl, h2 24 _ rfl, h2 25 _ rfl, h2 26 _ rfl, h2 27 _ rfl, h2 28 _ rfl⟩
theorem eG.Nh {w : World} {g off lo hi : Nat} {c : eG} (h : At w g off lo hi eG.ay c) : At w g (off + 0) lo hi dK.ay c.code := by
 obtain ⟨bM, bq, bZ, bU, cu, bV, dD, cZ, dG, dh, bO, bu, bP, bB, bQ, bC, cB, bW, dH, dw, bS, bD, eH, eD, fC, fq, h3, h4, gX, _, _, iE, _, _, iF, _, _, ji, _, _, iL, _, _, gP, _, _, gy, _, _, gQ, _, _, iy, _, _, iM, _, _, gT, _, _, pq, _, _, oz, _, _, Q0, Q1, Q2, Q3, Q4, Q5, Q6, Q7, Q8, Q9, Q10, Q11, Q12, Q13, Q14, Q15, Q16, Q17, Q18, Q19, Q20, Q21, Q22, Q23, Q24, Q25, Q26, Q27, Q28⟩ := eG.in_ h
 refine ⟨[_, _, _, _, _], (dK.mk_ gX iE iF ji), fun i u hu => ?_, h3, h4⟩
 rcases i with _ | i
 ·obtain rfl := Option.some.inj hu; exact Q0
 rcases i with _ | i
 ·obtain rfl := Option.some.inj hu; exact Q1
 rcases i with _ | i
 ·obtain rfl := Option.some.inj hu; exact Q2
 rcases i with _ | i
 ·obtain rfl := Option.some.inj hu; exact Q3
 rcases i with _ | i
 ·obtain rfl := Option.some.inj hu; exact Q4
 exact absurd hu (by simp)
theorem eG.qF {w : World} {g off lo hi : Nat} {c : eG} (h : At w g off lo hi eG.ay c) : At w g (off + 5) lo hi dP.ay c.store := by
 obtain ⟨bM, bq, bZ, bU, cu, bV, dD, cZ, dG, dh, bO, bu, bP, bB, bQ, bC, cB, bW, dH, dw, bS, bD, eH, eD, fC, fq, h3, h4, gX, _, _, iE, _, _, iF, _, _, ji, _, _, iL, _, _, gP, _, _, gy, _, _, gQ, _, _, iy, _, _, iM, _, _, gT, _, _, pq, _, _, oz, _, _, Q0, Q1, Q2, Q3, Q4, Q5, Q6, Q7, Q8, Q9, Q10, Q11, Q12, Q13, Q14, Q15, Q16, Q17, Q18, Q19, Q20, Q21, Q22, Q23, Q24, Q25, Q26, Q27, Q28⟩ := eG.in_ h
 refine ⟨[_, _, _, _, _, _, _, _, _, _, _, _, _], (dP.mk_ iL gP gy gQ iy iM gT), fun i u hu => ?_, h3, h4⟩
 rcases i with _ | i
 ·obtain rfl := Option.some.inj hu; exact Q5
 rcases i with _ | i
 ·obtain rfl := Option.some.inj hu; exact Q6
 rcases i with _ | i
 ·obtain rfl := Option.some.inj hu; exact Q7
 rcases i with _ | i
 ·obtain rfl := Option.some.inj hu; exact Q8
 rcases i with _ | i
 ·obtain rfl := Option.some.inj hu; exact Q9
 rcases i with _ | i
 ·obtain rfl := Option.some.inj hu; exact Q10
 rcases i with _ | i
 ·obtain rfl := Option.some.inj hu; exact Q11
 rcases i with _ | i
 ·obtain rfl := Option.some.inj hu; exact Q12
 rcases i with _ | i
 ·obtain rfl := Option.some.inj hu; exact Q13
 rcases i with _ | i
 ·obtain rfl := Option.some.inj hu; exact Q14
 rcases i with _ | i
 ·obtain rfl := Option.some.inj hu; exact Q15
 rcases i with _ | i
 ·obtain rfl := Option.some.inj hu; exact Q16
 rcases i with _ | i
 ·obtain rfl := Option.some.inj hu; exact Q17
 exact absurd hu (by simp)
end Go.Proofs.YtoddlphekcihgaaGreatDoor
