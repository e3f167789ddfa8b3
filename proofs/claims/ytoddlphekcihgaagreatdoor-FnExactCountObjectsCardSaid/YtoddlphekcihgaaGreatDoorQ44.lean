/- Rj, QJ of the laws. Ul, TJ of the laws. Rk, QK of the laws. -/
import Derived.Test.YtoddlphekcihgaaGreatDoorQ43
set_option maxRecDepth 100000
set_option maxHeartbeats 8000000
set_option linter.unusedVariables false
set_option linter.unusedSimpArgs false
namespace Go.Proofs.YtoddlphekcihgaaGreatDoor
open Go.RowKit
theorem Ea (c : eG) (x : Value) (left : Int) (w : World) (lo hi : Nat) (h : fA w lo hi eG.ay x c) (hhi : hi ≤ w.heap.size) (hl0 : 0 ≤ left) (hl1 : left ≤ 1048576) (hf : c.Fits) :
 Calls Tryz.prog 4 #[x, .int .i64 left] w fun e w' => e = .returned (.int .i64 (leftOf left c.dX)) ∧ Below w.heap.size w w' := by
 obtain ⟨bM, bq, bZ, bU, cu, bV, dD, cZ, dG, dh, bO, bu, bP, bB, bQ, bC, cB, bW, dH, dw, bS, bD, eH, eD, fC, fq, rfl, gX, og, kQ, iE, oM, lC, iF, oN, lD, ji, pU, mM, iL, pV, mP, gP, oh, kR, gy, lq, jd, gQ, om, kS, iy, oO, lF, iM, pW, mQ, gT, oo, kT, pq, sD, qG, oz, vw, rX⟩ := eG.form h
 obtain ⟨OI, MF, Hf, Jp⟩ := hf
 have HB : Hid (c.dX = c.code.dX + c.store.dX + (c.bY.length + sumOf jS.dX c.bY) + (c.dQ.length + sumOf oL c.dQ) + c.result.dX) := rfl
 unfold maxLen at kQ lC
 unfold maxLen at lD mM
 unfold maxLen at mP kR
 unfold maxLen at jd kS
 unfold maxLen at lF mQ
 unfold maxLen at kT qG rX
 have TK := lH OI
 clear OI
 have QL := lH MF
 clear MF
 have MG := lH Hf
 clear Hf
 have On := lH Jp
 clear Jp
 have hw0 : Below w.heap.size w (w.alloc (.cells #[Value.slice bM c.aF.length bq, .slice bZ c.aK.length bU, .slice cu c.aL.length bV, .int .i64 c.dO, .slice dD c.bf.length cZ, .slice dG c.aR.length dh, .slice bO c.aG.length bu, .slice bP c.aM.length bB, .slice bQ c.aH.length bC, .string c.aU, .int .i64 c.aO, .slice cB c.aS.length bW, .slice dH c.bg.length dw, .slice bS c.aN.length bD, .bool c.aT, .int .i64 c.bX, .int .i64 c.bn, .int .i64 c.dA, .slice eH c.bY.length eD, .slice fC c.dQ.length fq, .int .i64 c.status, .int .i64 c.fault, .int .i64 c.line, .int .i64 c.bK, .int .i64 c.aP, .int .i64 c.aV, .string c.bL, .int .i64 c.aJ, .int .i64 c.aD] 40)) := bA _ _
 go_enter Tryz.func4, Tryz.ntmps4
 go_wp2_with fail
 refine (Iu c.code _ _ _ lo hi (dK.mk_ (gX.below hw0 hhi) (iE.below hw0 hhi) (iF.below hw0 hhi) (ji.below hw0 hhi)) (nT hhi hw0.size) (by omega) (by omega) TK.out).mono ?_; rintro e w1 ⟨rfl, hb1⟩
 have hw1 : Below w.heap.size w w1 := hw0.trans (hb1.mono hw0.size)
 have a1 := (Blk.new w 40 #[Value.slice bM c.aF.length bq, .slice bZ c.aK.length bU, .slice cu c.aL.length bV, .int .i64 c.dO, .slice dD c.bf.length cZ, .slice dG c.aR.length dh, .slice bO c.aG.length bu, .slice bP c.aM.length bB, .slice bQ c.aH.length bC, .string c.aU, .int .i64 c.aO, .slice cB c.aS.length bW, .slice dH c.bg.length dw, .slice bS c.aN.length bD, .bool c.aT, .int .i64 c.bX, .int .i64 c.bn, .int .i64 c.dA, .slice eH c.bY.length eD, .slice fC c.dQ.length fq, .int .i64 c.status, .int .i64 c.fault, .int .i64 c.line, .int .i64 c.bK, .int .i64 c.aP, .int .i64 c.aV, .string c.bL, .int .i64 c.aJ, .int .i64 c.aD]).later hb1
 have ca := a1.cell
 have la := a1.lt
 by_cases MH : left < (c.code.dX : Nat)
 ·rw [dM MH]
  go_wp2_with fail
  go_ret
  exact ⟨eX (dM (by have := HB.out; omega)).symm, hw1⟩
 rw [ep MH]
 generalize hL : left - ((c.code.dX : Nat) : Int) = mF
 have l1a : mF ≤ left - (c.code.dX : Nat) := by omega
 have l1b : left - (c.code.dX : Nat) ≤ mF := by omega
 clear hL
 go_wp2_with fail
 refine (GI c.store _ _ _ lo hi (dP.mk_ (iL.below hw1 hhi) (gP.below hw1 hhi) (gy.below hw1 hhi) (gQ.below hw1 hhi) (iy.below hw1 hhi) (iM.below hw1 hhi) (gT.below hw1 hhi)) (nT hhi hw1.size) (by omega) (by omega) QL.out).mono ?_; rintro e w2 ⟨rfl, hb2⟩
 have hw2 : Below w.heap.size w w2 := hw1.trans (hb2.mono hw1.size)
 have a2 := a1.later hb2
 clear ca la
 have ca := a2.cell
 have la := a2.lt
 by_cases Jq : mF < (c.store.dX : Nat)
 ·rw [dM Jq]
  go_wp2_with fail
  go_ret
  exact ⟨eX (dM (by have := HB.out; omega)).symm, hw2⟩
 rw [ep Jq]
 generalize hL : mF - ((c.store.dX : Nat) : Int) = oC
 have l2a : oC ≤ mF - (c.store.dX : Nat) := by omega
 have l2b : mF - (c.store.dX : Nat) ≤ oC := by omega
 clear hL
 go_wp2_with fail
 refine (D8 c.bY _ _ _ lo hi (pq.below hw2 hhi) (nT hhi hw2.size) (by omega) (by omega) MG.out).mono ?_; rintro e w3 ⟨rfl, hb3⟩
 have hw3 : Below w.heap.size w w3 := hw2.trans (hb3.mono hw2.size)
 have a3 := a2.later hb3
 clear ca la
 have ca := a3.cell
 have la := a3.lt
 by_cases ED : oC < ((c.bY.length + sumOf jS.dX c.bY) : Nat)
 ·rw [dM ED]
  go_wp2_with fail
  go_ret
  exact ⟨eX (dM (by have := HB.out; omega)).symm, hw3⟩
 rw [ep ED]
 generalize hL : oC - (((c.bY.length + sumOf jS.dX c.bY) : Nat) : Int) = pI
 have l3a : pI ≤ oC - ((c.bY.length + sumOf jS.dX c.bY) : Nat) := by omega
 have l3b : oC - ((c.bY.length + sumOf jS.dX c.bY) : Nat) ≤ pI := by omega
 clear hL
 go_wp2_with fail
 refine (yG c.dQ _ _ _ lo hi (oz.below hw3 hhi) (nT hhi hw3.size) (by omega) (by omega)).mono ?_; rintro e w4 ⟨rfl, hb4⟩
 have hw4 : Below w.heap.size w w4 := hw3.trans (hb4.mono hw3.size)
 have a4 := a3.later hb4
 clear ca la
 have ca := a4.cell
 have la := a4.lt
 by_cases Hg : pI < ((c.dQ.length + sumOf oL c.dQ) : Nat)
 ·rw [dM Hg]
  go_wp2_with fail
  go_ret
  exact ⟨eX (dM (by have := HB.out; omega)).symm, hw4⟩
 rw [ep Hg]
 generalize hL : pI - (((c.dQ.length + sumOf oL c.dQ) : Nat) : Int) = qo
 have l4a : qo ≤ pI - ((c.dQ.length + sumOf oL c.dQ) : Nat) := by omega
 have l4b : pI - ((c.dQ.length + sumOf oL c.dQ) : Nat) ≤ qo := by omega
 clear hL
 go_wp2_with fail
 refine (AJ c.result _ _ _ lo hi (aQ.mk_) (nT hhi hw4.size) (by omega) (by omega) On.out).mono ?_; rintro e w5 ⟨rfl, hb5⟩
 have hw5 : Below w.heap.size w w5 := hw4.trans (hb5.mono hw4.size)
 have a5 := a4.later hb5
 clear ca la
 have ca := a5.cell
 have la := a5.lt
 by_cases Hl : qo < (c.result.dX : Nat)
 ·rw [dM Hl]
  go_wp2_with fail
  go_ret
  exact ⟨eX (dM (by have := HB.out; omega)).symm, hw5⟩
 rw [ep Hl]
 generalize hL : qo - ((c.result.dX : Nat) : Int) = vg
 have l5a : vg ≤ qo - (c.result.dX : Nat) := by omega
 have l5b : qo - (c.result.dX : Nat) ≤ vg := by omega
 clear hL
 go_wp2_with fail
 go_ret
 exact ⟨eX (by rw [ep (by have := HB.out; omega)]; have := HB.out; omega), hw5⟩
theorem F5 (c : dP) (x : Value) (w : World) (lo hi : Nat) (h : fA w lo hi dP.ay x c) (hhi : hi ≤ w.heap.size) (hbk : c.dX ≤ 1048576) :
 Calls Tryz.prog 16 #[x] w (uN dP.ay c w) := by
 obtain ⟨qh, oD, bE, aY, lZ, kN, bH, aZ, nY, mJ, qj, oF, mq, kP, rfl, yJ, LA, Fy, qd, xM, tN, vG, GJ, zu, qg, xN, tO, wT, Jh, BI, yK, LB, Fz, vH, GK, zw⟩ := dP.form h
 unfold dP.dX at hbk
 unfold maxLen at Fy tN
 unfold maxLen at zu tO
 unfold maxLen at BI Fz zw
 go_enter Tryz.func16, Tryz.ntmps16
 go_wp2_with fail
 have fr0 := rZ.new w 32 52 #[Value.slice qh c.fu.length oD, .slice bE c.aA.length aY, .slice lZ c.aI.length kN, .slice bH c.aB.length aZ, .string c.dR, .int .i64 c.dL, .slice nY c.output.length mJ, .slice qj c.gV.length oF, .slice mq c.dY.length kP, .bool c.gF, .int .i64 c.je, .int .i64 c.fT, .int .i64 c.kI] #[Value.slice none 0 0, .slice none 0 0, .slice none 0 0, .slice none 0 0, .string ⟨#[]⟩, .int .i64 0, .slice none 0 0, .slice none 0 0, .slice none 0 0, .bool false, .int .i64 0, .int .i64 0, .int .i64 0] #[Value.slice none 0 0, .slice none 0 0, .slice none 0 0, .slice none 0 0, .string ⟨#[]⟩, .int .i64 0, .slice none 0 0, .slice none 0 0, .slice none 0 0, .bool false, .int .i64 0, .int .i64 0, .int .i64 0]
 refine (uQ c.fu _ _ lo hi (yJ.below fr0.bel hhi) (by simp; omega) (by omega)).mono ?_; rintro e w1 ⟨v1, rfl, r1, hb1⟩
 obtain ⟨B1, m1, rfl, -, -⟩ := r1.rep.shape
 have fr1 := fr0.later hb1
 have z1 : w.heap.size + 3 ≤ w1.heap.size := by have := fr1.var.lt; omega
 have R1 : dI w1 (w.heap.size + 3) w1.heap.size 1 eF (.slice B1 c.fu.length m1) c.fu := r1.wide (by simp) (nR _)
 clear hb1 r1
 obtain ⟨ca, co, fo, cr, fr', la, lv⟩ := fr1.rJ
 go_wp2_with fail
 refine (vQ c.aA _ _ lo hi (qd.below (fr1.bel.setCell (by simp; omega) _) hhi) (nT hhi (fr1.bel.setCell (by simp; omega) _).size) (by omega)).mono ?_; rintro e w2 ⟨v2, rfl, r2, hb2⟩
 obtain ⟨B2, m2, rfl, -, -⟩ := r2.rep.shape
 have fr2 := (fr1.set _ _).later hb2
 have z2 : w.heap.size + 3 ≤ w2.heap.size := by have := fr2.var.lt; omega
 have R2 : dI w2 w1.heap.size w2.heap.size 3 gU.ay (.slice B2 c.aA.length m2) c.aA := r2.wide (by simp [World.setCell]) (nR _)
 have y2 : w1.heap.size ≤ w2.heap.size := by have := hb2.size; simpa [World.setCell] using this
 replace R1 := dI.below (dI.eY R1 (.inl (by simp <;> omega)) _) hb2 (by simp [World.setCell] <;> omega)
 clear co fo ca cr fr' hb2 r2 la lv
 obtain ⟨ca, co, fo, cr, fr', la, lv⟩ := fr2.rJ
 go_wp2_with fail
 refine (Ct c.aI _ _ lo hi (vG.below (fr2.bel.setCell (by simp; omega) _) hhi) (nT hhi (fr2.bel.setCell (by simp; omega) _).size) (by omega)).mono ?_; rintro e w3 ⟨v3, rfl, r3, hb3⟩
 obtain ⟨B3, m3, rfl, -, -⟩ := r3.rep.shape
 have fr3 := (fr2.set _ _).later hb3
 have z3 : w.heap.size + 3 ≤ w3.heap.size := by have := fr3.var.lt; omega
 have R3 : dI w3 w2.heap.size w3.heap.size 5 fV.ay (.slice B3 c.aI.length m3) c.aI := r3.wide (by simp [World.setCell]) (nR _)
 have y3 : w2.heap.size ≤ w3.heap.size := by have := hb3.size; simpa [World.setCell] using this
 replace R1 := dI.below (dI.eY R1 (.inl (by simp <;> omega)) _) hb3 (by simp [World.setCell] <;> omega)
 have T2 := dI.below (dI.eY R2 (.inl (by simp <;> omega)) _) hb3 (by simp [World.setCell] <;> omega)
 clear R2
 have R2 := T2
 clear T2 co fo ca cr fr' hb3 r3 la lv
 obtain ⟨ca, co, fo, cr, fr', la, lv⟩ := fr3.rJ
 go_wp2_with fail
 refine (rA c.aB _ _ lo hi (qg.below (fr3.bel.setCell (by simp; omega) _) hhi) (nT hhi (fr3.bel.setCell (by simp; omega) _).size) (by omega)).mono ?_; rintro e w4 ⟨v4, rfl, r4, hb4⟩
 obtain ⟨B4, m4, rfl, -, -⟩ := r4.rep.shape
 have fr4 := (fr3.set _ _).later hb4
 have z4 : w.heap.size + 3 ≤ w4.heap.size := by have := fr4.var.lt; omega
 have R4 : dI w4 w3.heap.size w4.heap.size 6 aQ.ay (.slice B4 c.aB.length m4) c.aB := r4.wide (by simp [World.setCell]) (nR _)
 have y4 : w3.heap.size ≤ w4.heap.size := by have := hb4.size; simpa [World.setCell] using this
 replace R1 := dI.below (dI.eY R1 (.inl (by simp <;> omega)) _) hb4 (by simp [World.setCell] <;> omega)
 have T2 := dI.below (dI.eY R2 (.inl (by simp <;> omega)) _) hb4 (by simp [World.setCell] <;> omega)
 clear R2
 have R2 := T2
 clear T2
 have T3 := dI.below (dI.eY R3 (.inl (by simp <;> omega)) _) hb4 (by simp [World.setCell] <;> omega)
 clear R3
 have R3 := T3
 clear T3 co fo ca cr fr' hb4 r4 la lv
 obtain ⟨ca, co, fo, cr, fr', la, lv⟩ := fr4.rJ
 go_wp2_with fail
 refine (uQ c.output _ _ lo hi (wT.below (((fr4.bel.setCell (by simp; omega) _).setCell (by simp; omega) _).setCell (by simp; omega) _) hhi) (nT hhi (((fr4.bel.setCell (by simp; omega) _).setCell (by simp; omega) _).setCell (by simp; omega) _).size) (by omega)).mono ?_; rintro e w5 ⟨v5, rfl, r5, hb5⟩
 obtain ⟨B5, m5, rfl, -, -⟩ := r5.rep.shape
 have fr5 := (((fr4.set _ _).set _ _).set _ _).later hb5
 have z5 : w.heap.size + 3 ≤ w5.heap.size := by have := fr5.var.lt; omega
 have R5 : dI w5 w4.heap.size w5.heap.size 1 eF (.slice B5 c.output.length m5) c.output := r5.wide (by simp [World.setCell]) (nR _)
 have y5 : w4.heap.size ≤ w5.heap.size := by have := hb5.size; simpa [World.setCell] using this
 replace R1 := dI.below (dI.eY (dI.eY (dI.eY R1 (.inl (by simp <;> omega)) _) (.inl (by simp <;> omega)) _) (.inl (by simp <;> omega)) _) hb5 (by simp [World.setCell] <;> omega)
 have T2 := dI.below (dI.eY (dI.eY (dI.eY R2 (.inl (by simp <;> omega)) _) (.inl (by simp <;> omega)) _) (.inl (by simp <;> omega)) _) hb5 (by simp [World.setCell] <;> omega)
 clear R2
 have R2 := T2
 clear T2
 have T3 := dI.below (dI.eY (dI.eY (dI.eY R3 (.inl (by simp <;> omega)) _) (.inl (by simp <;> omega)) _) (.inl (by simp <;> omega)) _) hb5 (by simp [World.setCell] <;> omega)
 clear R3
 have R3 := T3
 clear T3
 have T4 := dI.below (dI.eY (dI.eY (dI.eY R4 (.inl (by simp <;> omega)) _) (.inl (by simp <;> omega)) _) (.inl (by simp <;> omega)) _) hb5 (by simp [World.setCell] <;> omega)
 clear R4
 have R4 := T4
 clear T4 co fo ca cr fr' hb5 r5 la lv
 obtain ⟨ca, co, fo, cr, fr', la, lv⟩ := fr5.rJ
 go_wp2_with fail
 refine (uQ c.gV _ _ lo hi (yK.below (fr5.bel.setCell (by simp; omega) _) hhi) (nT hhi (fr5.bel.setCell (by simp; omega) _).size) (by omega)).mono ?_; rintro e w6 ⟨v6, rfl, r6, hb6⟩
 obtain ⟨B6, m6, rfl, -, -⟩ := r6.rep.shape
 have fr6 := (fr5.set _ _).later hb6
 have z6 : w.heap.size + 3 ≤ w6.heap.size := by have := fr6.var.lt; omega
 have R6 : dI w6 w5.heap.size w6.heap.size 1 eF (.slice B6 c.gV.length m6) c.gV := r6.wide (by simp [World.setCell]) (nR _)
 have y6 : w5.heap.size ≤ w6.heap.size := by have := hb6.size; simpa [World.setCell] using this
 replace R1 := dI.below (dI.eY R1 (.inl (by simp <;> omega)) _) hb6 (by simp [World.setCell] <;> omega)
 have T2 := dI.below (dI.eY R2 (.inl (by simp <;> omega)) _) hb6 (by simp [World.setCell] <;> omega)
 clear R2
 have R2 := T2
 clear T2
 have T3 := dI.below (dI.eY R3 (.inl (by simp <;> omega)) _) hb6 (by simp [World.setCell] <;> omega)
 clear R3
 have R3 := T3
 clear T3
 have T4 := dI.below (dI.eY R4 (.inl (by simp <;> omega)) _) hb6 (by simp [World.setCell] <;> omega)
 clear R4
 have R4 := T4
 clear T4
 have T5 := dI.below (dI.eY R5 (.inl (by simp <;> omega)) _) hb6 (by simp [World.setCell] <;> omega)
 clear R5
 have R5 := T5
 clear T5 co fo ca cr fr' hb6 r6 la lv
 obtain ⟨ca, co, fo, cr, fr', la, lv⟩ := fr6.rJ
 go_wp2_with fail
 refine (Cr c.dY _ _ lo hi (vH.below (fr6.bel.setCell (by simp; omega) _) hhi) (nT hhi (fr6.bel.setCell (by simp; omega) _).size) (by omega)).mono ?_; rintro e w7 ⟨v7, rfl, r7, hb7⟩
 obtain ⟨B7, m7, rfl, -, -⟩ := r7.rep.shape
 have fr7 := (fr6.set _ _).later hb7
 have z7 : w.heap.size + 3 ≤ w7.heap.size := by have := fr7.var.lt; omega
 have R7 : dI w7 w6.heap.size w7.heap.size 2 kZ.ay (.slice B7 c.dY.length m7) c.dY := r7.wide (by simp [World.setCell]) (nR _)
 have y7 : w6.heap.size ≤ w7.heap.size := by have := hb7.size; simpa [World.setCell] using this
 replace R1 := dI.below (dI.eY R1 (.inl (by simp <;> omega)) _) hb7 (by simp [World.setCell] <;> omega)
 have T2 := dI.below (dI.eY R2 (.inl (by simp <;> omega)) _) hb7 (by simp [World.setCell] <;> omega)
 clear R2
 have R2 := T2
 clear T2
 have T3 := dI.below (dI.eY R3 (.inl (by simp <;> omega)) _) hb7 (by simp [World.setCell] <;> omega)
 clear R3
 have R3 := T3
 clear T3
 have T4 := dI.below (dI.eY R4 (.inl (by simp <;> omega)) _) hb7 (by simp [World.setCell] <;> omega)
 clear R4
 have R4 := T4
 clear T4
 have T5 := dI.below (dI.eY R5 (.inl (by simp <;> omega)) _) hb7 (by simp [World.setCell] <;> omega)
 clear R5
 have R5 := T5
 clear T5
 have T6 := dI.below (dI.eY R6 (.inl (by simp <;> omega)) _) hb7 (by simp [World.setCell] <;> omega)
 clear R6
 have R6 := T6
 clear T6 co fo ca cr fr' hb7 r7 la lv
 obtain ⟨ca, co, fo, cr, fr', la, lv⟩ := fr7.rJ
 go_wp2_with fail
 refine bodyPost_ret (v := .agg #[Value.slice B1 c.fu.length m1, .slice B2 c.aA.length m2, .slice B3 c.aI.length m3, .slice B4 c.aB.length m4, .string c.dR, .int .i64 c.dL, .slice B5 c.output.length m5, .slice B6 c.gV.length m6, .slice B7 c.dY.length m7, .bool c.gF, .int .i64 c.je, .int .i64 c.fT, .int .i64 c.kI]) ?_ rfl ⟨[Value.slice B1 c.fu.length m1, .slice B2 c.aA.length m2, .slice B3 c.aI.length m3, .slice B4 c.aB.length m4, .string c.dR, .int .i64 c.dL, .slice B5 c.output.length m5, .slice B6 c.gV.length m6, .slice B7 c.dY.length m7, .bool c.gF, .int .i64 c.je, .int .i64 c.fT, .int .i64 c.kI], rfl, (.rR (mid := w1.heap.size) ?_ (.rR (mid := w2.heap.size) ?_ (.rR (mid := w3.heap.size) ?_ (.rR (mid := w4.heap.size) ?_ (.wD (.gG (.rR (mid := w5.heap.size) ?_ (.rR (mid := w6.heap.size) ?_ (.rR (mid := w7.heap.size) ?_ (.Ga (.gG (.gG (.gG .lu)))) (by omega) (by first | (simp [World.setCell] <;> omega) | exact nR _ | omega)) (by omega) (by first | (simp [World.setCell] <;> omega) | exact nR _ | omega)) (by omega) (by first | (simp [World.setCell] <;> omega) | exact nR _ | omega)))) (by omega) (by first | (simp [World.setCell] <;> omega) | exact nR _ | omega)) (by omega) (by first | (simp [World.setCell] <;> omega) | exact nR _ | omega)) (by omega) (by first | (simp [World.setCell] <;> omega) | exact nR _ | omega)) (by omega) (by first | (simp [World.setCell] <;> omega) | exact nR _ | omega)), ?_⟩
 ·simp [results, Tryz.results16, go_sem, cr]
 ·refine dI.wide (lo := w.heap.size + 3) (hi := w1.heap.size) ?_ (by omega) (nR _)
  iterate 18 refine dI.eY ?_ (.inl (by simp <;> omega)) _
  exact R1
 ·refine dI.wide (lo := w1.heap.size) (hi := w2.heap.size) ?_ (by omega) (nR _)
  iterate 18 refine dI.eY ?_ (.inl (by simp <;> omega)) _
  exact R2
 ·refine dI.wide (lo := w2.heap.size) (hi := w3.heap.size) ?_ (by omega) (nR _)
  iterate 18 refine dI.eY ?_ (.inl (by simp <;> omega)) _
  exact R3
 ·refine dI.wide (lo := w3.heap.size) (hi := w4.heap.size) ?_ (by omega) (nR _)
  iterate 18 refine dI.eY ?_ (.inl (by simp <;> omega)) _
  exact R4
 ·refine dI.wide (lo := w4.heap.size) (hi := w5.heap.size) ?_ (by omega) (nR _)
  iterate 18 refine dI.eY ?_ (.inl (by simp <;> omega)) _
  exact R5
 ·refine dI.wide (lo := w5.heap.size) (hi := w6.heap.size) ?_ (by omega) (nR _)
  iterate 18 refine dI.eY ?_ (.inl (by simp <;> omega)) _
  exact R6
 ·refine dI.wide (lo := w6.heap.size) (hi := w7.heap.size) ?_ (by omega) (nR _)
  iterate 18 refine dI.eY ?_ (.inl (by simp <;> omega)) _
  exact R7
 ·iterate 18 refine Below.setCell ?_ (by simp <;> omega) _
  exact fr7.bel
theorem EE : (Tryz.prog.info? 58).map (·.size) = some 29 := by kernel_rfl
theorem Dc (c : eG) (x : Value) (w : World) (lo hi : Nat) (h : fA w lo hi eG.ay x c) (hhi : hi ≤ w.heap.size) (hbk : c.dX ≤ 1048576) :
 Calls Tryz.prog 6 #[x] w (uN eG.ay c w) := by
 obtain ⟨bM, bq, bZ, bU, cu, bV, dD, cZ, dG, dh, bO, bu, bP, bB, bQ, bC, cB, bW, dH, dw, bS, bD, eH, eD, fC, fq, rfl, gX, og, kQ, iE, oM, lC, iF, oN, lD, ji, pU, mM, iL, pV, mP, gP, oh, kR, gy, lq, jd, gQ, om, kS, iy, oO, lF, iM, pW, mQ, gT, oo, kT, pq, sD, qG, oz, vw, rX⟩ := eG.form h
 unfold eG.dX at hbk
 unfold maxLen at kQ lC
 unfold maxLen at lD mM
 unfold maxLen at mP kR
 unfold maxLen at jd kS
 unfold maxLen at lF mQ
 unfold maxLen at kT qG rX
 go_enter Tryz.func6, Tryz.ntmps6
 go_wp2_with fail
 have fr0 := rZ.new w 40 58 #[Value.slice bM c.aF.length bq, .slice bZ c.aK.length bU, .slice cu c.aL.length bV, .int .i64 c.dO, .slice dD c.bf.length cZ, .slice dG c.aR.length dh, .slice bO c.aG.length bu, .slice bP c.aM.length bB, .slice bQ c.aH.length bC, .string c.aU, .int .i64 c.aO, .slice cB c.aS.length bW, .slice dH c.bg.length dw, .slice bS c.aN.length bD, .bool c.aT, .int .i64 c.bX, .int .i64 c.bn, .int .i64 c.dA, .slice eH c.bY.length eD, .slice fC c.dQ.length fq, .int .i64 c.status, .int .i64 c.fault, .int .i64 c.line, .int .i64 c.bK, .int .i64 c.aP, .int .i64 c.aV, .string c.bL, .int .i64 c.aJ, .int .i64 c.aD] #[Value.slice none 0 0, .slice none 0 0, .slice none 0 0, .int .i64 0, .slice none 0 0, .slice none 0 0, .slice none 0 0, .slice none 0 0, .slice none 0 0, .string ⟨#[]⟩, .int .i64 0, .slice none 0 0, .slice none 0 0, .slice none 0 0, .bool false, .int .i64 0, .int .i64 0, .int .i64 0, .slice none 0 0, .slice none 0 0, .int .i64 0, .int .i64 0, .int .i64 0, .int .i64 0, .int .i64 0, .int .i64 0, .string ⟨#[]⟩, .int .i64 0, .int .i64 0] #[Value.slice none 0 0, .slice none 0 0, .slice none 0 0, .int .i64 0, .slice none 0 0, .slice none 0 0, .slice none 0 0, .slice none 0 0, .slice none 0 0, .string ⟨#[]⟩, .int .i64 0, .slice none 0 0, .slice none 0 0, .slice none 0 0, .bool false, .int .i64 0, .int .i64 0, .int .i64 0, .slice none 0 0, .slice none 0 0, .int .i64 0, .int .i64 0, .int .i64 0, .int .i64 0, .int .i64 0, .int .i64 0, .string ⟨#[]⟩, .int .i64 0, .int .i64 0]
 refine (GY c.code _ _ lo hi (dK.mk_ (gX.below fr0.bel hhi) (iE.below fr0.bel hhi) (iF.below fr0.bel hhi) (ji.below fr0.bel hhi)) (by simp; omega) (by omega)).mono ?_; rintro e w1 ⟨cs1, rfl, r1, hb1⟩
 obtain ⟨iB, iC, jk, jl, jm, jo, ku, kC, hcs, _, _, _, _, _, _, _, _, _, _, _, _⟩ := dK.form ⟨cs1, rfl, r1.rep⟩
 obtain rfl : cs1 = [Value.slice iB c.aF.length iC, .slice jk c.aK.length jl, .slice jm c.aL.length jo, .int .i64 c.dO, .slice ku c.bf.length kC] := congrArg Array.toList (Value.agg.inj hcs)
 clear hcs
 have fr1 := fr0.later hb1
 have z1 : w.heap.size + 3 ≤ w1.heap.size := by have := fr1.var.lt; omega
 have R1 : gZ w1 (w.heap.size + 3) w1.heap.size [Dat.row 4 c.aF.length (flat jF.ay c.aF), .row 3 c.aK.length (flat gU.ay c.aK), .row 1 c.aL.length (flat eF c.aL), .int .i64 c.dO, .row 5 c.bf.length (flat eO.ay c.bf)] [Value.slice iB c.aF.length iC, .slice jk c.aK.length jl, .slice jm c.aL.length jo, .int .i64 c.dO, .slice ku c.bf.length kC] := gZ.wide r1 (by simp) (nR _)
 clear hb1 r1 fr0
 obtain ⟨ca, co, fo, cr, fr', la, lv⟩ := fr1.rJ
 go_wp2_with fail
 obtain ⟨V1, hV⟩ : ∃ V, gq w1 (w.heap.size + 1 + 1) 0 [Value.slice iB c.aF.length iC, .slice jk c.aK.length jl, .slice jm c.aL.length jo, .int .i64 c.dO, .slice ku c.bf.length kC] = V := ⟨_, rfl⟩
 have gr1 : rZ w V1 40 58 #[Value.slice bM c.aF.length bq, .slice bZ c.aK.length bU, .slice cu c.aL.length bV, .int .i64 c.dO, .slice dD c.bf.length cZ, .slice dG c.aR.length dh, .slice bO c.aG.length bu, .slice bP c.aM.length bB, .slice bQ c.aH.length bC, .string c.aU, .int .i64 c.aO, .slice cB c.aS.length bW, .slice dH c.bg.length dw, .slice bS c.aN.length bD, .bool c.aT, .int .i64 c.bX, .int .i64 c.bn, .int .i64 c.dA, .slice eH c.bY.length eD, .slice fC c.dQ.length fq, .int .i64 c.status, .int .i64 c.fault, .int .i64 c.line, .int .i64 c.bK, .int .i64 c.aP, .int .i64 c.aV, .string c.bL, .int .i64 c.aJ, .int .i64 c.aD] #[Value.slice none 0 0, .slice none 0 0, .slice none 0 0, .int .i64 0, .slice none 0 0, .slice none 0 0, .slice none 0 0, .slice none 0 0, .slice none 0 0, .string ⟨#[]⟩, .int .i64 0, .slice none 0 0, .slice none 0 0, .slice none 0 0, .bool false, .int .i64 0, .int .i64 0, .int .i64 0, .slice none 0 0, .slice none 0 0, .int .i64 0, .int .i64 0, .int .i64 0, .int .i64 0, .int .i64 0, .int .i64 0, .string ⟨#[]⟩, .int .i64 0, .int .i64 0] #[Value.slice iB c.aF.length iC, .slice jk c.aK.length jl, .slice jm c.aL.length jo, .int .i64 c.dO, .slice ku c.bf.length kC, .slice none 0 0, .slice none 0 0, .slice none 0 0, .slice none 0 0, .string ⟨#[]⟩, .int .i64 0, .slice none 0 0, .slice none 0 0, .slice none 0 0, .bool false, .int .i64 0, .int .i64 0, .int .i64 0, .slice none 0 0, .slice none 0 0, .int .i64 0, .int .i64 0, .int .i64 0, .int .i64 0, .int .i64 0, .int .i64 0, .string ⟨#[]⟩, .int .i64 0, .int .i64 0] := by rw [← hV]; exact rZ.put fr1 0 [Value.slice iB c.aF.length iC, .slice jk c.aK.length jl, .slice jm c.aL.length jo, .int .i64 c.dO, .slice ku c.bf.length kC]
 replace R1 := gZ.gq (g := w.heap.size + 1 + 1) (.inl (by omega)) [Value.slice iB c.aF.length iC, .slice jk c.aK.length jl, .slice jm c.aL.length jo, .int .i64 c.dO, .slice ku c.bf.length kC] w1 0 R1
 rw [hV] at R1
 have sV1 : V1.heap.size = w1.heap.size := by rw [← hV, kK]
 simp only [gq, Nat.reduceAdd, Nat.zero_add] at hV
 rw [hV]
 clear hV co fo ca cr fr' la lv
 obtain ⟨ca, co, fo, cr, fr', la, lv⟩ := gr1.rJ
 refine (F5 c.store _ _ lo hi (dP.mk_ (iL.below gr1.bel hhi) (gP.below gr1.bel hhi) (gy.below gr1.bel hhi) (gQ.below gr1.bel hhi) (iy.below gr1.bel hhi) (iM.below gr1.bel hhi) (gT.below gr1.bel hhi)) (nT hhi gr1.bel.size) (by omega)).mono ?_; rintro e w2 ⟨cs2, rfl, r2, hb2⟩
 obtain ⟨lQ, lS, jq, jr, jv, jw, jy, jA, kD, kE, lT, lU, jB, jC, hcs, _, _, _, _, _, _, _, _, _, _, _, _, _, _, _, _, _, _, _, _, _⟩ := dP.form ⟨cs2, rfl, r2.rep⟩
 obtain rfl : cs2 = [Value.slice lQ c.aR.length lS, .slice jq c.aG.length jr, .slice jv c.aM.length jw, .slice jy c.aH.length jA, .string c.aU, .int .i64 c.aO, .slice kD c.aS.length kE, .slice lT c.bg.length lU, .slice jB c.aN.length jC, .bool c.aT, .int .i64 c.bX, .int .i64 c.bn, .int .i64 c.dA] := congrArg Array.toList (Value.agg.inj hcs)
 clear hcs
 have fr2 := gr1.later hb2
 have z2 : w.heap.size + 3 ≤ w2.heap.size := by have := fr2.var.lt; omega
 have R2 : gZ w2 w1.heap.size w2.heap.size [Dat.row 1 c.aR.length (flat eF c.aR), .row 3 c.aG.length (flat gU.ay c.aG), .row 5 c.aM.length (flat fV.ay c.aM), .row 6 c.aH.length (flat aQ.ay c.aH), .str c.aU, .int .i64 c.aO, .row 1 c.aS.length (flat eF c.aS), .row 1 c.bg.length (flat eF c.bg), .row 2 c.aN.length (flat kZ.ay c.aN), .bool c.aT, .int .i64 c.bX, .int .i64 c.bn, .int .i64 c.dA] [Value.slice lQ c.aR.length lS, .slice jq c.aG.length jr, .slice jv c.aM.length jw, .slice jy c.aH.length jA, .string c.aU, .int .i64 c.aO, .slice kD c.aS.length kE, .slice lT c.bg.length lU, .slice jB c.aN.length jC, .bool c.aT, .int .i64 c.bX, .int .i64 c.bn, .int .i64 c.dA] := gZ.wide r2 (by omega) (nR _)
 have y2 : w1.heap.size ≤ w2.heap.size := by have := hb2.size; omega
 replace R1 := gZ.below R1 hb2 (by omega)
 clear co fo ca cr fr' la lv hb2 r2 gr1
 obtain ⟨ca, co, fo, cr, fr', la, lv⟩ := fr2.rJ
 go_wp2_with fail
 obtain ⟨V2, hV⟩ : ∃ V, gq w2 (w.heap.size + 1 + 1) 5 [Value.slice lQ c.aR.length lS, .slice jq c.aG.length jr, .slice jv c.aM.length jw, .slice jy c.aH.length jA, .string c.aU, .int .i64 c.aO, .slice kD c.aS.length kE, .slice lT c.bg.length lU, .slice jB c.aN.length jC, .bool c.aT, .int .i64 c.bX, .int .i64 c.bn, .int .i64 c.dA] = V := ⟨_, rfl⟩
 have gr2 : rZ w V2 40 58 #[Value.slice bM c.aF.length bq, .slice bZ c.aK.length bU, .slice cu c.aL.length bV, .int .i64 c.dO, .slice dD c.bf.length cZ, .slice dG c.aR.length dh, .slice bO c.aG.length bu, .slice bP c.aM.length bB, .slice bQ c.aH.length bC, .string c.aU, .int .i64 c.aO, .slice cB c.aS.length bW, .slice dH c.bg.length dw, .slice bS c.aN.length bD, .bool c.aT, .int .i64 c.bX, .int .i64 c.bn, .int .i64 c.dA, .slice eH c.bY.length eD, .slice fC c.dQ.length fq, .int .i64 c.status, .int .i64 c.fault, .int .i64 c.line, .int .i64 c.bK, .int .i64 c.aP, .int .i64 c.aV, .string c.bL, .int .i64 c.aJ, .int .i64 c.aD] #[Value.slice none 0 0, .slice none 0 0, .slice none 0 0, .int .i64 0, .slice none 0 0, .slice none 0 0, .slice none 0 0, .slice none 0 0, .slice none 0 0, .string ⟨#[]⟩, .int .i64 0, .slice none 0 0, .slice none 0 0, .slice none 0 0, .bool false, .int .i64 0, .int .i64 0, .int .i64 0, .slice none 0 0, .slice none 0 0, .int .i64 0, .int .i64 0, .int .i64 0, .int .i64 0, .int .i64 0, .int .i64 0, .string ⟨#[]⟩, .int .i64 0, .int .i64 0] #[Value.slice iB c.aF.length iC, .slice jk c.aK.length jl, .slice jm c.aL.length jo, .int .i64 c.dO, .slice ku c.bf.length kC, .slice lQ c.aR.length lS, .slice jq c.aG.length jr, .slice jv c.aM.length jw, .slice jy c.aH.length jA, .string c.aU, .int .i64 c.aO, .slice kD c.aS.length kE, .slice lT c.bg.length lU, .slice jB c.aN.length jC, .bool c.aT, .int .i64 c.bX, .int .i64 c.bn, .int .i64 c.dA, .slice none 0 0, .slice none 0 0, .int .i64 0, .int .i64 0, .int .i64 0, .int .i64 0, .int .i64 0, .int .i64 0, .string ⟨#[]⟩, .int .i64 0, .int .i64 0] := by rw [← hV]; exact rZ.put fr2 5 [Value.slice lQ c.aR.length lS, .slice jq c.aG.length jr, .slice jv c.aM.length jw, .slice jy c.aH.length jA, .string c.aU, .int .i64 c.aO, .slice kD c.aS.length kE, .slice lT c.bg.length lU, .slice jB c.aN.length jC, .bool c.aT, .int .i64 c.bX, .int .i64 c.bn, .int .i64 c.dA]
 replace R1 := gZ.gq (g := w.heap.size + 1 + 1) (.inl (by omega)) [Value.slice lQ c.aR.length lS, .slice jq c.aG.length jr, .slice jv c.aM.length jw, .slice jy c.aH.length jA, .string c.aU, .int .i64 c.aO, .slice kD c.aS.length kE, .slice lT c.bg.length lU, .slice jB c.aN.length jC, .bool c.aT, .int .i64 c.bX, .int .i64 c.bn, .int .i64 c.dA] w2 5 R1
 rw [hV] at R1
 replace R2 := gZ.gq (g := w.heap.size + 1 + 1) (.inl (by omega)) [Value.slice lQ c.aR.length lS, .slice jq c.aG.length jr, .slice jv c.aM.length jw, .slice jy c.aH.length jA, .string c.aU, .int .i64 c.aO, .slice kD c.aS.length kE, .slice lT c.bg.length lU, .slice jB c.aN.length jC, .bool c.aT, .int .i64 c.bX, .int .i64 c.bn, .int .i64 c.dA] w2 5 R2
 rw [hV] at R2
 have sV2 : V2.heap.size = w2.heap.size := by rw [← hV, kK]
 simp only [gq, Nat.reduceAdd, Nat.zero_add] at hV
 rw [hV]
 clear hV co fo ca cr fr' la lv
 obtain ⟨ca, co, fo, cr, fr', la, lv⟩ := gr2.rJ
 refine (C9 c.bY _ _ lo hi (pq.below gr2.bel hhi) (nT hhi gr2.bel.size) (by omega)).mono ?_; rintro e w3 ⟨v3, rfl, r3, hb3⟩
 obtain ⟨B3, m3, rfl, -, -⟩ := r3.rep.shape
 have fr3 := gr2.later hb3
 have z3 : w.heap.size + 3 ≤ w3.heap.size := by have := fr3.var.lt; omega
 have R3 : dI w3 w2.heap.size w3.heap.size 12 jS.ay (.slice B3 c.bY.length m3) c.bY := r3.wide (by omega) (nR _)
 have y3 : w2.heap.size ≤ w3.heap.size := by have := hb3.size; omega
 replace R1 := gZ.below R1 hb3 (by omega)
 replace R2 := gZ.below R2 hb3 (by omega)
 clear co fo ca cr fr' la lv hb3 r3 gr2
 obtain ⟨ca, co, fo, cr, fr', la, lv⟩ := fr3.rJ
 go_wp2_with fail
 obtain ⟨V3, hV⟩ : ∃ V, gq w3 (w.heap.size + 1 + 1) 18 [Value.slice B3 c.bY.length m3] = V := ⟨_, rfl⟩
 have gr3 : rZ w V3 40 58 #[Value.slice bM c.aF.length bq, .slice bZ c.aK.length bU, .slice cu c.aL.length bV, .int .i64 c.dO, .slice dD c.bf.length cZ, .slice dG c.aR.length dh, .slice bO c.aG.length bu, .slice bP c.aM.length bB, .slice bQ c.aH.length bC, .string c.aU, .int .i64 c.aO, .slice cB c.aS.length bW, .slice dH c.bg.length dw, .slice bS c.aN.length bD, .bool c.aT, .int .i64 c.bX, .int .i64 c.bn, .int .i64 c.dA, .slice eH c.bY.length eD, .slice fC c.dQ.length fq, .int .i64 c.status, .int .i64 c.fault, .int .i64 c.line, .int .i64 c.bK, .int .i64 c.aP, .int .i64 c.aV, .string c.bL, .int .i64 c.aJ, .int .i64 c.aD] #[Value.slice none 0 0, .slice none 0 0, .slice none 0 0, .int .i64 0, .slice none 0 0, .slice none 0 0, .slice none 0 0, .slice none 0 0, .slice none 0 0, .string ⟨#[]⟩, .int .i64 0, .slice none 0 0, .slice none 0 0, .slice none 0 0, .bool false, .int .i64 0, .int .i64 0, .int .i64 0, .slice none 0 0, .slice none 0 0, .int .i64 0, .int .i64 0, .int .i64 0, .int .i64 0, .int .i64 0, .int .i64 0, .string ⟨#[]⟩, .int .i64 0, .int .i64 0] #[Value.slice iB c.aF.length iC, .slice jk c.aK.length jl, .slice jm c.aL.length jo, .int .i64 c.dO, .slice ku c.bf.length kC, .slice lQ c.aR.length lS, .slice jq c.aG.length jr, .slice jv c.aM.length jw, .slice jy c.aH.length jA, .string c.aU, .int .i64 c.aO, .slice kD c.aS.length kE, .slice lT c.bg.length lU, .slice jB c.aN.length jC, .bool c.aT, .int .i64 c.bX, .int .i64 c.bn, .int .i64 c.dA, .slice B3 c.bY.length m3, .slice none 0 0, .int .i64 0, .int .i64 0, .int .i64 0, .int .i64 0, .int .i64 0, .int .i64 0, .string ⟨#[]⟩, .int .i64 0, .int .i64 0] := by rw [← hV]; exact rZ.put fr3 18 [Value.slice B3 c.bY.length m3]
 replace R1 := gZ.gq (g := w.heap.size + 1 + 1) (.inl (by omega)) [Value.slice B3 c.bY.length m3] w3 18 R1
 rw [hV] at R1
 replace R2 := gZ.gq (g := w.heap.size + 1 + 1) (.inl (by omega)) [Value.slice B3 c.bY.length m3] w3 18 R2
 rw [hV] at R2
 replace R3 := dI.gq (g := w.heap.size + 1 + 1) (.inl (by omega)) [Value.slice B3 c.bY.length m3] w3 18 R3
 rw [hV] at R3
 have sV3 : V3.heap.size = w3.heap.size := by rw [← hV, kK]
 simp only [gq, Nat.reduceAdd, Nat.zero_add] at hV
 rw [hV]
 clear hV co fo ca cr fr' la lv
 obtain ⟨ca, co, fo, cr, fr', la, lv⟩ := gr3.rJ
 refine (xL c.dQ _ _ lo hi (oz.below gr3.bel hhi) (nT hhi gr3.bel.size) (by omega)).mono ?_; rintro e w4 ⟨v4, rfl, r4, hb4⟩
 obtain ⟨B4, m4, rfl, -, -⟩ := r4.rep.shape
 have fr4 := gr3.later hb4
 have z4 : w.heap.size + 3 ≤ w4.heap.size := by have := fr4.var.lt; omega
 have R4 : dI w4 w3.heap.size w4.heap.size 1 gW (.slice B4 c.dQ.length m4) c.dQ := r4.wide (by omega) (nR _)
 have y4 : w3.heap.size ≤ w4.heap.size := by have := hb4.size; omega
 replace R1 := gZ.below R1 hb4 (by omega)
 replace R2 := gZ.below R2 hb4 (by omega)
 replace R3 := dI.below R3 hb4 (by omega)
 clear co fo ca cr fr' la lv hb4 r4 gr3
 obtain ⟨ca, co, fo, cr, fr', la, lv⟩ := fr4.rJ
 go_wp2_with fail
 obtain ⟨V4, hV⟩ : ∃ V, gq w4 (w.heap.size + 1 + 1) 19 [Value.slice B4 c.dQ.length m4, .int .i64 c.status, .int .i64 c.fault, .int .i64 c.line] = V := ⟨_, rfl⟩
 have gr4 : rZ w V4 40 58 #[Value.slice bM c.aF.length bq, .slice bZ c.aK.length bU, .slice cu c.aL.length bV, .int .i64 c.dO, .slice dD c.bf.length cZ, .slice dG c.aR.length dh, .slice bO c.aG.length bu, .slice bP c.aM.length bB, .slice bQ c.aH.length bC, .string c.aU, .int .i64 c.aO, .slice cB c.aS.length bW, .slice dH c.bg.length dw, .slice bS c.aN.length bD, .bool c.aT, .int .i64 c.bX, .int .i64 c.bn, .int .i64 c.dA, .slice eH c.bY.length eD, .slice fC c.dQ.length fq, .int .i64 c.status, .int .i64 c.fault, .int .i64 c.line, .int .i64 c.bK, .int .i64 c.aP, .int .i64 c.aV, .string c.bL, .int .i64 c.aJ, .int .i64 c.aD] #[Value.slice none 0 0, .slice none 0 0, .slice none 0 0, .int .i64 0, .slice none 0 0, .slice none 0 0, .slice none 0 0, .slice none 0 0, .slice none 0 0, .string ⟨#[]⟩, .int .i64 0, .slice none 0 0, .slice none 0 0, .slice none 0 0, .bool false, .int .i64 0, .int .i64 0, .int .i64 0, .slice none 0 0, .slice none 0 0, .int .i64 0, .int .i64 0, .int .i64 0, .int .i64 0, .int .i64 0, .int .i64 0, .string ⟨#[]⟩, .int .i64 0, .int .i64 0] #[Value.slice iB c.aF.length iC, .slice jk c.aK.length jl, .slice jm c.aL.length jo, .int .i64 c.dO, .slice ku c.bf.length kC, .slice lQ c.aR.length lS, .slice jq c.aG.length jr, .slice jv c.aM.length jw, .slice jy c.aH.length jA, .string c.aU, .int .i64 c.aO, .slice kD c.aS.length kE, .slice lT c.bg.length lU, .slice jB c.aN.length jC, .bool c.aT, .int .i64 c.bX, .int .i64 c.bn, .int .i64 c.dA, .slice B3 c.bY.length m3, .slice B4 c.dQ.length m4, .int .i64 c.status, .int .i64 c.fault, .int .i64 c.line, .int .i64 0, .int .i64 0, .int .i64 0, .string ⟨#[]⟩, .int .i64 0, .int .i64 0] := by rw [← hV]; exact rZ.put fr4 19 [Value.slice B4 c.dQ.length m4, .int .i64 c.status, .int .i64 c.fault, .int .i64 c.line]
 replace R1 := gZ.gq (g := w.heap.size + 1 + 1) (.inl (by omega)) [Value.slice B4 c.dQ.length m4, .int .i64 c.status, .int .i64 c.fault, .int .i64 c.line] w4 19 R1
 rw [hV] at R1
 replace R2 := gZ.gq (g := w.heap.size + 1 + 1) (.inl (by omega)) [Value.slice B4 c.dQ.length m4, .int .i64 c.status, .int .i64 c.fault, .int .i64 c.line] w4 19 R2
 rw [hV] at R2
 replace R3 := dI.gq (g := w.heap.size + 1 + 1) (.inl (by omega)) [Value.slice B4 c.dQ.length m4, .int .i64 c.status, .int .i64 c.fault, .int .i64 c.line] w4 19 R3
 rw [hV] at R3
 replace R4 := dI.gq (g := w.heap.size + 1 + 1) (.inl (by omega)) [Value.slice B4 c.dQ.length m4, .int .i64 c.status, .int .i64 c.fault, .int .i64 c.line] w4 19 R4
 rw [hV] at R4
 have sV4 : V4.heap.size = w4.heap.size := by rw [← hV, kK]
 simp only [gq, Nat.reduceAdd, Nat.zero_add] at hV
 rw [hV]
 clear hV co fo ca cr fr' la lv
 obtain ⟨ca, co, fo, cr, fr', la, lv⟩ := gr4.rJ
 refine (za c.result _ _ lo hi (aQ.mk_) (nT hhi gr4.bel.size) (by omega)).mono ?_; rintro e w5 ⟨cs5, rfl, r5, hb5⟩
 obtain hcs := aQ.form ⟨cs5, rfl, r5.rep⟩
 obtain rfl : cs5 = [Value.int .i64 c.bK, .int .i64 c.aP, .int .i64 c.aV, .string c.bL, .int .i64 c.aJ, .int .i64 c.aD] := congrArg Array.toList (Value.agg.inj hcs)
 clear hcs
 have fr5 := gr4.later hb5
 have z5 : w.heap.size + 3 ≤ w5.heap.size := by have := fr5.var.lt; omega
 have R5 : gZ w5 w4.heap.size w5.heap.size [Dat.int .i64 c.bK, .int .i64 c.aP, .int .i64 c.aV, .str c.bL, .int .i64 c.aJ, .int .i64 c.aD] [Value.int .i64 c.bK, .int .i64 c.aP, .int .i64 c.aV, .string c.bL, .int .i64 c.aJ, .int .i64 c.aD] := gZ.wide r5 (by omega) (nR _)
 have y5 : w4.heap.size ≤ w5.heap.size := by have := hb5.size; omega
 replace R1 := gZ.below R1 hb5 (by omega)
 replace R2 := gZ.below R2 hb5 (by omega)
 replace R3 := dI.below R3 hb5 (by omega)
 replace R4 := dI.below R4 hb5 (by omega)
 clear co fo ca cr fr' la lv hb5 r5 gr4
 obtain ⟨ca, co, fo, cr, fr', la, lv⟩ := fr5.rJ
 go_upto_region 10 with fail
 obtain ⟨V5, hV⟩ : ∃ V, gq w5 (w.heap.size + 1 + 1) 23 [Value.int .i64 c.bK, .int .i64 c.aP, .int .i64 c.aV, .string c.bL, .int .i64 c.aJ, .int .i64 c.aD] = V := ⟨_, rfl⟩
 have gr5 : rZ w V5 40 58 #[Value.slice bM c.aF.length bq, .slice bZ c.aK.length bU, .slice cu c.aL.length bV, .int .i64 c.dO, .slice dD c.bf.length cZ, .slice dG c.aR.length dh, .slice bO c.aG.length bu, .slice bP c.aM.length bB, .slice bQ c.aH.length bC, .string c.aU, .int .i64 c.aO, .slice cB c.aS.length bW, .slice dH c.bg.length dw, .slice bS c.aN.length bD, .bool c.aT, .int .i64 c.bX, .int .i64 c.bn, .int .i64 c.dA, .slice eH c.bY.length eD, .slice fC c.dQ.length fq, .int .i64 c.status, .int .i64 c.fault, .int .i64 c.line, .int .i64 c.bK, .int .i64 c.aP, .int .i64 c.aV, .string c.bL, .int .i64 c.aJ, .int .i64 c.aD] #[Value.slice none 0 0, .slice none 0 0, .slice none 0 0, .int .i64 0, .slice none 0 0, .slice none 0 0, .slice none 0 0, .slice none 0 0, .slice none 0 0, .string ⟨#[]⟩, .int .i64 0, .slice none 0 0, .slice none 0 0, .slice none 0 0, .bool false, .int .i64 0, .int .i64 0, .int .i64 0, .slice none 0 0, .slice none 0 0, .int .i64 0, .int .i64 0, .int .i64 0, .int .i64 0, .int .i64 0, .int .i64 0, .string ⟨#[]⟩, .int .i64 0, .int .i64 0] #[Value.slice iB c.aF.length iC, .slice jk c.aK.length jl, .slice jm c.aL.length jo, .int .i64 c.dO, .slice ku c.bf.length kC, .slice lQ c.aR.length lS, .slice jq c.aG.length jr, .slice jv c.aM.length jw, .slice jy c.aH.length jA, .string c.aU, .int .i64 c.aO, .slice kD c.aS.length kE, .slice lT c.bg.length lU, .slice jB c.aN.length jC, .bool c.aT, .int .i64 c.bX, .int .i64 c.bn, .int .i64 c.dA, .slice B3 c.bY.length m3, .slice B4 c.dQ.length m4, .int .i64 c.status, .int .i64 c.fault, .int .i64 c.line, .int .i64 c.bK, .int .i64 c.aP, .int .i64 c.aV, .string c.bL, .int .i64 c.aJ, .int .i64 c.aD] := by rw [← hV]; exact rZ.put fr5 23 [Value.int .i64 c.bK, .int .i64 c.aP, .int .i64 c.aV, .string c.bL, .int .i64 c.aJ, .int .i64 c.aD]
 replace R1 := gZ.gq (g := w.heap.size + 1 + 1) (.inl (by omega)) [Value.int .i64 c.bK, .int .i64 c.aP, .int .i64 c.aV, .string c.bL, .int .i64 c.aJ, .int .i64 c.aD] w5 23 R1
 rw [hV] at R1
 replace R2 := gZ.gq (g := w.heap.size + 1 + 1) (.inl (by omega)) [Value.int .i64 c.bK, .int .i64 c.aP, .int .i64 c.aV, .string c.bL, .int .i64 c.aJ, .int .i64 c.aD] w5 23 R2
 rw [hV] at R2
 replace R3 := dI.gq (g := w.heap.size + 1 + 1) (.inl (by omega)) [Value.int .i64 c.bK, .int .i64 c.aP, .int .i64 c.aV, .string c.bL, .int .i64 c.aJ, .int .i64 c.aD] w5 23 R3
 rw [hV] at R3
 replace R4 := dI.gq (g := w.heap.size + 1 + 1) (.inl (by omega)) [Value.int .i64 c.bK, .int .i64 c.aP, .int .i64 c.aV, .string c.bL, .int .i64 c.aJ, .int .i64 c.aD] w5 23 R4
 rw [hV] at R4
 replace R5 := gZ.gq (g := w.heap.size + 1 + 1) (.inl (by omega)) [Value.int .i64 c.bK, .int .i64 c.aP, .int .i64 c.aV, .string c.bL, .int .i64 c.aJ, .int .i64 c.aD] w5 23 R5
 rw [hV] at R5
 have sV5 : V5.heap.size = w5.heap.size := by rw [← hV, kK]
 simp only [gq, Nat.reduceAdd, Nat.zero_add] at hV
 rw [hV]
 clear hV co fo ca cr fr' la lv
 obtain ⟨ca, co, fo, cr, fr', la, lv⟩ := gr5.rJ
 have bF := Blk.BM (g := w.heap.size + 1) gr5.res [Value.slice iB c.aF.length iC, .slice jk c.aK.length jl, .slice jm c.aL.length jo, .int .i64 c.dO, .slice ku c.bf.length kC, .slice lQ c.aR.length lS, .slice jq c.aG.length jr, .slice jv c.aM.length jw, .slice jy c.aH.length jA, .string c.aU, .int .i64 c.aO, .slice kD c.aS.length kE, .slice lT c.bg.length lU, .slice jB c.aN.length jC, .bool c.aT, .int .i64 c.bX, .int .i64 c.bn, .int .i64 c.dA, .slice B3 c.bY.length m3, .slice B4 c.dQ.length m4, .int .i64 c.status, .int .i64 c.fault, .int .i64 c.line, .int .i64 c.bK, .int .i64 c.aP, .int .i64 c.aV, .string c.bL, .int .i64 c.aJ, .int .i64 c.aD] rfl
 have hR := Blk.rO bF
 clear bF
 replace R1 := gZ.gq (g := w.heap.size + 1) (.inl (by omega)) [Value.slice iB c.aF.length iC, .slice jk c.aK.length jl, .slice jm c.aL.length jo, .int .i64 c.dO, .slice ku c.bf.length kC, .slice lQ c.aR.length lS, .slice jq c.aG.length jr, .slice jv c.aM.length jw, .slice jy c.aH.length jA, .string c.aU, .int .i64 c.aO, .slice kD c.aS.length kE, .slice lT c.bg.length lU, .slice jB c.aN.length jC, .bool c.aT, .int .i64 c.bX, .int .i64 c.bn, .int .i64 c.dA, .slice B3 c.bY.length m3, .slice B4 c.dQ.length m4, .int .i64 c.status, .int .i64 c.fault, .int .i64 c.line, .int .i64 c.bK, .int .i64 c.aP, .int .i64 c.aV, .string c.bL, .int .i64 c.aJ, .int .i64 c.aD] _ 0 R1
 replace R2 := gZ.gq (g := w.heap.size + 1) (.inl (by omega)) [Value.slice iB c.aF.length iC, .slice jk c.aK.length jl, .slice jm c.aL.length jo, .int .i64 c.dO, .slice ku c.bf.length kC, .slice lQ c.aR.length lS, .slice jq c.aG.length jr, .slice jv c.aM.length jw, .slice jy c.aH.length jA, .string c.aU, .int .i64 c.aO, .slice kD c.aS.length kE, .slice lT c.bg.length lU, .slice jB c.aN.length jC, .bool c.aT, .int .i64 c.bX, .int .i64 c.bn, .int .i64 c.dA, .slice B3 c.bY.length m3, .slice B4 c.dQ.length m4, .int .i64 c.status, .int .i64 c.fault, .int .i64 c.line, .int .i64 c.bK, .int .i64 c.aP, .int .i64 c.aV, .string c.bL, .int .i64 c.aJ, .int .i64 c.aD] _ 0 R2
 replace R3 := dI.gq (g := w.heap.size + 1) (.inl (by omega)) [Value.slice iB c.aF.length iC, .slice jk c.aK.length jl, .slice jm c.aL.length jo, .int .i64 c.dO, .slice ku c.bf.length kC, .slice lQ c.aR.length lS, .slice jq c.aG.length jr, .slice jv c.aM.length jw, .slice jy c.aH.length jA, .string c.aU, .int .i64 c.aO, .slice kD c.aS.length kE, .slice lT c.bg.length lU, .slice jB c.aN.length jC, .bool c.aT, .int .i64 c.bX, .int .i64 c.bn, .int .i64 c.dA, .slice B3 c.bY.length m3, .slice B4 c.dQ.length m4, .int .i64 c.status, .int .i64 c.fault, .int .i64 c.line, .int .i64 c.bK, .int .i64 c.aP, .int .i64 c.aV, .string c.bL, .int .i64 c.aJ, .int .i64 c.aD] _ 0 R3
 replace R4 := dI.gq (g := w.heap.size + 1) (.inl (by omega)) [Value.slice iB c.aF.length iC, .slice jk c.aK.length jl, .slice jm c.aL.length jo, .int .i64 c.dO, .slice ku c.bf.length kC, .slice lQ c.aR.length lS, .slice jq c.aG.length jr, .slice jv c.aM.length jw, .slice jy c.aH.length jA, .string c.aU, .int .i64 c.aO, .slice kD c.aS.length kE, .slice lT c.bg.length lU, .slice jB c.aN.length jC, .bool c.aT, .int .i64 c.bX, .int .i64 c.bn, .int .i64 c.dA, .slice B3 c.bY.length m3, .slice B4 c.dQ.length m4, .int .i64 c.status, .int .i64 c.fault, .int .i64 c.line, .int .i64 c.bK, .int .i64 c.aP, .int .i64 c.aV, .string c.bL, .int .i64 c.aJ, .int .i64 c.aD] _ 0 R4
 replace R5 := gZ.gq (g := w.heap.size + 1) (.inl (by omega)) [Value.slice iB c.aF.length iC, .slice jk c.aK.length jl, .slice jm c.aL.length jo, .int .i64 c.dO, .slice ku c.bf.length kC, .slice lQ c.aR.length lS, .slice jq c.aG.length jr, .slice jv c.aM.length jw, .slice jy c.aH.length jA, .string c.aU, .int .i64 c.aO, .slice kD c.aS.length kE, .slice lT c.bg.length lU, .slice jB c.aN.length jC, .bool c.aT, .int .i64 c.bX, .int .i64 c.bn, .int .i64 c.dA, .slice B3 c.bY.length m3, .slice B4 c.dQ.length m4, .int .i64 c.status, .int .i64 c.fault, .int .i64 c.line, .int .i64 c.bK, .int .i64 c.aP, .int .i64 c.aV, .string c.bL, .int .i64 c.aJ, .int .i64 c.aD] _ 0 R5
 have hB := lK (g := w.heap.size + 1) (B := w.heap.size) (by omega) [Value.slice iB c.aF.length iC, .slice jk c.aK.length jl, .slice jm c.aL.length jo, .int .i64 c.dO, .slice ku c.bf.length kC, .slice lQ c.aR.length lS, .slice jq c.aG.length jr, .slice jv c.aM.length jw, .slice jy c.aH.length jA, .string c.aU, .int .i64 c.aO, .slice kD c.aS.length kE, .slice lT c.bg.length lU, .slice jB c.aN.length jC, .bool c.aT, .int .i64 c.bX, .int .i64 c.bn, .int .i64 c.dA, .slice B3 c.bY.length m3, .slice B4 c.dQ.length m4, .int .i64 c.status, .int .i64 c.fault, .int .i64 c.line, .int .i64 c.bK, .int .i64 c.aP, .int .i64 c.aV, .string c.bL, .int .i64 c.aJ, .int .i64 c.aD] _ _ 0 gr5.bel
 obtain ⟨VF, hV⟩ : ∃ V, gq V5 (w.heap.size + 1) 0 [Value.slice iB c.aF.length iC, .slice jk c.aK.length jl, .slice jm c.aL.length jo, .int .i64 c.dO, .slice ku c.bf.length kC, .slice lQ c.aR.length lS, .slice jq c.aG.length jr, .slice jv c.aM.length jw, .slice jy c.aH.length jA, .string c.aU, .int .i64 c.aO, .slice kD c.aS.length kE, .slice lT c.bg.length lU, .slice jB c.aN.length jC, .bool c.aT, .int .i64 c.bX, .int .i64 c.bn, .int .i64 c.dA, .slice B3 c.bY.length m3, .slice B4 c.dQ.length m4, .int .i64 c.status, .int .i64 c.fault, .int .i64 c.line, .int .i64 c.bK, .int .i64 c.aP, .int .i64 c.aV, .string c.bL, .int .i64 c.aJ, .int .i64 c.aD] = V := ⟨_, rfl⟩
 have hsz : VF.heap.size = w5.heap.size := by rw [← hV, kK, sV5]
 rw [hV] at hR hB R1 R2 R3 R4 R5
 have HV := lH hV
 clear hV
 have hS := EE
 have hL := gr5.var.rO (cs := [Value.slice iB c.aF.length iC, .slice jk c.aK.length jl, .slice jm c.aL.length jo, .int .i64 c.dO, .slice ku c.bf.length kC, .slice lQ c.aR.length lS, .slice jq c.aG.length jr, .slice jv c.aM.length jw, .slice jy c.aH.length jA, .string c.aU, .int .i64 c.aO, .slice kD c.aS.length kE, .slice lT c.bg.length lU, .slice jB c.aN.length jC, .bool c.aT, .int .i64 c.bX, .int .i64 c.bn, .int .i64 c.dA, .slice B3 c.bY.length m3, .slice B4 c.dQ.length m4, .int .i64 c.status, .int .i64 c.fault, .int .i64 c.line, .int .i64 c.bK, .int .i64 c.aP, .int .i64 c.aV, .string c.bL, .int .i64 c.aJ, .int .i64 c.aD])
 have hT := gr5.res.KI 29 (by simp)
 have HR := lH hR
 clear hR
 have HL := lH hL
 have HT := lH hT
 have HS := lH hS
 clear hL hT hS ca co fo cr fr'
 go_wp2_with (first | (refine wpList_load_mid rfl 58 (.tmp 3) rfl (w.heap.size + 1 + 1) 0 rfl [Value.slice iB c.aF.length iC, .slice jk c.aK.length jl, .slice jm c.aL.length jo, .int .i64 c.dO, .slice ku c.bf.length kC, .slice lQ c.aR.length lS, .slice jq c.aG.length jr, .slice jv c.aM.length jw, .slice jy c.aH.length jA, .string c.aU, .int .i64 c.aO, .slice kD c.aS.length kE, .slice lT c.bg.length lU, .slice jB c.aN.length jC, .bool c.aT, .int .i64 c.bX, .int .i64 c.bn, .int .i64 c.dA, .slice B3 c.bY.length m3, .slice B4 c.dQ.length m4, .int .i64 c.status, .int .i64 c.fault, .int .i64 c.line, .int .i64 c.bK, .int .i64 c.aP, .int .i64 c.aV, .string c.bL, .int .i64 c.aJ, .int .i64 c.aD] _ HL.out Tryz.underlying58 rfl HS.out ?_) | (refine wpList_store_mid rfl 58 (.tmp 2) (.tmp 33) rfl (w.heap.size + 1) 0 ([Value.slice iB c.aF.length iC, .slice jk c.aK.length jl, .slice jm c.aL.length jo, .int .i64 c.dO, .slice ku c.bf.length kC, .slice lQ c.aR.length lS, .slice jq c.aG.length jr, .slice jv c.aM.length jw, .slice jy c.aH.length jA, .string c.aU, .int .i64 c.aO, .slice kD c.aS.length kE, .slice lT c.bg.length lU, .slice jB c.aN.length jC, .bool c.aT, .int .i64 c.bX, .int .i64 c.bn, .int .i64 c.dA, .slice B3 c.bY.length m3, .slice B4 c.dQ.length m4, .int .i64 c.status, .int .i64 c.fault, .int .i64 c.line, .int .i64 c.bK, .int .i64 c.aP, .int .i64 c.aV, .string c.bL, .int .i64 c.aJ, .int .i64 c.aD]).toArray rfl rfl HT.out HS.out (all_oneCell_toArray (by simp [Value.oneCell'])) ?_; rw [uU, HV.out]))
 refine bodyPost_ret (v := .agg #[Value.slice iB c.aF.length iC, .slice jk c.aK.length jl, .slice jm c.aL.length jo, .int .i64 c.dO, .slice ku c.bf.length kC, .slice lQ c.aR.length lS, .slice jq c.aG.length jr, .slice jv c.aM.length jw, .slice jy c.aH.length jA, .string c.aU, .int .i64 c.aO, .slice kD c.aS.length kE, .slice lT c.bg.length lU, .slice jB c.aN.length jC, .bool c.aT, .int .i64 c.bX, .int .i64 c.bn, .int .i64 c.dA, .slice B3 c.bY.length m3, .slice B4 c.dQ.length m4, .int .i64 c.status, .int .i64 c.fault, .int .i64 c.line, .int .i64 c.bK, .int .i64 c.aP, .int .i64 c.aV, .string c.bL, .int .i64 c.aJ, .int .i64 c.aD]) ?_ rfl ⟨[Value.slice iB c.aF.length iC, .slice jk c.aK.length jl, .slice jm c.aL.length jo, .int .i64 c.dO, .slice ku c.bf.length kC, .slice lQ c.aR.length lS, .slice jq c.aG.length jr, .slice jv c.aM.length jw, .slice jy c.aH.length jA, .string c.aU, .int .i64 c.aO, .slice kD c.aS.length kE, .slice lT c.bg.length lU, .slice jB c.aN.length jC, .bool c.aT, .int .i64 c.bX, .int .i64 c.bn, .int .i64 c.dA, .slice B3 c.bY.length m3, .slice B4 c.dQ.length m4, .int .i64 c.status, .int .i64 c.fault, .int .i64 c.line, .int .i64 c.bK, .int .i64 c.aP, .int .i64 c.aV, .string c.bL, .int .i64 c.aJ, .int .i64 c.aD], rfl, (gZ.app (ds := [Dat.row 4 c.aF.length (flat jF.ay c.aF), .row 3 c.aK.length (flat gU.ay c.aK), .row 1 c.aL.length (flat eF c.aL), .int .i64 c.dO, .row 5 c.bf.length (flat eO.ay c.bf)]) (vs := [Value.slice iB c.aF.length iC, .slice jk c.aK.length jl, .slice jm c.aL.length jo, .int .i64 c.dO, .slice ku c.bf.length kC]) (mid := w1.heap.size) ?_ (gZ.app (ds := [Dat.row 1 c.aR.length (flat eF c.aR), .row 3 c.aG.length (flat gU.ay c.aG), .row 5 c.aM.length (flat fV.ay c.aM), .row 6 c.aH.length (flat aQ.ay c.aH), .str c.aU, .int .i64 c.aO, .row 1 c.aS.length (flat eF c.aS), .row 1 c.bg.length (flat eF c.bg), .row 2 c.aN.length (flat kZ.ay c.aN), .bool c.aT, .int .i64 c.bX, .int .i64 c.bn, .int .i64 c.dA]) (vs := [Value.slice lQ c.aR.length lS, .slice jq c.aG.length jr, .slice jv c.aM.length jw, .slice jy c.aH.length jA, .string c.aU, .int .i64 c.aO, .slice kD c.aS.length kE, .slice lT c.bg.length lU, .slice jB c.aN.length jC, .bool c.aT, .int .i64 c.bX, .int .i64 c.bn, .int .i64 c.dA]) (mid := w2.heap.size) ?_ (.rR (mid := w3.heap.size) ?_ (.rR (mid := w4.heap.size) ?_ (.gG (.gG (.gG (gZ.app (ds := [Dat.int .i64 c.bK, .int .i64 c.aP, .int .i64 c.aV, .str c.bL, .int .i64 c.aJ, .int .i64 c.aD]) (vs := [Value.int .i64 c.bK, .int .i64 c.aP, .int .i64 c.aV, .string c.bL, .int .i64 c.aJ, .int .i64 c.aD]) (mid := w5.heap.size) ?_ .lu (by omega) (by first | omega | (rw [hsz]; omega)))))) (by omega) (by first | omega | (rw [hsz]; omega))) (by omega) (by first | omega | (rw [hsz]; omega))) (by omega) (by first | omega | (rw [hsz]; omega))) (by omega) (by first | omega | (rw [hsz]; omega))), hB⟩
 ·clear hB R1 R2 R3 R4 R5
  exact EI (n := 2) rfl rfl (run_loadVar_mid VF (w.heap.size + 1) 0 58 _ _ HR.out Tryz.underlying58 rfl HS.out)
 ·exact gZ.wide (lo := w.heap.size + 3) (hi := w1.heap.size) R1 (by omega) (nR _)
 ·exact gZ.wide (lo := w1.heap.size) (hi := w2.heap.size) R2 (by omega) (nR _)
 ·exact dI.wide (lo := w2.heap.size) (hi := w3.heap.size) R3 (by omega) (nR _)
 ·exact dI.wide (lo := w3.heap.size) (hi := w4.heap.size) R4 (by omega) (nR _)
 ·exact gZ.wide (lo := w4.heap.size) (hi := w5.heap.size) R5 (by omega) (nR _)
theorem wz (c : eG) (x : Value) (w : World) (lo hi : Nat) (h : fA w lo hi eG.ay x c) (hhi : hi ≤ w.heap.size) (hbk : c.dX ≤ 1048576) :
 Calls Tryz.prog 6 #[x] w (Ro eG.ay c w) := (Dc c x w lo hi h hhi hbk).mono fun e w' h => h.own
end Go.Proofs.YtoddlphekcihgaaGreatDoor
