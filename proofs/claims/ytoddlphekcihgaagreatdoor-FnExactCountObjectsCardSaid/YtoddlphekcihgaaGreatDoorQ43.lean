/- TD, Ra of the laws. TE, Rb of the laws. Uf, TF of the laws at two values that read as the same: true. -/
import Derived.Test.YtoddlphekcihgaaGreatDoorQ21
import Derived.Test.YtoddlphekcihgaaGreatDoorQ42
set_option maxRecDepth 100000
set_option maxHeartbeats 8000000
set_option linter.unusedVariables false
set_option linter.unusedSimpArgs false
namespace Go.Proofs.YtoddlphekcihgaaGreatDoor
open Go.RowKit
theorem FX (c : jS) (x : Value) (left : Int) (w : World) (lo hi : Nat) (h : fA w lo hi jS.ay x c) (hhi : hi ≤ w.heap.size) (hl0 : 0 ≤ left) (hl1 : left ≤ 1048576) (hf : c.Fits) :
 Calls Tryz.prog 33 #[x, .int .i64 left] w fun e w' => e = .returned (.int .i64 (leftOf left c.dX)) ∧ Below w.heap.size w w' := by
 obtain ⟨jf, iH, jg, iI, jh, iJ, lM, kV, pR, oZ, rfl, sS, Cu, wY, hmarks, Cv, wZ, sU, Cw, xg, vI, GZ, zC, yL, Mj, FM⟩ := jS.form h
 obtain ⟨CY, CZ, C4, G8, LC⟩ := hf
 have HB : Hid (c.dX = (c.dZ.length + sumOf aQ.dX c.dZ) + (c.dU.length + sumOf kH.dX c.dU) + (c.eu.length + sumOf kG.dX c.eu) + (c.dx.length + sumOf jG.dX c.dx) + (c.eT.length + sumOf oL c.eT) + c.dR.size) := rfl
 unfold maxLen at wY wZ
 unfold maxLen at xg zC FM
 have IK := lH CY
 clear CY
 have IL := lH CZ
 clear CZ
 have IP := lH C4
 clear C4
 have MC := lH G8
 clear G8
 have hw0 : Below w.heap.size w (w.alloc (.cells #[Value.int .i64 c.state, .int .i64 c.entry, .int .i64 c.object, .int .i64 c.pc, .int .i64 c.frame, .slice jf c.dZ.length iH, .slice jg c.dU.length iI, .slice jh c.eu.length iJ, .slice lM c.dx.length kV, .slice pR c.eT.length oZ, .string c.dR, .int .i64 c.dL] 90)) := bA _ _
 go_enter Tryz.func33, Tryz.ntmps33
 go_wp2_with fail
 refine (rU c.dZ _ _ _ lo hi (sS.below hw0 hhi) (nT hhi hw0.size) (by omega) (by omega) IK.out).mono ?_; rintro e w1 ⟨rfl, hb1⟩
 have hw1 : Below w.heap.size w w1 := hw0.trans (hb1.mono hw0.size)
 have a1 := (Blk.new w 90 #[Value.int .i64 c.state, .int .i64 c.entry, .int .i64 c.object, .int .i64 c.pc, .int .i64 c.frame, .slice jf c.dZ.length iH, .slice jg c.dU.length iI, .slice jh c.eu.length iJ, .slice lM c.dx.length kV, .slice pR c.eT.length oZ, .string c.dR, .int .i64 c.dL]).later hb1
 have ca := a1.cell
 have la := a1.lt
 by_cases zG : left < ((c.dZ.length + sumOf aQ.dX c.dZ) : Nat)
 ·rw [dM zG]
  go_wp2_with fail
  go_ret
  exact ⟨eX (dM (by have := HB.out; omega)).symm, hw1⟩
 rw [ep zG]
 generalize hL : left - (((c.dZ.length + sumOf aQ.dX c.dZ) : Nat) : Int) = mF
 have l1a : mF ≤ left - ((c.dZ.length + sumOf aQ.dX c.dZ) : Nat) := by omega
 have l1b : left - ((c.dZ.length + sumOf aQ.dX c.dZ) : Nat) ≤ mF := by omega
 clear hL
 go_wp2_with fail
 refine (AV c.dU _ _ _ lo hi (hmarks.below hw1 hhi) (nT hhi hw1.size) (by omega) (by omega) IL.out).mono ?_; rintro e w2 ⟨rfl, hb2⟩
 have hw2 : Below w.heap.size w w2 := hw1.trans (hb2.mono hw1.size)
 have a2 := a1.later hb2
 clear ca la
 have ca := a2.cell
 have la := a2.lt
 by_cases zH : mF < ((c.dU.length + sumOf kH.dX c.dU) : Nat)
 ·rw [dM zH]
  go_wp2_with fail
  go_ret
  exact ⟨eX (dM (by have := HB.out; omega)).symm, hw2⟩
 rw [ep zH]
 generalize hL : mF - (((c.dU.length + sumOf kH.dX c.dU) : Nat) : Int) = oC
 have l2a : oC ≤ mF - ((c.dU.length + sumOf kH.dX c.dU) : Nat) := by omega
 have l2b : mF - ((c.dU.length + sumOf kH.dX c.dU) : Nat) ≤ oC := by omega
 clear hL
 go_wp2_with fail
 refine (AA c.eu _ _ _ lo hi (sU.below hw2 hhi) (nT hhi hw2.size) (by omega) (by omega) IP.out).mono ?_; rintro e w3 ⟨rfl, hb3⟩
 have hw3 : Below w.heap.size w w3 := hw2.trans (hb3.mono hw2.size)
 have a3 := a2.later hb3
 clear ca la
 have ca := a3.cell
 have la := a3.lt
 by_cases zI : oC < ((c.eu.length + sumOf kG.dX c.eu) : Nat)
 ·rw [dM zI]
  go_wp2_with fail
  go_ret
  exact ⟨eX (dM (by have := HB.out; omega)).symm, hw3⟩
 rw [ep zI]
 generalize hL : oC - (((c.eu.length + sumOf kG.dX c.eu) : Nat) : Int) = pI
 have l3a : pI ≤ oC - ((c.eu.length + sumOf kG.dX c.eu) : Nat) := by omega
 have l3b : oC - ((c.eu.length + sumOf kG.dX c.eu) : Nat) ≤ pI := by omega
 clear hL
 go_wp2_with fail
 refine (D6 c.dx _ _ _ lo hi (vI.below hw3 hhi) (nT hhi hw3.size) (by omega) (by omega) MC.out).mono ?_; rintro e w4 ⟨rfl, hb4⟩
 have hw4 : Below w.heap.size w w4 := hw3.trans (hb4.mono hw3.size)
 have a4 := a3.later hb4
 clear ca la
 have ca := a4.cell
 have la := a4.lt
 by_cases EC : pI < ((c.dx.length + sumOf jG.dX c.dx) : Nat)
 ·rw [dM EC]
  go_wp2_with fail
  go_ret
  exact ⟨eX (dM (by have := HB.out; omega)).symm, hw4⟩
 rw [ep EC]
 generalize hL : pI - (((c.dx.length + sumOf jG.dX c.dx) : Nat) : Int) = qo
 have l4a : qo ≤ pI - ((c.dx.length + sumOf jG.dX c.dx) : Nat) := by omega
 have l4b : pI - ((c.dx.length + sumOf jG.dX c.dx) : Nat) ≤ qo := by omega
 clear hL
 go_wp2_with fail
 refine (yG c.eT _ _ _ lo hi (yL.below hw4 hhi) (nT hhi hw4.size) (by omega) (by omega)).mono ?_; rintro e w5 ⟨rfl, hb5⟩
 have hw5 : Below w.heap.size w w5 := hw4.trans (hb5.mono hw4.size)
 have a5 := a4.later hb5
 clear ca la
 have ca := a5.cell
 have la := a5.lt
 by_cases Jo : qo < ((c.eT.length + sumOf oL c.eT) : Nat)
 rw [dM Jo]
 rotate_left
 rw [ep Jo]
 generalize hL : qo - (((c.eT.length + sumOf oL c.eT) : Nat) : Int) = vg
 have l5a : vg ≤ qo - ((c.eT.length + sumOf oL c.eT) : Nat) := by omega
 have l5b : qo - ((c.eT.length + sumOf oL c.eT) : Nat) ≤ vg := by omega
 clear hL
 by_cases JN : vg < (c.dR.size : Nat)
 skip
 rotate_left
 rotate_right 2
 iterate 2 focus
  go_wp2_with fail
  go_ret
  exact ⟨eX (dM (by have := HB.out; omega)).symm, hw5⟩
 go_wp2_with fail
 go_ret
 exact ⟨eX (by rw [ep (by have := HB.out; omega)]; have := HB.out; omega), hw5⟩
theorem D8 (l : List jS) (v : Value) (left : Int) (w : World) (lo hi : Nat) (h : dz w lo hi 12 jS.ay v l) (hhi : hi ≤ w.heap.size) (hl0 : 0 ≤ left) (hl1 : left ≤ 1048576) (hf : ∀ c ∈ l, c.Fits) :
 Calls Tryz.prog 11 #[v, .int .i64 left] w fun e w' => e = .returned (.int .i64 (leftOf left (l.length + sumOf jS.dX l))) ∧ Below w.heap.size w w' := by
 obtain ⟨A, cap, rfl, hc1, hc2⟩ := h.shape
 unfold maxLen at hc2
 have HF := lH hf
 clear hf
 by_cases hn : left < l.length
 ·go_enter Tryz.func11, Tryz.ntmps11
  go_wp2_with fail
  go_ret
  exact ⟨eX (dM (by omega)).symm, bR _ _⟩
 go_enter Tryz.func11, Tryz.ntmps11
 go_wp2_with fail
 go_loopw [1, 5] (fun t i wr => ∃ k : Nat, k ≤ l.length ∧ i = .int .i64 k ∧ t = .int .i64 (left - l.length - sumOf jS.dX (l.take k)) ∧ sumOf jS.dX (l.take k) ≤ left - l.length ∧ Below w.heap.size w wr) (fun _ i _ => l.length - (intOf i).toNat)
 case atStart => exact ⟨0, nZ _, rfl, by simp [sumOf], by simp [sumOf]; omega, bR _ _⟩
 case round =>
  obtain ⟨k, hk, rfl, rfl, hle, hb⟩ := hrel
  obtain ⟨wo, rfl⟩ := nW wr
  have hz := hb.size
  by_cases hlt : k < l.length
  ·obtain ⟨c, hc⟩ : ∃ c, l[k]? = some c := ⟨_, gE hlt⟩
   obtain ⟨g, off, jf, iH, jg, iI, jh, iJ, lM, kV, pR, oZ, rfl, hg1, hg2, hmem, hrep, q0, q1, q2, q3, q4, q5, q6, q7, q8, q9, q10, q11⟩ := jS.at_ (h.below hb hhi) hc
   have HB := lH (rM (b := jS.dX) hc)
   have hft := HF.out c hmem
   clear hc hmem
   go_wp2_with fail
   refine (FX c _ _ _ _ _ hrep (by omega) (by omega) (by omega) hft).mono ?_; rintro e w1 ⟨rfl, hb1⟩
   have hb2 := hb.trans (hb1.mono hz)
   clear hrep q0 q1 q2 q3 q4 q5 q6 q7 q8 q9 q10 q11
   by_cases hk1 : left - l.length - sumOf jS.dX (l.take k) < c.dX
   ·rw [dM hk1]
    go_wp2_with fail
    go_ret
    exact ⟨eX (dM (by have := HB.out; have := pX jS.dX l (k + 1); omega)).symm, hb2⟩
   ·rw [ep hk1]
    go_wp2_with fail
    go_roundw
    case rel => exact ⟨k + 1, by omega, by go_num, by rw [HB.out]; go_num, by rw [HB.out]; omega, hb2⟩
    case measure => simp [intOf]; omega
  ·obtain rfl : k = l.length := by omega
   rw [List.take_length] at hle ⊢
   go_wp2_with fail
   go_ret
   exact ⟨eX (by rw [ep (by omega)]; omega), hb⟩
theorem D9 (c : jS) (x : Value) (w : World) (lo hi : Nat) (h : fA w lo hi jS.ay x c) (hhi : hi ≤ w.heap.size) (hbk : c.dX ≤ 1048576) :
 Calls Tryz.prog 47 #[x] w (uN jS.ay c w) := by
 obtain ⟨jf, iH, jg, iI, jh, iJ, lM, kV, pR, oZ, rfl, sS, Cu, wY, hmarks, Cv, wZ, sU, Cw, xg, vI, GZ, zC, yL, Mj, FM⟩ := jS.form h
 unfold jS.dX at hbk
 unfold maxLen at wY wZ
 unfold maxLen at xg zC FM
 go_enter Tryz.func47, Tryz.ntmps47
 go_wp2_with fail
 have fr0 := rZ.new w 90 111 #[Value.int .i64 c.state, .int .i64 c.entry, .int .i64 c.object, .int .i64 c.pc, .int .i64 c.frame, .slice jf c.dZ.length iH, .slice jg c.dU.length iI, .slice jh c.eu.length iJ, .slice lM c.dx.length kV, .slice pR c.eT.length oZ, .string c.dR, .int .i64 c.dL] #[Value.int .i64 0, .int .i64 0, .int .i64 0, .int .i64 0, .int .i64 0, .slice none 0 0, .slice none 0 0, .slice none 0 0, .slice none 0 0, .slice none 0 0, .string ⟨#[]⟩, .int .i64 0] #[Value.int .i64 c.state, .int .i64 c.entry, .int .i64 c.object, .int .i64 c.pc, .int .i64 c.frame, .slice none 0 0, .slice none 0 0, .slice none 0 0, .slice none 0 0, .slice none 0 0, .string ⟨#[]⟩, .int .i64 0]
 refine (rA c.dZ _ _ lo hi (sS.below fr0.bel hhi) (by simp; omega) (by omega)).mono ?_; rintro e w1 ⟨v1, rfl, r1, hb1⟩
 obtain ⟨B1, m1, rfl, -, -⟩ := r1.rep.shape
 have fr1 := fr0.later hb1
 have z1 : w.heap.size + 3 ≤ w1.heap.size := by have := fr1.var.lt; omega
 have R1 : dI w1 (w.heap.size + 3) w1.heap.size 6 aQ.ay (.slice B1 c.dZ.length m1) c.dZ := r1.wide (by simp) (nR _)
 clear hb1 r1
 obtain ⟨ca, co, fo, cr, fr', la, lv⟩ := fr1.rJ
 go_wp2_with fail
 refine (zz c.dU _ _ lo hi (hmarks.below (fr1.bel.setCell (by simp; omega) _) hhi) (nT hhi (fr1.bel.setCell (by simp; omega) _).size) (by omega)).mono ?_; rintro e w2 ⟨v2, rfl, r2, hb2⟩
 obtain ⟨B2, m2, rfl, -, -⟩ := r2.rep.shape
 have fr2 := (fr1.set _ _).later hb2
 have z2 : w.heap.size + 3 ≤ w2.heap.size := by have := fr2.var.lt; omega
 have R2 : dI w2 w1.heap.size w2.heap.size 5 kH.ay (.slice B2 c.dU.length m2) c.dU := r2.wide (by simp [World.setCell]) (nR _)
 have y2 : w1.heap.size ≤ w2.heap.size := by have := hb2.size; simpa [World.setCell] using this
 replace R1 := dI.below (dI.eY R1 (.inl (by simp <;> omega)) _) hb2 (by simp [World.setCell] <;> omega)
 clear co fo ca cr fr' hb2 r2 la lv
 obtain ⟨ca, co, fo, cr, fr', la, lv⟩ := fr2.rJ
 go_wp2_with fail
 refine (zy c.eu _ _ lo hi (sU.below (fr2.bel.setCell (by simp; omega) _) hhi) (nT hhi (fr2.bel.setCell (by simp; omega) _).size) (by omega)).mono ?_; rintro e w3 ⟨v3, rfl, r3, hb3⟩
 obtain ⟨B3, m3, rfl, -, -⟩ := r3.rep.shape
 have fr3 := (fr2.set _ _).later hb3
 have z3 : w.heap.size + 3 ≤ w3.heap.size := by have := fr3.var.lt; omega
 have R3 : dI w3 w2.heap.size w3.heap.size 8 kG.ay (.slice B3 c.eu.length m3) c.eu := r3.wide (by simp [World.setCell]) (nR _)
 have y3 : w2.heap.size ≤ w3.heap.size := by have := hb3.size; simpa [World.setCell] using this
 replace R1 := dI.below (dI.eY R1 (.inl (by simp <;> omega)) _) hb3 (by simp [World.setCell] <;> omega)
 have T2 := dI.below (dI.eY R2 (.inl (by simp <;> omega)) _) hb3 (by simp [World.setCell] <;> omega)
 clear R2
 have R2 := T2
 clear T2 co fo ca cr fr' hb3 r3 la lv
 obtain ⟨ca, co, fo, cr, fr', la, lv⟩ := fr3.rJ
 go_wp2_with fail
 refine (CO c.dx _ _ lo hi (vI.below (fr3.bel.setCell (by simp; omega) _) hhi) (nT hhi (fr3.bel.setCell (by simp; omega) _).size) (by omega)).mono ?_; rintro e w4 ⟨v4, rfl, r4, hb4⟩
 obtain ⟨B4, m4, rfl, -, -⟩ := r4.rep.shape
 have fr4 := (fr3.set _ _).later hb4
 have z4 : w.heap.size + 3 ≤ w4.heap.size := by have := fr4.var.lt; omega
 have R4 : dI w4 w3.heap.size w4.heap.size 14 jG.ay (.slice B4 c.dx.length m4) c.dx := r4.wide (by simp [World.setCell]) (nR _)
 have y4 : w3.heap.size ≤ w4.heap.size := by have := hb4.size; simpa [World.setCell] using this
 replace R1 := dI.below (dI.eY R1 (.inl (by simp <;> omega)) _) hb4 (by simp [World.setCell] <;> omega)
 have T2 := dI.below (dI.eY R2 (.inl (by simp <;> omega)) _) hb4 (by simp [World.setCell] <;> omega)
 clear R2
 have R2 := T2
 clear T2
 have T3 := dI.below (dI.eY R3 (.inl (by simp <;> omega)) _) hb4 (by simp [World.setCell] <;> omega)
 clear R3
 have R3 := T3
 clear T3 co fo ca cr fr' hb4 r4 la lv
 obtain ⟨ca, co, fo, cr, fr', la, lv⟩ := fr4.rJ
 go_wp2_with fail
 refine (xL c.eT _ _ lo hi (yL.below (fr4.bel.setCell (by simp; omega) _) hhi) (nT hhi (fr4.bel.setCell (by simp; omega) _).size) (by omega)).mono ?_; rintro e w5 ⟨v5, rfl, r5, hb5⟩
 obtain ⟨B5, m5, rfl, -, -⟩ := r5.rep.shape
 have fr5 := (fr4.set _ _).later hb5
 have z5 : w.heap.size + 3 ≤ w5.heap.size := by have := fr5.var.lt; omega
 have R5 : dI w5 w4.heap.size w5.heap.size 1 gW (.slice B5 c.eT.length m5) c.eT := r5.wide (by simp [World.setCell]) (nR _)
 have y5 : w4.heap.size ≤ w5.heap.size := by have := hb5.size; simpa [World.setCell] using this
 replace R1 := dI.below (dI.eY R1 (.inl (by simp <;> omega)) _) hb5 (by simp [World.setCell] <;> omega)
 have T2 := dI.below (dI.eY R2 (.inl (by simp <;> omega)) _) hb5 (by simp [World.setCell] <;> omega)
 clear R2
 have R2 := T2
 clear T2
 have T3 := dI.below (dI.eY R3 (.inl (by simp <;> omega)) _) hb5 (by simp [World.setCell] <;> omega)
 clear R3
 have R3 := T3
 clear T3
 have T4 := dI.below (dI.eY R4 (.inl (by simp <;> omega)) _) hb5 (by simp [World.setCell] <;> omega)
 clear R4
 have R4 := T4
 clear T4 co fo ca cr fr' hb5 r5 la lv
 obtain ⟨ca, co, fo, cr, fr', la, lv⟩ := fr5.rJ
 go_wp2_with fail
 refine bodyPost_ret (v := .agg #[Value.int .i64 c.state, .int .i64 c.entry, .int .i64 c.object, .int .i64 c.pc, .int .i64 c.frame, .slice B1 c.dZ.length m1, .slice B2 c.dU.length m2, .slice B3 c.eu.length m3, .slice B4 c.dx.length m4, .slice B5 c.eT.length m5, .string c.dR, .int .i64 c.dL]) ?_ rfl ⟨[Value.int .i64 c.state, .int .i64 c.entry, .int .i64 c.object, .int .i64 c.pc, .int .i64 c.frame, .slice B1 c.dZ.length m1, .slice B2 c.dU.length m2, .slice B3 c.eu.length m3, .slice B4 c.dx.length m4, .slice B5 c.eT.length m5, .string c.dR, .int .i64 c.dL], rfl, (.gG (.gG (.gG (.gG (.gG (.rR (mid := w1.heap.size) ?_ (.rR (mid := w2.heap.size) ?_ (.rR (mid := w3.heap.size) ?_ (.rR (mid := w4.heap.size) ?_ (.rR (mid := w5.heap.size) ?_ (.wD (.gG .lu)) (by omega) (by first | (simp [World.setCell] <;> omega) | exact nR _ | omega)) (by omega) (by first | (simp [World.setCell] <;> omega) | exact nR _ | omega)) (by omega) (by first | (simp [World.setCell] <;> omega) | exact nR _ | omega)) (by omega) (by first | (simp [World.setCell] <;> omega) | exact nR _ | omega)) (by omega) (by first | (simp [World.setCell] <;> omega) | exact nR _ | omega))))))), ?_⟩
 ·simp [results, Tryz.results47, go_sem, cr]
 ·refine dI.wide (lo := w.heap.size + 3) (hi := w1.heap.size) ?_ (by omega) (nR _)
  iterate 15 refine dI.eY ?_ (.inl (by simp <;> omega)) _
  exact R1
 ·refine dI.wide (lo := w1.heap.size) (hi := w2.heap.size) ?_ (by omega) (nR _)
  iterate 15 refine dI.eY ?_ (.inl (by simp <;> omega)) _
  exact R2
 ·refine dI.wide (lo := w2.heap.size) (hi := w3.heap.size) ?_ (by omega) (nR _)
  iterate 15 refine dI.eY ?_ (.inl (by simp <;> omega)) _
  exact R3
 ·refine dI.wide (lo := w3.heap.size) (hi := w4.heap.size) ?_ (by omega) (nR _)
  iterate 15 refine dI.eY ?_ (.inl (by simp <;> omega)) _
  exact R4
 ·refine dI.wide (lo := w4.heap.size) (hi := w5.heap.size) ?_ (by omega) (nR _)
  iterate 15 refine dI.eY ?_ (.inl (by simp <;> omega)) _
  exact R5
 ·iterate 15 refine Below.setCell ?_ (by simp <;> omega) _
  exact fr5.bel
theorem Kc : (Tryz.prog.info? 111).map (fun i => (i.zero, i.size, i.bytes)) = some (some (.agg #[.int .i64 0, .int .i64 0, .int .i64 0, .int .i64 0, .int .i64 0, .slice none 0 0, .slice none 0 0, .slice none 0 0, .slice none 0 0, .slice none 0 0, .string ⟨#[]⟩, .int .i64 0]), 12, 184) := by kernel_rfl
theorem C9 (l : List jS) (v : Value) (w : World) (lo hi : Nat) (h : dz w lo hi 12 jS.ay v l) (hhi : hi ≤ w.heap.size) (hl : l.length + sumOf jS.dX l ≤ 1048576) :
 Calls Tryz.prog 17 #[v] w (vT 12 jS.ay l w) := by
 obtain ⟨i0, hi0, hz0, hz1, hz2⟩ := info_parts Kc
 obtain ⟨A, cap, rfl, hc1, hc2⟩ := h.shape
 unfold maxLen at hc2
 go_enter Tryz.func17, Tryz.ntmps17
 go_wp2_with (first | (at_make; refine wpList_make_full w rfl (.tmp 6) (.tmp 6) 53 rfl w.heap.size 111 i0 _ 12 Tryz.underlying53 hi0 hz0 hz1 .i64 .i64 _ _ l.length rfl rfl rfl rfl (by rw [hz2]; omega) (by unfold maxLen; omega) (nR _) ?_))
 intro w1 hown hg
 have hb := kM hg (nR w.heap.size) (fun g hg => by cases hg)
 have hz : w.heap.size + 1 ≤ w1.heap.size := (hown.lt _ rfl).2
 obtain ⟨Z, hown⟩ : ∃ Z, w1.ownsRow w.heap.size 111 12 (.slice (some ⟨w.heap.size, 0, none⟩) l.length l.length) l.length Z := ⟨_, hown⟩
 have HZ := lH hown.1
 clear hg
 go_wp2_with fail
 go_loopw [4] (fun i wr => ∃ (k : Nat) (vs : List Value), k ≤ l.length ∧ i = .int .i64 k ∧ wr.ownsRow w.heap.size 111 12 (.slice (some ⟨w.heap.size, 0, none⟩) l.length l.length) l.length (vs ++ Z.drop (k * 12)) ∧ gZ wr (w.heap.size + 1) wr.heap.size (flat jS.ay (l.take k)) vs ∧ Below w.heap.size w wr ∧ w.heap.size + 1 ≤ wr.heap.size) (fun i _ => l.length - (intOf i).toNat)
 case atStart => exact ⟨0, [], nZ _, rfl, by simpa using hown, by simp only [List.take_zero, oP]; exact .lu, hb, hz⟩
 case round =>
  clear hown hb hz
  obtain ⟨k, vs, hk, rfl, hown, hrep, hb, hz⟩ := hrel
  obtain ⟨wo, rfl⟩ := nW wr
  have hvs : vs.length = k * 12 := by rw [hrep.len, qJ jS.gK, List.length_take, Nat.min_eq_left hk]
  have HV := lH hvs
  clear hvs
  by_cases hlt : k < l.length
  ·obtain ⟨c, hc⟩ : ∃ c, l[k]? = some c := ⟨_, gE hlt⟩
   obtain ⟨g, off, jf, iH, jg, iI, jh, iJ, lM, kV, pR, oZ, rfl, hg1, hg2, hmem, hcr, q0, q1, q2, q3, q4, q5, q6, q7, q8, q9, q10, q11⟩ := jS.at_ (h.below hb hhi) hc
   have HD := lH (rz (f := jS.ay) hc)
   have hbm := qK (b := jS.dX) hmem
   clear hc hmem
   go_wp2_with fail
   refine (D9 c _ _ _ _ hcr (by omega) (by omega)).mono ?_; rintro e w1 ⟨cs, rfl, hx, hb1⟩
   obtain ⟨nD, nH, nI, nJ, nM, nN, qz, qA, sN, sO, hcs, _, _, _, _, _, _, _, _, _, _, _, _, _, _, _⟩ := jS.form ⟨cs, rfl, hx.rep⟩
   obtain rfl : cs = [Value.int .i64 c.state, .int .i64 c.entry, .int .i64 c.object, .int .i64 c.pc, .int .i64 c.frame, .slice nD c.dZ.length nH, .slice nI c.dU.length nJ, .slice nM c.eu.length nN, .slice qz c.dx.length qA, .slice sN c.eT.length sO, .string c.dR, .int .i64 c.dL] := congrArg Array.toList (Value.agg.inj hcs)
   have z1 := hb1.size
   have hown1 := pG hown hb1
   have qD := (hrep.below hb1 (nR _)).app hx hz z1
   have hb2 := hb.trans (hb1.mono (by omega))
   clear hown hrep hx hb1 hb hcr q0 q1 q2 q3 q4 q5 q6 q7 q8 q9 q10 q11
   obtain ⟨⟨o0, d0⟩, f0⟩ := gM hown1 (k * 12) (by omega)
   obtain ⟨⟨o1, d1⟩, f1⟩ := gM hown1 (k * 12 + 1) (by omega)
   obtain ⟨⟨o2, d2⟩, f2⟩ := gM hown1 (k * 12 + 2) (by omega)
   obtain ⟨⟨o3, d3⟩, f3⟩ := gM hown1 (k * 12 + 3) (by omega)
   obtain ⟨⟨o4, d4⟩, f4⟩ := gM hown1 (k * 12 + 4) (by omega)
   obtain ⟨⟨o5, d5⟩, f5⟩ := gM hown1 (k * 12 + 5) (by omega)
   obtain ⟨⟨o6, d6⟩, f6⟩ := gM hown1 (k * 12 + 6) (by omega)
   obtain ⟨⟨o7, d7⟩, f7⟩ := gM hown1 (k * 12 + 7) (by omega)
   obtain ⟨⟨o8, d8⟩, f8⟩ := gM hown1 (k * 12 + 8) (by omega)
   obtain ⟨⟨o9, d9⟩, f9⟩ := gM hown1 (k * 12 + 9) (by omega)
   obtain ⟨⟨o10, d10⟩, f10⟩ := gM hown1 (k * 12 + 10) (by omega)
   obtain ⟨⟨o11, d11⟩, f11⟩ := gM hown1 (k * 12 + 11) (by omega)
   have pO := qc [Value.int .i64 c.state, .int .i64 c.entry, .int .i64 c.object, .int .i64 c.pc, .int .i64 c.frame, .slice nD c.dZ.length nH, .slice nI c.dU.length nJ, .slice nM c.eu.length nN, .slice qz c.dx.length qA, .slice sN c.eT.length sO, .string c.dR, .int .i64 c.dL] _ _ (k * 12) hown1
   rw [oq _ _ _ HV.out (by rw [HZ.out]; simp; omega)] at pO
   have qQ := gZ.gq (g := w.heap.size) (.inl (Nat.lt_succ_self _)) [Value.int .i64 c.state, .int .i64 c.entry, .int .i64 c.object, .int .i64 c.pc, .int .i64 c.frame, .slice nD c.dZ.length nH, .slice nI c.dU.length nJ, .slice nM c.eu.length nN, .slice qz c.dx.length qA, .slice sN c.eT.length sO, .string c.dR, .int .i64 c.dL] _ (k * 12) qD
   have tC := lK (nR w.heap.size) [Value.int .i64 c.state, .int .i64 c.entry, .int .i64 c.object, .int .i64 c.pc, .int .i64 c.frame, .slice nD c.dZ.length nH, .slice nI c.dU.length nJ, .slice nM c.eu.length nN, .slice qz c.dx.length qA, .slice sN c.eT.length sO, .string c.dR, .int .i64 c.dL] _ _ (k * 12) hb2
   have qR := kK w.heap.size [Value.int .i64 c.state, .int .i64 c.entry, .int .i64 c.object, .int .i64 c.pc, .int .i64 c.frame, .slice nD c.dZ.length nH, .slice nI c.dU.length nJ, .slice nM c.eu.length nN, .slice qz c.dx.length qA, .slice sN c.eT.length sO, .string c.dR, .int .i64 c.dL] w1 (k * 12)
   simp only [gq, Nat.add_assoc, Nat.reduceAdd, List.length_cons, List.length_nil] at pO qQ tC qR
   have O2 := lH pO
   have R2 := lH qQ
   have S2 := lH qR
   clear pO qQ hown1 qD qR hcs
   go_wp2_with fail
   go_roundw
   case rel =>
    refine ⟨k + 1, vs ++ [Value.int .i64 c.state, .int .i64 c.entry, .int .i64 c.object, .int .i64 c.pc, .int .i64 c.frame, .slice nD c.dZ.length nH, .slice nI c.dU.length nJ, .slice nM c.eu.length nN, .slice qz c.dx.length qA, .slice sN c.eT.length sO, .string c.dR, .int .i64 c.dL], by omega, by go_num, ?_, ?_, tC, by rw [S2.out]; omega⟩
    ·rw [Nat.succ_mul]; exact O2.out
    ·rw [HD.out, S2.out]; exact R2.out
   case measure => simp [intOf]; omega
  ·obtain rfl : k = l.length := by omega
   rw [List.take_length] at hrep
   go_wp2_with fail
   go_ret
   rw [List.drop_eq_nil_of_le (by rw [HZ.out]; exact nR _), List.append_nil] at hown
   exact ⟨_, rfl, dI.mk_ (mid := w.heap.size + 1) hown hrep (by simp [Value.ownBlock]) (by omega) hz, hb⟩
theorem G9 (c : dP) (x y : Value) (w : World) (lo hi lo' hi' : Nat) (h : fA w lo hi dP.ay x c) (h' : fA w lo' hi' dP.ay y c) (hhi : hi ≤ w.heap.size) (eP : hi' ≤ w.heap.size) :
 Calls Tryz.prog 22 #[x, y] w fun e w' => e = .returned (.bool true) ∧ Below w.heap.size w w' := by
 obtain ⟨qh, oD, bE, aY, lZ, kN, bH, aZ, nY, mJ, qj, oF, mq, kP, rfl, yJ, LA, Fy, qd, xM, tN, vG, GJ, zu, qg, xN, tO, wT, Jh, BI, yK, LB, Fz, vH, GK, zw⟩ := dP.form h
 obtain ⟨FY, FZ, uw, uy, Ad, Aj, uz, uD, Da, Db, F3, F4, Al, Ap, rfl, Ol, Ug, Uh, zQ, JD, JE, Ke, Rc, Rf, zR, JF, JG, ME, TG, TH, Om, Ui, Uj, Kg, Rh, Ri⟩ := dP.form h'
 have Mk := str_eq c.dR
 have J5 : (c.dL != c.dL) = false := by simp
 have TI : (c.gF != c.gF) = false := by cases c.gF <;> rfl
 have U6 : (c.je != c.je) = false := by simp
 have Uk : (c.fT != c.fT) = false := by simp
 have Vj : (c.kI != c.kI) = false := by simp
 have hw0 : Below w.heap.size w ((w.alloc (.cells #[Value.slice qh c.fu.length oD, .slice bE c.aA.length aY, .slice lZ c.aI.length kN, .slice bH c.aB.length aZ, .string c.dR, .int .i64 c.dL, .slice nY c.output.length mJ, .slice qj c.gV.length oF, .slice mq c.dY.length kP, .bool c.gF, .int .i64 c.je, .int .i64 c.fT, .int .i64 c.kI] 52)).alloc (.cells #[Value.slice FY c.fu.length FZ, .slice uw c.aA.length uy, .slice Ad c.aI.length Aj, .slice uz c.aB.length uD, .string c.dR, .int .i64 c.dL, .slice Da c.output.length Db, .slice F3 c.gV.length F4, .slice Al c.dY.length Ap, .bool c.gF, .int .i64 c.je, .int .i64 c.fT, .int .i64 c.kI] 52)) := (bA _ _).alloc (by simp) _
 have a0 := (Blk.new w 52 #[Value.slice qh c.fu.length oD, .slice bE c.aA.length aY, .slice lZ c.aI.length kN, .slice bH c.aB.length aZ, .string c.dR, .int .i64 c.dL, .slice nY c.output.length mJ, .slice qj c.gV.length oF, .slice mq c.dY.length kP, .bool c.gF, .int .i64 c.je, .int .i64 c.fT, .int .i64 c.kI]).alloc (.cells #[Value.slice FY c.fu.length FZ, .slice uw c.aA.length uy, .slice Ad c.aI.length Aj, .slice uz c.aB.length uD, .string c.dR, .int .i64 c.dL, .slice Da c.output.length Db, .slice F3 c.gV.length F4, .slice Al c.dY.length Ap, .bool c.gF, .int .i64 c.je, .int .i64 c.fT, .int .i64 c.kI] 52)
 have e0 := Blk.newAt (w.alloc (.cells #[Value.slice qh c.fu.length oD, .slice bE c.aA.length aY, .slice lZ c.aI.length kN, .slice bH c.aB.length aZ, .string c.dR, .int .i64 c.dL, .slice nY c.output.length mJ, .slice qj c.gV.length oF, .slice mq c.dY.length kP, .bool c.gF, .int .i64 c.je, .int .i64 c.fT, .int .i64 c.kI] 52)) 52 #[Value.slice FY c.fu.length FZ, .slice uw c.aA.length uy, .slice Ad c.aI.length Aj, .slice uz c.aB.length uD, .string c.dR, .int .i64 c.dL, .slice Da c.output.length Db, .slice F3 c.gV.length F4, .slice Al c.dY.length Ap, .bool c.gF, .int .i64 c.je, .int .i64 c.fT, .int .i64 c.kI] (w.heap.size + 1) (by simp)
 go_enter Tryz.func22, Tryz.ntmps22
 go_wp2_with fail
 refine (vM c.fu _ _ _ lo hi lo' hi' (yJ.below hw0 hhi) (Ol.below hw0 eP) (nT hhi hw0.size) (nT eP hw0.size)).mono ?_; rintro e w1 ⟨rfl, hb1⟩
 have hw1 : Below w.heap.size w w1 := hw0.trans (hb1.mono hw0.size)
 have a1 := a0.later hb1
 have e1 := e0.later hb1
 have ca := a1.cell
 have ce := e1.cell
 have la := a1.lt
 have le := e1.lt
 clear hb1
 go_wp2_with fail
 refine (vV c.aA _ _ _ lo hi lo' hi' (qd.below hw1 hhi) (zQ.below hw1 eP) (nT hhi hw1.size) (nT eP hw1.size)).mono ?_; rintro e w2 ⟨rfl, hb2⟩
 have hw2 : Below w.heap.size w w2 := hw1.trans (hb2.mono hw1.size)
 have a2 := a1.later hb2
 have e2 := e1.later hb2
 clear ca ce la le
 have ca := a2.cell
 have ce := e2.cell
 have la := a2.lt
 have le := e2.lt
 clear hb2
 go_wp2_with fail
 refine (DZ c.aI _ _ _ lo hi lo' hi' (vG.below hw2 hhi) (Ke.below hw2 eP) (nT hhi hw2.size) (nT eP hw2.size)).mono ?_; rintro e w3 ⟨rfl, hb3⟩
 have hw3 : Below w.heap.size w w3 := hw2.trans (hb3.mono hw2.size)
 have a3 := a2.later hb3
 have e3 := e2.later hb3
 clear ca ce la le
 have ca := a3.cell
 have ce := e3.cell
 have la := a3.lt
 have le := e3.lt
 clear hb3
 go_wp2_with fail
 refine (rV c.aB _ _ _ lo hi lo' hi' (qg.below hw3 hhi) (zR.below hw3 eP) (nT hhi hw3.size) (nT eP hw3.size)).mono ?_; rintro e w4 ⟨rfl, hb4⟩
 have hw4 : Below w.heap.size w w4 := hw3.trans (hb4.mono hw3.size)
 have a4 := a3.later hb4
 have e4 := e3.later hb4
 clear ca ce la le
 have ca := a4.cell
 have ce := e4.cell
 have la := a4.lt
 have le := e4.lt
 clear hb4
 go_wp2_with fail
 refine (vM c.output _ _ _ lo hi lo' hi' (wT.below hw4 hhi) (ME.below hw4 eP) (nT hhi hw4.size) (nT eP hw4.size)).mono ?_; rintro e w5 ⟨rfl, hb5⟩
 have hw5 : Below w.heap.size w w5 := hw4.trans (hb5.mono hw4.size)
 have a5 := a4.later hb5
 have e5 := e4.later hb5
 clear ca ce la le
 have ca := a5.cell
 have ce := e5.cell
 have la := a5.lt
 have le := e5.lt
 clear hb5
 go_wp2_with fail
 refine (vM c.gV _ _ _ lo hi lo' hi' (yK.below hw5 hhi) (Om.below hw5 eP) (nT hhi hw5.size) (nT eP hw5.size)).mono ?_; rintro e w6 ⟨rfl, hb6⟩
 have hw6 : Below w.heap.size w w6 := hw5.trans (hb6.mono hw5.size)
 have a6 := a5.later hb6
 have e6 := e5.later hb6
 clear ca ce la le
 have ca := a6.cell
 have ce := e6.cell
 have la := a6.lt
 have le := e6.lt
 clear hb6
 go_wp2_with fail
 refine (Dm c.dY _ _ _ lo hi lo' hi' (vH.below hw6 hhi) (Kg.below hw6 eP) (nT hhi hw6.size) (nT eP hw6.size)).mono ?_; rintro e w7 ⟨rfl, hb7⟩
 have hw7 : Below w.heap.size w w7 := hw6.trans (hb7.mono hw6.size)
 have a7 := a6.later hb7
 have e7 := e6.later hb7
 clear ca ce la le
 have ca := a7.cell
 have ce := e7.cell
 have la := a7.lt
 have le := e7.lt
 clear hb7
 go_wp2_with fail
 go_ret
 exact ⟨rfl, hw7⟩
end Go.Proofs.YtoddlphekcihgaaGreatDoor
