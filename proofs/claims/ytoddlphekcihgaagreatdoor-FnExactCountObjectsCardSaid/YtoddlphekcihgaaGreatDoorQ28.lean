/- G4 of the program. -/
import Derived.Test.YtoddlphekcihgaaGreatDoorQ27
import Derived.Deep.LoopGhost
set_option maxRecDepth 100000
set_option maxHeartbeats 8000000
set_option linter.unusedVariables false
set_option linter.unusedSimpArgs false
namespace Go.Proofs.YtoddlphekcihgaaGreatDoor
open Go.RowKit
def FN (F : Nat) (c : dK) : Prop := ∀ (vc : Value) (w : World) (lo hi : Nat), fA w lo hi dK.ay vc c → hi ≤ w.heap.size → iw w → (∀ x ∈ c.av, x.text.size ≤ 1048576) →
 Calls Tryz.prog F #[vc] w fun e w' => e = .returned (.bool (validCode c)) ∧ Below w.heap.size w w'
theorem Qd (c : dK) (h : c.au.length < 1) : FN 49 c := by
 intro vc w lo hi hc hhi hst htx
 obtain ⟨bT, bI, bE, aY, bH, aZ, dS, dN, rfl, hr, ur, mr, hd, ud, md, hg, ug, mg, hi1, ui, mi⟩ := dK.form hc
 unfold maxLen at mr md mg mi
 have HTX := lH htx
 obtain ⟨a1, hwa⟩ := eZ w 47 #[.slice bT c.au.length bI, .slice bE c.aA.length aY, .slice bH c.aB.length aZ, .int .i64 c.main, .slice dS c.av.length dN]
 clear hc htx
 have HV : Hid (validCode c = false) := by
  show _ = _
  apply oG
  unfold qH
  rw [dF (show ¬ 1 ≤ c.au.length by omega)]
  simp
 go_enter Tryz.func49, Tryz.ntmps49
 go_wp2_with fail
 go_ret
 exact ⟨ah HV.out.symm, hwa⟩
theorem Oc (c : dK) (h0 : ¬ c.au.length < 1) (h : 12 < c.au.length) : FN 49 c := by
 intro vc w lo hi hc hhi hst htx
 obtain ⟨bT, bI, bE, aY, bH, aZ, dS, dN, rfl, hr, ur, mr, hd, ud, md, hg, ug, mg, hi1, ui, mi⟩ := dK.form hc
 unfold maxLen at mr md mg mi
 have HTX := lH htx
 obtain ⟨a1, hwa⟩ := eZ w 47 #[.slice bT c.au.length bI, .slice bE c.aA.length aY, .slice bH c.aB.length aZ, .int .i64 c.main, .slice dS c.av.length dN]
 clear hc htx
 have HV : Hid (validCode c = false) := by
  show _ = _
  apply oG
  unfold qH
  rw [dF (show ¬ c.au.length ≤ 12 by omega)]
  simp
 go_enter Tryz.func49, Tryz.ntmps49
 go_wp2_with fail
 go_ret
 exact ⟨ah HV.out.symm, hwa⟩
theorem Ms (c : dK) (h0 : ¬ c.au.length < 1) (h1 : ¬ 12 < c.au.length) (h : nQ c.aA = false) : FN 49 c := by
 intro vc w lo hi hc hhi hst htx
 obtain ⟨bT, bI, bE, aY, bH, aZ, dS, dN, rfl, hr, ur, mr, hd, ud, md, hg, ug, mg, hi1, ui, mi⟩ := dK.form hc
 unfold maxLen at mr md mg mi
 have HTX := lH htx
 obtain ⟨a1, hwa⟩ := eZ w 47 #[.slice bT c.au.length bI, .slice bE c.aA.length aY, .slice bH c.aB.length aZ, .int .i64 c.main, .slice dS c.av.length dN]
 clear hc htx
 have HV : Hid (validCode c = false) := by
  show _ = _
  apply oG
  unfold qH
  rw [h]
  simp
 have HRC := lH h
 clear h
 go_enter Tryz.func49, Tryz.ntmps49
 go_wp2_with fail
 refine (iA c.aA _ _ lo hi (hd.below hwa hhi) (nT hhi hwa.size) (hst.below hwa hst.2)).mono ?_; rw [HRC.out]; rintro e w2 ⟨rfl, hb2⟩
 have hw2 := hwa.trans (hb2.mono hwa.size)
 have a2 := a1.later hb2
 have ca := a2.cell
 have la := a2.lt
 clear hb2
 go_wp2_with fail
 go_ret
 exact ⟨ah HV.out.symm, hw2⟩
theorem Qe (c : dK) (h0 : ¬ c.au.length < 1) (h1 : ¬ 12 < c.au.length) (h2 : nQ c.aA = true) (h : 12 < c.aB.length) : FN 49 c := by
 intro vc w lo hi hc hhi hst htx
 obtain ⟨bT, bI, bE, aY, bH, aZ, dS, dN, rfl, hr, ur, mr, hd, ud, md, hg, ug, mg, hi1, ui, mi⟩ := dK.form hc
 unfold maxLen at mr md mg mi
 have HTX := lH htx
 obtain ⟨a1, hwa⟩ := eZ w 47 #[.slice bT c.au.length bI, .slice bE c.aA.length aY, .slice bH c.aB.length aZ, .int .i64 c.main, .slice dS c.av.length dN]
 clear hc htx
 have HV : Hid (validCode c = false) := by
  show _ = _
  apply oG
  unfold qH
  rw [dF (show ¬ c.aB.length ≤ 12 by omega)]
  simp
 have HRC := lH h2
 clear h2
 go_enter Tryz.func49, Tryz.ntmps49
 go_wp2_with fail
 refine (iA c.aA _ _ lo hi (hd.below hwa hhi) (nT hhi hwa.size) (hst.below hwa hst.2)).mono ?_; rw [HRC.out]; rintro e w2 ⟨rfl, hb2⟩
 have hw2 := hwa.trans (hb2.mono hwa.size)
 have a2 := a1.later hb2
 have ca := a2.cell
 have la := a2.lt
 clear hb2
 go_wp2_with fail
 go_ret
 exact ⟨ah HV.out.symm, hw2⟩
theorem Qf (c : dK) (h0 : ¬ c.au.length < 1) (h1 : ¬ 12 < c.au.length) (h2 : nQ c.aA = true) (h3 : ¬ 12 < c.aB.length) (h : c.aB.all fM = false) : FN 49 c := by
 intro vc w lo hi hc hhi hst htx
 obtain ⟨bT, bI, bE, aY, bH, aZ, dS, dN, rfl, hr, ur, mr, hd, ud, md, hg, ug, mg, hi1, ui, mi⟩ := dK.form hc
 unfold maxLen at mr md mg mi
 have HTX := lH htx
 obtain ⟨a1, hwa⟩ := eZ w 47 #[.slice bT c.au.length bI, .slice bE c.aA.length aY, .slice bH c.aB.length aZ, .int .i64 c.main, .slice dS c.av.length dN]
 clear hc htx
 have HV : Hid (validCode c = false) := by
  show _ = _
  apply oG
  unfold qH
  rw [h]
  simp
 have HRC := lH h2
 clear h2
 have HGA := lH h
 clear h
 go_enter Tryz.func49, Tryz.ntmps49
 go_wp2_with fail
 refine (iA c.aA _ _ lo hi (hd.below hwa hhi) (nT hhi hwa.size) (hst.below hwa hst.2)).mono ?_; rw [HRC.out]; rintro e w2 ⟨rfl, hb2⟩
 have hw2 := hwa.trans (hb2.mono hwa.size)
 have a2 := a1.later hb2
 have ca := a2.cell
 have la := a2.lt
 clear hb2
 go_wp2_with fail
 refine (jQ c.aB _ _ lo hi (hg.below hw2 hhi) (nT hhi hw2.size) (hst.below hw2 hst.2)).mono ?_; rw [HGA.out]; rintro e w3 ⟨rfl, hb3⟩
 have hw3 := hw2.trans (hb3.mono hw2.size)
 have a3 := a2.later hb3
 clear ca la hb3
 have ca := a3.cell
 have la := a3.lt
 go_wp2_with fail
 go_ret
 exact ⟨ah HV.out.symm, hw3⟩
theorem Qg (c : dK) (h0 : ¬ c.au.length < 1) (h1 : ¬ 12 < c.au.length) (h2 : nQ c.aA = true) (h3 : ¬ 12 < c.aB.length) (h4 : c.aB.all fM = true) (h : c.av.length < 1) : FN 49 c := by
 intro vc w lo hi hc hhi hst htx
 obtain ⟨bT, bI, bE, aY, bH, aZ, dS, dN, rfl, hr, ur, mr, hd, ud, md, hg, ug, mg, hi1, ui, mi⟩ := dK.form hc
 unfold maxLen at mr md mg mi
 have HTX := lH htx
 obtain ⟨a1, hwa⟩ := eZ w 47 #[.slice bT c.au.length bI, .slice bE c.aA.length aY, .slice bH c.aB.length aZ, .int .i64 c.main, .slice dS c.av.length dN]
 clear hc htx
 have HV : Hid (validCode c = false) := by
  show _ = _
  apply oG
  unfold qH
  rw [dF (show ¬ 1 ≤ c.av.length by omega)]
  simp
 have HRC := lH h2
 clear h2
 have HGA := lH h4
 clear h4
 go_enter Tryz.func49, Tryz.ntmps49
 go_wp2_with fail
 refine (iA c.aA _ _ lo hi (hd.below hwa hhi) (nT hhi hwa.size) (hst.below hwa hst.2)).mono ?_; rw [HRC.out]; rintro e w2 ⟨rfl, hb2⟩
 have hw2 := hwa.trans (hb2.mono hwa.size)
 have a2 := a1.later hb2
 have ca := a2.cell
 have la := a2.lt
 clear hb2
 go_wp2_with fail
 refine (jQ c.aB _ _ lo hi (hg.below hw2 hhi) (nT hhi hw2.size) (hst.below hw2 hst.2)).mono ?_; rw [HGA.out]; rintro e w3 ⟨rfl, hb3⟩
 have hw3 := hw2.trans (hb3.mono hw2.size)
 have a3 := a2.later hb3
 clear ca la hb3
 have ca := a3.cell
 have la := a3.lt
 go_wp2_with fail
 go_ret
 exact ⟨ah HV.out.symm, hw3⟩
theorem Qh (c : dK) (h0 : ¬ c.au.length < 1) (h1 : ¬ 12 < c.au.length) (h2 : nQ c.aA = true) (h3 : ¬ 12 < c.aB.length) (h4 : c.aB.all fM = true) (h5 : ¬ c.av.length < 1) (h : 60000 < c.av.length) : FN 49 c := by
 intro vc w lo hi hc hhi hst htx
 obtain ⟨bT, bI, bE, aY, bH, aZ, dS, dN, rfl, hr, ur, mr, hd, ud, md, hg, ug, mg, hi1, ui, mi⟩ := dK.form hc
 unfold maxLen at mr md mg mi
 have HTX := lH htx
 obtain ⟨a1, hwa⟩ := eZ w 47 #[.slice bT c.au.length bI, .slice bE c.aA.length aY, .slice bH c.aB.length aZ, .int .i64 c.main, .slice dS c.av.length dN]
 clear hc htx
 have HV : Hid (validCode c = false) := by
  show _ = _
  apply oG
  unfold qH
  rw [dF (show ¬ c.av.length ≤ 60000 by omega)]
  simp
 have HRC := lH h2
 clear h2
 have HGA := lH h4
 clear h4
 go_enter Tryz.func49, Tryz.ntmps49
 go_wp2_with fail
 refine (iA c.aA _ _ lo hi (hd.below hwa hhi) (nT hhi hwa.size) (hst.below hwa hst.2)).mono ?_; rw [HRC.out]; rintro e w2 ⟨rfl, hb2⟩
 have hw2 := hwa.trans (hb2.mono hwa.size)
 have a2 := a1.later hb2
 have ca := a2.cell
 have la := a2.lt
 clear hb2
 go_wp2_with fail
 refine (jQ c.aB _ _ lo hi (hg.below hw2 hhi) (nT hhi hw2.size) (hst.below hw2 hst.2)).mono ?_; rw [HGA.out]; rintro e w3 ⟨rfl, hb3⟩
 have hw3 := hw2.trans (hb3.mono hw2.size)
 have a3 := a2.later hb3
 clear ca la hb3
 have ca := a3.cell
 have la := a3.lt
 go_wp2_with fail
 go_ret
 exact ⟨ah HV.out.symm, hw3⟩
theorem Qi (c : dK) (h0 : ¬ c.au.length < 1) (h1 : ¬ 12 < c.au.length) (h2 : nQ c.aA = true) (h3 : ¬ 12 < c.aB.length) (h4 : c.aB.all fM = true) (h5 : ¬ c.av.length < 1) (h6 : ¬ 60000 < c.av.length) : FN 49 c := by
 intro vc w lo hi hc hhi hst htx
 obtain ⟨bT, bI, bE, aY, bH, aZ, dS, dN, rfl, hr, ur, mr, hd, ud, md, hg, ug, mg, hi1, ui, mi⟩ := dK.form hc
 unfold maxLen at mr md mg mi
 have HTX := lH htx
 obtain ⟨a1, hwa⟩ := eZ w 47 #[.slice bT c.au.length bI, .slice bE c.aA.length aY, .slice bH c.aB.length aZ, .int .i64 c.main, .slice dS c.av.length dN]
 clear hc htx
 have HH : Hid (qH c = true) := by
  show _ = _
  unfold qH
  rw [dT (show 1 ≤ c.au.length by omega), dT (show c.au.length ≤ 12 by omega), h2, dT (show c.aB.length ≤ 12 by omega), h4, dT (show 1 ≤ c.av.length by omega), dT (show c.av.length ≤ 60000 by omega)]
  rfl
 have HRC := lH h2
 have HGA := lH h4
 clear h2 h4
 have d1 : decide ((c.au.length : Int) < 1) = false := dF (by omega)
 have d2 : decide ((12 : Int) < (c.au.length : Int)) = false := dF (by omega)
 have d3 : decide ((12 : Int) < (c.aB.length : Int)) = false := dF (by omega)
 have d4 : decide ((c.av.length : Int) < 1) = false := dF (by omega)
 have d5 : decide ((60000 : Int) < (c.av.length : Int)) = false := dF (by omega)
 go_enter Tryz.func49, Tryz.ntmps49
 go_wp2_with fail
 refine (iA c.aA _ _ lo hi (hd.below hwa hhi) (nT hhi hwa.size) (hst.below hwa hst.2)).mono ?_; rw [HRC.out]; rintro e w2 ⟨rfl, hb2⟩
 have hw2 := hwa.trans (hb2.mono hwa.size)
 have a2 := a1.later hb2
 have ca := a2.cell
 have la := a2.lt
 clear hb2
 go_wp2_with fail
 refine (jQ c.aB _ _ lo hi (hg.below hw2 hhi) (nT hhi hw2.size) (hst.below hw2 hst.2)).mono ?_; rw [HGA.out]; rintro e w3 ⟨rfl, hb3⟩
 have hw3 := hw2.trans (hb3.mono hw2.size)
 have a3 := a2.later hb3
 clear ca la hb3
 have ca := a3.cell
 have la := a3.lt
 go_wp2_with fail
 clear ca la a1 a2 hwa hw2
 have Vs := a3.lt
 go_loopw [50] (fun i wr => ∃ k : Nat, k ≤ c.au.length ∧ i = .int .i64 k ∧ Hid ((c.au.take k).all (x9 c.av.length) = true) ∧ Below w3.heap.size w3 wr) (fun i _ => c.au.length - (intOf i).toNat)
 case atStart => exact ⟨0, nZ _, rfl, by simp [Hid], bR _ _⟩
 case round =>
  obtain ⟨k, hk, rfl, hgo, hb⟩ := hrel
  have hw4 : Below w.heap.size w wr := hw3.trans (hb.mono hw3.size)
  have a4 := a3.later hb
  by_cases hlt : k < c.au.length
  ·obtain ⟨r, hrk⟩ : ∃ r, c.au[k]? = some r := ⟨_, gE hlt⟩
   obtain ⟨g, off, hA, hg1, hg2, hmem, -, q0, q1, q2, q3⟩ := jF.at_ (hr.below hw4 hhi) hrk
   subst hA
   have HS := lH (tH (q := x9 c.av.length) hrk)
   have HM : Hid (x9 c.av.length r = false → validCode c = false) := fun e => Gt (lI hmem e)
   have hwr : Below w.heap.size w (wr.alloc (.cells #[.string r.name, .int .i64 r.params, .int .i64 r.slots, .int .i64 r.entry] 141)) := hw4.alloc hw4.size _
   have b4 := Blk.new wr 141 #[.string r.name, .int .i64 r.params, .int .i64 r.slots, .int .i64 r.entry]
   have a5 := a4.alloc (.cells #[.string r.name, .int .i64 r.params, .int .i64 r.slots, .int .i64 r.entry] 141)
   clear hrk hmem
   cases hn : fM r.name with
   | false =>
     have HV : Hid (validCode c = false) := HM.out (by rw [x9, hn]; rfl)
     have HN := lH hn
     clear hn hgo
     go_wp2_with fail
     refine (oU r.name _ (hst.below hwr hst.2)).mono ?_; rw [HN.out]; rintro e w5 ⟨rfl, hb5⟩
     have hw5 := hwr.trans (hb5.mono hwr.size)
     go_wp2_with fail
     go_ret
     exact ⟨ah HV.out.symm, hw5⟩
   | true =>
     have HN := lH hn
     have HB : Hid (x9 c.av.length r = (decide (0 ≤ r.slots) && decide (r.slots ≤ 24) && decide (0 ≤ r.params) && decide (r.params ≤ r.slots) && decide (0 ≤ r.entry) && decide (r.entry < c.av.length))) := lH (by rw [x9, hn, Bool.true_and])
     clear hn
     by_cases S9 : ¬ (0 ≤ r.slots)
     have HV : Hid (validCode c = false) := HM.out (by rw [HB.out, dF S9]; simp)
     clear hgo
     rotate_left
     have s0 : 0 ≤ r.slots := by omega
     clear S9
     by_cases Ta : ¬ (r.slots ≤ 24)
     have HV : Hid (validCode c = false) := HM.out (by rw [HB.out, dF Ta]; simp)
     clear hgo
     rotate_left
     have s1 : r.slots ≤ 24 := by omega
     clear Ta
     by_cases Tc : ¬ (0 ≤ r.params)
     have HV : Hid (validCode c = false) := HM.out (by rw [HB.out, dF Tc]; simp)
     clear hgo
     rotate_left
     have p0 : 0 ≤ r.params := by omega
     clear Tc
     by_cases Td : ¬ (r.params ≤ r.slots)
     have HV : Hid (validCode c = false) := HM.out (by rw [HB.out, dF Td]; simp)
     clear hgo
     rotate_left
     have p1 : r.params ≤ r.slots := by omega
     clear Td
     by_cases Te : ¬ (0 ≤ r.entry)
     have HV : Hid (validCode c = false) := HM.out (by rw [HB.out, dF Te]; simp)
     clear hgo
     rotate_left
     have e0 : 0 ≤ r.entry := by omega
     clear Te
     by_cases Tf : ¬ (r.entry < c.av.length)
     have HV : Hid (validCode c = false) := HM.out (by rw [HB.out, dF Tf]; simp)
     clear hgo
     rotate_left
     rotate_right 6
     iterate 6 focus
      go_wp2_with fail
      refine (oU r.name _ (hst.below hwr hst.2)).mono ?_; rw [HN.out]; rintro e w5 ⟨rfl, hb5⟩
      have hw5 := hwr.trans (hb5.mono hwr.size)
      have b5 := b4.later hb5
      have cb := b5.cell
      have lb := b5.lt
      have a6 := a5.later hb5
      have ca := a6.cell
      have la := a6.lt
      clear q0 q1 q2 q3
      go_wp2_with fail
      go_ret
      exact ⟨ah HV.out.symm, hw5⟩
     have e1 : r.entry < c.av.length := by omega
     clear Tf
     have HG : Hid ((c.au.take (k + 1)).all (x9 c.av.length) = true) := lH (by rw [HS.out, hgo.out, HB.out, dT s0, dT s1, dT p0, dT p1, dT e0, dT e1]; rfl)
     clear hgo
     go_wp2_with fail
     refine (oU r.name _ (hst.below hwr hst.2)).mono ?_; rw [HN.out]; rintro e w5 ⟨rfl, hb5⟩
     have hw5 := hwr.trans (hb5.mono hwr.size)
     have b5 := b4.later hb5
     have cb := b5.cell
     have lb := b5.lt
     have a6 := a5.later hb5
     have ca := a6.cell
     have la := a6.lt
     clear q0 q1 q2 q3
     go_wp2_with fail
     go_roundw
     case rel => exact ⟨k + 1, by omega, by go_num, HG, ((hb.alloc hb.size _).trans (hb5.mono (nT hb.size (by simp))))⟩
     case measure => simp [intOf]; omega
  ·obtain rfl : k = c.au.length := by omega
   rw [List.take_length] at hgo
   have ca := a4.cell
   have la := a4.lt
   have h0' : 0 < c.au.length := by omega
   by_cases m0 : c.main < 0
   have HV : Hid (validCode c = false) := vJ (by rw [rD, dF (by omega)]; rfl)
   clear hgo
   rotate_left
   by_cases m1' : ¬ (c.main < c.au.length)
   have HV : Hid (validCode c = false) := vJ (by rw [rD, dF m1', Bool.and_false]; rfl)
   have m2 : (c.au.length : Int) ≤ c.main := by omega
   clear hgo
   rotate_left
   have m1 : c.main < c.au.length := by omega
   clear m1'
   obtain ⟨mn, hmn⟩ : ∃ mn : Nat, c.main = mn := ⟨c.main.toNat, by omega⟩
   obtain ⟨r0, hr0⟩ : ∃ r0, c.au[mn]? = some r0 := ⟨_, gE (by omega)⟩
   obtain ⟨g, off, hA, hg1, hg2, -, -, -, q1, -, -⟩ := jF.at_ (hr.below hw4 hhi) hr0
   subst hA
   have HMN : Hid (rD c = decide (r0.params = 0)) := by
    show _ = _
    unfold rD
    rw [dT (show 0 ≤ c.main by omega), dT m1, hmn, Int.toNat_natCast, hr0]
    rfl
   have hml : mn < c.au.length := by omega
   rw [hmn] at ca
   clear hmn m0 m1 hr0
   by_cases hp' : ¬ r0.params = 0
   have HV : Hid (validCode c = false) := vJ (by rw [HMN.out, dF hp'])
   have f0 : (r0.params != 0) = true := by simpa using hp'
   clear hgo hp'
   rotate_left
   rotate_right 3
   iterate 3 focus
    go_wp2_with fail
    go_ret
    exact ⟨ah HV.out.symm, hw4⟩
   have hp : r0.params = 0 := by omega
   clear hp'
   have HMO : Hid (rD c = true) := lH (by rw [HMN.out, dT hp])
   have d9 : decide ((mn : Int) < 0) = false := dF (by omega)
   have d10 : decide ((c.au.length : Int) ≤ (mn : Int)) = false := dF (by omega)
   have d11 : decide (c.au.length ≤ mn) = false := dF (by omega)
   have f0 : (r0.params != 0) = false := by simp [hp]
   clear hp HMN
   go_wp2_with fail
   clear ca la q1
   obtain ⟨w6, rfl⟩ := nW wr
   have HRO := hgo
   clear hgo hb
   go_loopg [118] c.av.length (fun gk i wx => ∃ k : Nat, k ≤ c.av.length ∧ i = .int .i64 k ∧ Hid ((c.av.take k).all (fK (gL c) c.av.length) = true) ∧ Below w6.heap.size w6 wx ∧ gk = c.av.length - k)
   case atStart => exact ⟨0, nZ _, rfl, by simp [Hid], bR _ _, rfl⟩
   case round =>
    obtain ⟨j, hj, rfl, hgo, hb6, hgk⟩ := hrel
    have HGK := lH hgk
    clear hgk
    have hw7 : Below w.heap.size w wr := hw4.trans (hb6.mono hw4.size)
    have a7 := a4.later hb6
    have ca := a7.cell
    have la := a7.lt
    by_cases hlt : j < c.av.length
    ·obtain ⟨x, hx⟩ : ∃ x, c.av[j]? = some x := ⟨_, gE hlt⟩
     obtain ⟨gI, oI, hA, UZ, U0, hmem, -, q0, q1, q2, q3, q4⟩ := eO.at_ (hi1.below hw7 hhi) hx
     subst hA
     have hxt := HTX.out x hmem
     have HS := lH (tH (q := fK (gL c) c.av.length) hx)
     have HM : Hid (fK (gL c) c.av.length x = false → validCode c = false) := fun e => El (lI hmem e)
     have hw8 : Below w.heap.size w (wr.alloc (.cells #[.int .i64 x.op, .int .i64 x.a, .int .i64 x.b, .int .i64 x.line, .string x.text] 146)) := hw7.alloc hw7.size _
     have hsc : fA w lo hi dK.ay (.agg #[.slice (some ⟨g, off, none⟩) c.au.length bI, .slice bE c.aA.length aY, .slice bH c.aB.length aZ, .int .i64 c.main, .slice (some ⟨gI, oI, none⟩) c.av.length dN]) c := dK.mk_ hr hd hg hi1
     have HC := lH (Bq c x (.agg #[.slice (some ⟨g, off, none⟩) c.au.length bI, .slice bE c.aA.length aY, .slice bH c.aB.length aZ, .int .i64 c.main, .slice (some ⟨gI, oI, none⟩) c.av.length dN]) (.agg #[.int .i64 x.op, .int .i64 x.a, .int .i64 x.b, .int .i64 x.line, .string x.text]) (wr.alloc (.cells #[.int .i64 x.op, .int .i64 x.a, .int .i64 x.b, .int .i64 x.line, .string x.text] 146)) lo hi 0 0 (hsc.below hw8 hhi) eO.mk_ hxt (hst.below hw8 hst.2))
     clear hx hmem hsc
     cases hv : fK (gL c) c.av.length x with
     | false =>
       have HV : Hid (validCode c = false) := HM.out hv
       have HN := lH hv
       clear hv hgo
       go_wp2_with fail
       refine HC.out.mono ?_; rw [HN.out]; rintro e w9 ⟨rfl, hb9⟩
       have hw9 := hw8.trans (hb9.mono hw8.size)
       go_wp2_with fail
       go_ret
       exact ⟨ah HV.out.symm, hw9⟩
     | true =>
       have HG : Hid ((c.av.take (j + 1)).all (fK (gL c) c.av.length) = true) := lH (by rw [HS.out, hgo.out, hv]; rfl)
       have HN := lH hv
       clear hv hgo
       go_wp2_with fail
       refine HC.out.mono ?_; rw [HN.out]; rintro e w9 ⟨rfl, hb9⟩
       have NK := (hb6.alloc hb6.size _).trans (hb9.mono (nT hb6.size (by simp)))
       clear hb9 q0 q1 q2 q3 q4 HC ca la
       go_wp2_with fail
       go_roundg (c.av.length - (j + 1))
       case measure => have := HGK.out; omega
       case rel => exact ⟨j + 1, by omega, by go_num, HG, NK, rfl⟩
    ·obtain rfl : j = c.av.length := by omega
     rw [List.take_length] at hgo
     have HV : Hid (validCode c = true) := Em HH.out HRO.out HMO.out hgo.out
     clear hgo
     go_wp2_with fail
     go_ret
     exact ⟨ah HV.out.symm, hw7⟩
theorem qO (c : dK) : FN 49 c := by
 by_cases h0 : c.au.length < 1
 ·exact Qd c h0
 by_cases h1 : 12 < c.au.length
 ·exact Oc c h0 h1
 cases h2 : nQ c.aA with
 | false => exact Ms c h0 h1 h2
 | true =>
   by_cases h3 : 12 < c.aB.length
   ·exact Qe c h0 h1 h2 h3
   cases h4 : c.aB.all fM with
   | false => exact Qf c h0 h1 h2 h3 h4
   | true =>
     by_cases h5 : c.av.length < 1
     ·exact Qg c h0 h1 h2 h3 h4 h5
     by_cases h6 : 60000 < c.av.length
     ·exact Qh c h0 h1 h2 h3 h4 h5 h6
     exact Qi c h0 h1 h2 h3 h4 h5 h6
end Go.Proofs.YtoddlphekcihgaaGreatDoor
