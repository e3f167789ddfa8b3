/- G4 of the reference. -/
import Derived.Test.YtoddlphekcihgaaGreatDoorQ32
import Derived.Deep.LoopGhost
set_option maxRecDepth 100000
set_option maxHeartbeats 8000000
set_option linter.unusedVariables false
set_option linter.unusedSimpArgs false
namespace Go.Proofs.YtoddlphekcihgaaGreatDoor
open Go.RowKit
def yC (F : Nat) (c : dK) : Prop := ∀ (vc : Value) (w : World) (lo hi : Nat), fA w lo hi dK.ay vc c → hi ≤ w.heap.size → (∀ x ∈ c.av, x.text.size ≤ 1048576) →
 Calls Tryz.prog F #[vc] w fun e w' => e = .returned (.bool (validCode c)) ∧ Below w.heap.size w w'
theorem in_lt (a n : Int) : inB a 0 (n - 1) = (decide (0 ≤ a) && decide (a < n)) := by
 unfold inB
 congr 1
 rw [Bool.eq_iff_iff, decide_eq_true_eq, decide_eq_true_eq]; omega
theorem My {l : List gU} (h : 8 < l.length) : nQ l = false := by rw [nQ, dF (by omega), Bool.and_false]
theorem Od {l : List gU} (h : l.all tJ = false) : nQ l = false := by rw [nQ, h]; rfl
theorem EB {c : dK} (h : nQ c.aA = false) : validCode c = false := by apply oG; unfold qH; rw [h]; simp
theorem Qr (c : dK) (h : c.au.length < 1) : yC 34 c := by
 intro vc w lo hi hc hhi htx
 obtain ⟨bT, bI, bE, aY, bH, aZ, dS, dN, rfl, hr, ur, mr, hd, ud, md, hg, ug, mg, hi1, ui, mi⟩ := dK.form hc
 unfold maxLen at mr md mg mi
 have HTX := lH htx
 obtain ⟨a1, hwa⟩ := eZ w 47 #[.slice bT c.au.length bI, .slice bE c.aA.length aY, .slice bH c.aB.length aZ, .int .i64 c.main, .slice dS c.av.length dN]
 clear hc htx
 have HV : Hid (validCode c = false) := by
  show _ = _
  apply oG
  unfold qH
  rw [dF (show ¬ 1 ≤ c.au.length by omega)]
  simp
 go_enter Tryz.func34, Tryz.ntmps34
 go_wp2_with fail
 go_ret
 exact ⟨ah HV.out.symm, hwa⟩
theorem Oe (c : dK) (h0 : ¬ c.au.length < 1) (h : 12 < c.au.length) : yC 34 c := by
 intro vc w lo hi hc hhi htx
 obtain ⟨bT, bI, bE, aY, bH, aZ, dS, dN, rfl, hr, ur, mr, hd, ud, md, hg, ug, mg, hi1, ui, mi⟩ := dK.form hc
 unfold maxLen at mr md mg mi
 have HTX := lH htx
 obtain ⟨a1, hwa⟩ := eZ w 47 #[.slice bT c.au.length bI, .slice bE c.aA.length aY, .slice bH c.aB.length aZ, .int .i64 c.main, .slice dS c.av.length dN]
 clear hc htx
 have HV : Hid (validCode c = false) := by
  show _ = _
  apply oG
  unfold qH
  rw [dF (show ¬ c.au.length ≤ 12 by omega)]
  simp
 go_enter Tryz.func34, Tryz.ntmps34
 go_wp2_with fail
 go_ret
 exact ⟨ah HV.out.symm, hwa⟩
theorem Og (c : dK) (h0 : ¬ c.au.length < 1) (h1 : ¬ 12 < c.au.length) (h : 8 < c.aA.length) : yC 34 c := by
 intro vc w lo hi hc hhi htx
 obtain ⟨bT, bI, bE, aY, bH, aZ, dS, dN, rfl, hr, ur, mr, hd, ud, md, hg, ug, mg, hi1, ui, mi⟩ := dK.form hc
 unfold maxLen at mr md mg mi
 have HTX := lH htx
 obtain ⟨a1, hwa⟩ := eZ w 47 #[.slice bT c.au.length bI, .slice bE c.aA.length aY, .slice bH c.aB.length aZ, .int .i64 c.main, .slice dS c.av.length dN]
 clear hc htx
 have HV : Hid (validCode c = false) := EB (My h)
 go_enter Tryz.func34, Tryz.ntmps34
 go_wp2_with fail
 go_ret
 exact ⟨ah HV.out.symm, hwa⟩
theorem J9 (c : dK) (h0 : ¬ c.au.length < 1) (h1 : ¬ 12 < c.au.length) (h2 : ¬ 8 < c.aA.length) (h : (c.aB.all fM && decide (c.aB.length ≤ 12)) = false) : yC 34 c := by
 intro vc w lo hi hc hhi htx
 obtain ⟨bT, bI, bE, aY, bH, aZ, dS, dN, rfl, hr, ur, mr, hd, ud, md, hg, ug, mg, hi1, ui, mi⟩ := dK.form hc
 unfold maxLen at mr md mg mi
 have HTX := lH htx
 obtain ⟨a1, hwa⟩ := eZ w 47 #[.slice bT c.au.length bI, .slice bE c.aA.length aY, .slice bH c.aB.length aZ, .int .i64 c.main, .slice dS c.av.length dN]
 clear hc htx
 have HV : Hid (validCode c = false) := by
  show _ = _
  apply oG
  unfold qH
  cases hq : c.aB.all fM with
  | false => simp
  | true => rw [hq, Bool.true_and] at h; rw [h]; simp
 have HGN := lH h
 clear h
 go_enter Tryz.func34, Tryz.ntmps34
 go_wp2_with fail
 refine (gu c.aB 12 _ _ lo hi (hg.below hwa hhi) (nT hhi hwa.size)).mono ?_; rw [HGN.out]; rintro e w2 ⟨rfl, hb2⟩
 have hw2 := hwa.trans (hb2.mono hwa.size)
 have a2 := a1.later hb2
 have ca := a2.cell
 have la := a2.lt
 clear hb2
 go_wp2_with fail
 go_ret
 exact ⟨ah HV.out.symm, hw2⟩
theorem MB (c : dK) (h0 : ¬ c.au.length < 1) (h1 : ¬ 12 < c.au.length) (h2 : ¬ 8 < c.aA.length) (h3 : (c.aB.all fM && decide (c.aB.length ≤ 12)) = true) (h : inB c.main 0 ((c.au.length : Int) - 1) = false) : yC 34 c := by
 intro vc w lo hi hc hhi htx
 obtain ⟨bT, bI, bE, aY, bH, aZ, dS, dN, rfl, hr, ur, mr, hd, ud, md, hg, ug, mg, hi1, ui, mi⟩ := dK.form hc
 unfold maxLen at mr md mg mi
 have HTX := lH htx
 obtain ⟨a1, hwa⟩ := eZ w 47 #[.slice bT c.au.length bI, .slice bE c.aA.length aY, .slice bH c.aB.length aZ, .int .i64 c.main, .slice dS c.av.length dN]
 clear hc htx
 have HV : Hid (validCode c = false) := vJ (by rw [in_lt] at h; rw [rD, h]; rfl)
 have HGN := lH h3
 have HIN := lH h
 clear h h3
 go_enter Tryz.func34, Tryz.ntmps34
 go_wp2_with fail
 refine (gu c.aB 12 _ _ lo hi (hg.below hwa hhi) (nT hhi hwa.size)).mono ?_; rw [HGN.out]; rintro e w2 ⟨rfl, hb2⟩
 have hw2 := hwa.trans (hb2.mono hwa.size)
 have a2 := a1.later hb2
 have ca := a2.cell
 have la := a2.lt
 clear hb2
 go_wp2_with fail
 refine (bJ c.main 0 ((c.au.length : Int) - 1) _).mono ?_; rw [HIN.out]; rintro e w3 ⟨rfl, rfl⟩
 go_wp2_with fail
 go_ret
 exact ⟨ah HV.out.symm, hw2⟩
theorem Oh (c : dK) (h0 : ¬ c.au.length < 1) (h1 : ¬ 12 < c.au.length) (h2 : ¬ 8 < c.aA.length) (h3 : (c.aB.all fM && decide (c.aB.length ≤ 12)) = true) (mn : Nat) (hmn : c.main = mn) (hml : mn < c.au.length) (r0 : jF) (hr0 : c.au[mn]? = some r0) (h : ¬ r0.params = 0) : yC 34 c := by
 intro vc w lo hi hc hhi htx
 obtain ⟨bT, bI, bE, aY, bH, aZ, dS, dN, rfl, hr, ur, mr, hd, ud, md, hg, ug, mg, hi1, ui, mi⟩ := dK.form hc
 unfold maxLen at mr md mg mi
 have HTX := lH htx
 obtain ⟨a1, hwa⟩ := eZ w 47 #[.slice bT c.au.length bI, .slice bE c.aA.length aY, .slice bH c.aB.length aZ, .int .i64 c.main, .slice dS c.av.length dN]
 clear hc htx
 obtain ⟨g0, FO, hA0, Qs, Qt, -, -, -, q1, -, -⟩ := jF.at_ hr hr0
 subst hA0
 have HMN : Hid (rD c = decide (r0.params = 0)) := by
  show _ = _
  unfold rD
  rw [hmn, dT (show (0 : Int) ≤ (mn : Int) by omega), dT (show (mn : Int) < (c.au.length : Int) by omega), Int.toNat_natCast, hr0]
  rfl
 have HIN : Hid (inB (mn : Int) 0 ((c.au.length : Int) - 1) = true) := lH (by rw [in_lt, dT (show (0 : Int) ≤ (mn : Int) by omega), dT (show (mn : Int) < (c.au.length : Int) by omega)]; rfl)
 have HGN := lH h3
 have IJ := lH hmn
 clear h3 hr0 hmn
 have HV : Hid (validCode c = false) := vJ (by rw [HMN.out, dF h])
 have f0 : (r0.params != 0) = true := by simpa using h
 have d9 : decide ((c.au.length : Int) < 1) = false := dF (by omega)
 have d10 : decide ((12 : Int) < (c.au.length : Int)) = false := dF (by omega)
 have d11 : decide ((8 : Int) < (c.aA.length : Int)) = false := dF (by omega)
 go_enter Tryz.func34, Tryz.ntmps34
 go_wp2_with fail
 refine (gu c.aB 12 _ _ lo hi (hg.below hwa hhi) (nT hhi hwa.size)).mono ?_; rw [HGN.out]; rintro e w2 ⟨rfl, hb2⟩
 have hw2 := hwa.trans (hb2.mono hwa.size)
 have a2 := a1.later hb2
 have ca := a2.cell
 have la := a2.lt
 clear hb2
 rw [IJ.out] at ca
 have q1' := (hw2.cell (p := ⟨g0, FO + mn * 4 + 1, none⟩) (by show g0 < _; omega)).trans q1
 go_wp2_with fail
 refine (bJ (mn : Int) 0 ((c.au.length : Int) - 1) _).mono ?_; rw [HIN.out]; rintro e w3 ⟨rfl, rfl⟩
 go_wp2_with fail
 go_ret
 exact ⟨ah HV.out.symm, hw2⟩
theorem Qu (c : dK) (h0 : ¬ c.au.length < 1) (h1 : ¬ 12 < c.au.length) (h2 : ¬ 8 < c.aA.length) (h3 : (c.aB.all fM && decide (c.aB.length ≤ 12)) = true) (mn : Nat) (hmn : c.main = mn) (hml : mn < c.au.length) (r0 : jF) (hr0 : c.au[mn]? = some r0) (hp : r0.params = 0) (h : c.av.length < 1) : yC 34 c := by
 intro vc w lo hi hc hhi htx
 obtain ⟨bT, bI, bE, aY, bH, aZ, dS, dN, rfl, hr, ur, mr, hd, ud, md, hg, ug, mg, hi1, ui, mi⟩ := dK.form hc
 unfold maxLen at mr md mg mi
 have HTX := lH htx
 obtain ⟨a1, hwa⟩ := eZ w 47 #[.slice bT c.au.length bI, .slice bE c.aA.length aY, .slice bH c.aB.length aZ, .int .i64 c.main, .slice dS c.av.length dN]
 clear hc htx
 obtain ⟨g0, FO, hA0, Qs, Qt, -, -, -, q1, -, -⟩ := jF.at_ hr hr0
 subst hA0
 have HMN : Hid (rD c = decide (r0.params = 0)) := by
  show _ = _
  unfold rD
  rw [hmn, dT (show (0 : Int) ≤ (mn : Int) by omega), dT (show (mn : Int) < (c.au.length : Int) by omega), Int.toNat_natCast, hr0]
  rfl
 have HIN : Hid (inB (mn : Int) 0 ((c.au.length : Int) - 1) = true) := lH (by rw [in_lt, dT (show (0 : Int) ≤ (mn : Int) by omega), dT (show (mn : Int) < (c.au.length : Int) by omega)]; rfl)
 have HGN := lH h3
 have IJ := lH hmn
 clear h3 hr0 hmn
 have HV : Hid (validCode c = false) := by
  show _ = _
  apply oG
  unfold qH
  rw [dF (show ¬ 1 ≤ c.av.length by omega)]
  simp
 have f0 : (r0.params != 0) = false := by simp [hp]
 clear hp
 have d9 : decide ((c.au.length : Int) < 1) = false := dF (by omega)
 have d10 : decide ((12 : Int) < (c.au.length : Int)) = false := dF (by omega)
 have d11 : decide ((8 : Int) < (c.aA.length : Int)) = false := dF (by omega)
 go_enter Tryz.func34, Tryz.ntmps34
 go_wp2_with fail
 refine (gu c.aB 12 _ _ lo hi (hg.below hwa hhi) (nT hhi hwa.size)).mono ?_; rw [HGN.out]; rintro e w2 ⟨rfl, hb2⟩
 have hw2 := hwa.trans (hb2.mono hwa.size)
 have a2 := a1.later hb2
 have ca := a2.cell
 have la := a2.lt
 clear hb2
 rw [IJ.out] at ca
 have q1' := (hw2.cell (p := ⟨g0, FO + mn * 4 + 1, none⟩) (by show g0 < _; omega)).trans q1
 go_wp2_with fail
 refine (bJ (mn : Int) 0 ((c.au.length : Int) - 1) _).mono ?_; rw [HIN.out]; rintro e w3 ⟨rfl, rfl⟩
 go_wp2_with fail
 go_ret
 exact ⟨ah HV.out.symm, hw2⟩
theorem Qv (c : dK) (h0 : ¬ c.au.length < 1) (h1 : ¬ 12 < c.au.length) (h2 : ¬ 8 < c.aA.length) (h3 : (c.aB.all fM && decide (c.aB.length ≤ 12)) = true) (mn : Nat) (hmn : c.main = mn) (hml : mn < c.au.length) (r0 : jF) (hr0 : c.au[mn]? = some r0) (hp : r0.params = 0) (h5 : ¬ c.av.length < 1) (h : 60000 < c.av.length) : yC 34 c := by
 intro vc w lo hi hc hhi htx
 obtain ⟨bT, bI, bE, aY, bH, aZ, dS, dN, rfl, hr, ur, mr, hd, ud, md, hg, ug, mg, hi1, ui, mi⟩ := dK.form hc
 unfold maxLen at mr md mg mi
 have HTX := lH htx
 obtain ⟨a1, hwa⟩ := eZ w 47 #[.slice bT c.au.length bI, .slice bE c.aA.length aY, .slice bH c.aB.length aZ, .int .i64 c.main, .slice dS c.av.length dN]
 clear hc htx
 obtain ⟨g0, FO, hA0, Qs, Qt, -, -, -, q1, -, -⟩ := jF.at_ hr hr0
 subst hA0
 have HMN : Hid (rD c = decide (r0.params = 0)) := by
  show _ = _
  unfold rD
  rw [hmn, dT (show (0 : Int) ≤ (mn : Int) by omega), dT (show (mn : Int) < (c.au.length : Int) by omega), Int.toNat_natCast, hr0]
  rfl
 have HIN : Hid (inB (mn : Int) 0 ((c.au.length : Int) - 1) = true) := lH (by rw [in_lt, dT (show (0 : Int) ≤ (mn : Int) by omega), dT (show (mn : Int) < (c.au.length : Int) by omega)]; rfl)
 have HGN := lH h3
 have IJ := lH hmn
 clear h3 hr0 hmn
 have HV : Hid (validCode c = false) := by
  show _ = _
  apply oG
  unfold qH
  rw [dF (show ¬ c.av.length ≤ 60000 by omega)]
  simp
 have f0 : (r0.params != 0) = false := by simp [hp]
 clear hp
 have d9 : decide ((c.au.length : Int) < 1) = false := dF (by omega)
 have d10 : decide ((12 : Int) < (c.au.length : Int)) = false := dF (by omega)
 have d11 : decide ((8 : Int) < (c.aA.length : Int)) = false := dF (by omega)
 go_enter Tryz.func34, Tryz.ntmps34
 go_wp2_with fail
 refine (gu c.aB 12 _ _ lo hi (hg.below hwa hhi) (nT hhi hwa.size)).mono ?_; rw [HGN.out]; rintro e w2 ⟨rfl, hb2⟩
 have hw2 := hwa.trans (hb2.mono hwa.size)
 have a2 := a1.later hb2
 have ca := a2.cell
 have la := a2.lt
 clear hb2
 rw [IJ.out] at ca
 have q1' := (hw2.cell (p := ⟨g0, FO + mn * 4 + 1, none⟩) (by show g0 < _; omega)).trans q1
 go_wp2_with fail
 refine (bJ (mn : Int) 0 ((c.au.length : Int) - 1) _).mono ?_; rw [HIN.out]; rintro e w3 ⟨rfl, rfl⟩
 go_wp2_with fail
 go_ret
 exact ⟨ah HV.out.symm, hw2⟩
theorem Qw (c : dK) (h0 : ¬ c.au.length < 1) (h1 : ¬ 12 < c.au.length) (h2 : ¬ 8 < c.aA.length) (h3 : (c.aB.all fM && decide (c.aB.length ≤ 12)) = true) (mn : Nat) (hmn : c.main = mn) (hml : mn < c.au.length) (r0 : jF) (hr0 : c.au[mn]? = some r0) (hp : r0.params = 0) (h5 : ¬ c.av.length < 1) (h6 : ¬ 60000 < c.av.length) : yC 34 c := by
 intro vc w lo hi hc hhi htx
 obtain ⟨bT, bI, bE, aY, bH, aZ, dS, dN, rfl, hr, ur, mr, hd, ud, md, hg, ug, mg, hi1, ui, mi⟩ := dK.form hc
 unfold maxLen at mr md mg mi
 have HTX := lH htx
 obtain ⟨a1, hwa⟩ := eZ w 47 #[.slice bT c.au.length bI, .slice bE c.aA.length aY, .slice bH c.aB.length aZ, .int .i64 c.main, .slice dS c.av.length dN]
 clear hc htx
 have HHD : Hid (nQ c.aA = true → qH c = true) := fun e => by
  simp only [Bool.and_eq_true, decide_eq_true_eq] at h3
  unfold qH
  rw [dT (show 1 ≤ c.au.length by omega), dT (show c.au.length ≤ 12 by omega), e, dT h3.2, h3.1, dT (show 1 ≤ c.av.length by omega), dT (show c.av.length ≤ 60000 by omega)]
  rfl
 obtain ⟨g0, FO, hA0, Qs, Qt, -, -, -, q1, -, -⟩ := jF.at_ hr hr0
 subst hA0
 have HMN : Hid (rD c = decide (r0.params = 0)) := by
  show _ = _
  unfold rD
  rw [hmn, dT (show (0 : Int) ≤ (mn : Int) by omega), dT (show (mn : Int) < (c.au.length : Int) by omega), Int.toNat_natCast, hr0]
  rfl
 have HIN : Hid (inB (mn : Int) 0 ((c.au.length : Int) - 1) = true) := lH (by rw [in_lt, dT (show (0 : Int) ≤ (mn : Int) by omega), dT (show (mn : Int) < (c.au.length : Int) by omega)]; rfl)
 have HGN := lH h3
 have IJ := lH hmn
 clear h3 hr0 hmn
 have HMO : Hid (rD c = true) := lH (by rw [HMN.out, dT hp])
 have f0 : (r0.params != 0) = false := by simp [hp]
 clear hp
 have d12 : decide ((c.av.length : Int) < 1) = false := dF (by omega)
 have d13 : decide ((60000 : Int) < (c.av.length : Int)) = false := dF (by omega)
 have d9 : decide ((c.au.length : Int) < 1) = false := dF (by omega)
 have d10 : decide ((12 : Int) < (c.au.length : Int)) = false := dF (by omega)
 have d11 : decide ((8 : Int) < (c.aA.length : Int)) = false := dF (by omega)
 go_enter Tryz.func34, Tryz.ntmps34
 go_wp2_with fail
 refine (gu c.aB 12 _ _ lo hi (hg.below hwa hhi) (nT hhi hwa.size)).mono ?_; rw [HGN.out]; rintro e w2 ⟨rfl, hb2⟩
 have hw2 := hwa.trans (hb2.mono hwa.size)
 have a2 := a1.later hb2
 have ca := a2.cell
 have la := a2.lt
 clear hb2
 rw [IJ.out] at ca
 have q1' := (hw2.cell (p := ⟨g0, FO + mn * 4 + 1, none⟩) (by show g0 < _; omega)).trans q1
 go_wp2_with fail
 refine (bJ (mn : Int) 0 ((c.au.length : Int) - 1) _).mono ?_; rw [HIN.out]; rintro e w3 ⟨rfl, rfl⟩
 go_wp2_with fail
 clear ca la q1 q1'
 skip
 go_loopg [3] c.aA.length (fun gk i wx => ∃ k : Nat, k ≤ c.aA.length ∧ i = .int .i64 k ∧ Hid ((c.aA.take k).all tJ = true) ∧ Below w2.heap.size w2 wx ∧ gk = c.aA.length - k)
 case atStart => exact ⟨0, nZ _, rfl, by simp [Hid], bR _ _, rfl⟩
 case round =>
  obtain ⟨k, hk, rfl, hgo, hb, hgk⟩ := hrel
  have HGK := lH hgk
  clear hgk
  have hw4 : Below w.heap.size w wr := hw2.trans (hb.mono hw2.size)
  have a4 := a2.later hb
  have ca := a4.cell
  have la := a4.lt
  by_cases hlt : k < c.aA.length
  ·obtain ⟨r, hrk⟩ : ∃ r, c.aA[k]? = some r := ⟨_, gE hlt⟩
   obtain ⟨g, off, Af, nf, hA, hg1, hg2, hmem, hcr, q0, q1, q2⟩ := gU.at_ (hd.below hw4 hhi) hrk
   subst hA
   have hfl := gU.rows hcr
   have HB : Hid (tJ r = (fM r.name && decide (r.fields.length ≤ 6) && r.fields.all fM && !uW r.fields && decide (0 ≤ r.line))) := rfl
   have HS := lH (tH (q := tJ) hrk)
   have HM : Hid (tJ r = false → validCode c = false) := fun e => EB (Od (lI hmem e))
   have hwr : Below w.heap.size w (wr.alloc (.cells #[Value.string r.name, .slice Af r.fields.length nf, .int .i64 r.line] 142)) := hw4.alloc hw4.size _
   have b4 := Blk.new wr 142 #[Value.string r.name, .slice Af r.fields.length nf, .int .i64 r.line]
   have hf0 := hfl.alloc (nT hhi hw4.size) (.cells #[Value.string r.name, .slice Af r.fields.length nf, .int .i64 r.line] 142)
   clear hrk hmem hcr hfl
   cases n1 : fM r.name with
   | false =>
     have HV : Hid (validCode c = false) := HM.out (by rw [HB.out, n1]; simp)
     have N1 := lH n1
     clear n1 hgo
     go_wp2_with fail
     refine (lG r.name _).mono ?_; rw [N1.out]; rintro e w5 ⟨rfl, hb5⟩
     have hw5 := hwr.trans (hb5.mono hwr.size)
     have b5 := b4.later hb5
     have hf5 := hf0.below hb5 (nT (nT hhi hw4.size) (by simp))
     clear ca la q0 q1 q2
     have ca := b5.cell
     have la := b5.lt
     go_wp2_with fail
     go_ret
     exact ⟨ah HV.out.symm, hw5⟩
   | true =>
   have N1 := lH n1
   clear n1
   cases n2 : (r.fields.all fM && decide (r.fields.length ≤ 6)) with
   | false =>
     have HV : Hid (validCode c = false) := HM.out (by rw [HB.out]; cases hq : r.fields.all fM with | false => simp | true => (rw [hq, Bool.true_and] at n2; rw [n2]; simp))
     have N2 := lH n2
     clear n2 hgo
     go_wp2_with fail
     refine (lG r.name _).mono ?_; rw [N1.out]; rintro e w5 ⟨rfl, hb5⟩
     have hw5 := hwr.trans (hb5.mono hwr.size)
     have b5 := b4.later hb5
     have hf5 := hf0.below hb5 (nT (nT hhi hw4.size) (by simp))
     clear ca la q0 q1 q2
     have ca := b5.cell
     have la := b5.lt
     go_wp2_with fail
     refine (gu r.fields 6 _ _ lo hi hf5 (nT hhi hw5.size)).mono ?_; rw [N2.out]; rintro e w6 ⟨rfl, hb6⟩
     have hw6 := hw5.trans (hb6.mono hw5.size)
     have b6 := b5.later hb6
     have hf6 := hf5.below hb6 (nT hhi hw5.size)
     clear ca la
     have ca := b6.cell
     have la := b6.lt
     go_wp2_with fail
     go_ret
     exact ⟨ah HV.out.symm, hw6⟩
   | true =>
   have N2 := lH n2
   have n2' : r.fields.all fM = true ∧ r.fields.length ≤ 6 := by simpa using n2
   have HN2 := lH n2'
   clear n2 n2'
   cases n3 : uW r.fields with
   | true =>
     have HV : Hid (validCode c = false) := HM.out (by rw [HB.out, n3]; simp)
     have N3 := lH n3
     clear n3 hgo
     go_wp2_with fail
     refine (lG r.name _).mono ?_; rw [N1.out]; rintro e w5 ⟨rfl, hb5⟩
     have hw5 := hwr.trans (hb5.mono hwr.size)
     have b5 := b4.later hb5
     have hf5 := hf0.below hb5 (nT (nT hhi hw4.size) (by simp))
     clear ca la q0 q1 q2
     have ca := b5.cell
     have la := b5.lt
     go_wp2_with fail
     refine (gu r.fields 6 _ _ lo hi hf5 (nT hhi hw5.size)).mono ?_; rw [N2.out]; rintro e w6 ⟨rfl, hb6⟩
     have hw6 := hw5.trans (hb6.mono hw5.size)
     have b6 := b5.later hb6
     have hf6 := hf5.below hb6 (nT hhi hw5.size)
     clear ca la
     have ca := b6.cell
     have la := b6.lt
     go_wp2_with fail
     refine (qT r.fields _ _ lo hi hf6).mono ?_; rw [N3.out]; rintro e w7 ⟨rfl, rfl⟩
     go_wp2_with fail
     go_ret
     exact ⟨ah HV.out.symm, hw6⟩
   | false =>
   have N3 := lH n3
   clear n3
   by_cases n4 : r.line < 0
   ·have HV : Hid (validCode c = false) := HM.out (by rw [HB.out, dF (show ¬ 0 ≤ r.line by omega)]; simp)
    clear hgo
    go_wp2_with fail
    refine (lG r.name _).mono ?_; rw [N1.out]; rintro e w5 ⟨rfl, hb5⟩
    have hw5 := hwr.trans (hb5.mono hwr.size)
    have b5 := b4.later hb5
    have hf5 := hf0.below hb5 (nT (nT hhi hw4.size) (by simp))
    clear ca la q0 q1 q2
    have ca := b5.cell
    have la := b5.lt
    go_wp2_with fail
    refine (gu r.fields 6 _ _ lo hi hf5 (nT hhi hw5.size)).mono ?_; rw [N2.out]; rintro e w6 ⟨rfl, hb6⟩
    have hw6 := hw5.trans (hb6.mono hw5.size)
    have b6 := b5.later hb6
    have hf6 := hf5.below hb6 (nT hhi hw5.size)
    clear ca la
    have ca := b6.cell
    have la := b6.lt
    go_wp2_with fail
    refine (qT r.fields _ _ lo hi hf6).mono ?_; rw [N3.out]; rintro e w7 ⟨rfl, rfl⟩
    go_wp2_with fail
    go_ret
    exact ⟨ah HV.out.symm, hw6⟩
   have HG : Hid ((c.aA.take (k + 1)).all tJ = true) := lH (by rw [HS.out, hgo.out, HB.out, N1.out, dT HN2.out.2, HN2.out.1, N3.out, dT (show 0 ≤ r.line by omega)]; rfl)
   clear hgo
   go_wp2_with fail
   refine (lG r.name _).mono ?_; rw [N1.out]; rintro e w5 ⟨rfl, hb5⟩
   have hw5 := hwr.trans (hb5.mono hwr.size)
   have b5 := b4.later hb5
   have hf5 := hf0.below hb5 (nT (nT hhi hw4.size) (by simp))
   clear ca la q0 q1 q2
   have ca := b5.cell
   have la := b5.lt
   go_wp2_with fail
   refine (gu r.fields 6 _ _ lo hi hf5 (nT hhi hw5.size)).mono ?_; rw [N2.out]; rintro e w6 ⟨rfl, hb6⟩
   have hw6 := hw5.trans (hb6.mono hw5.size)
   have b6 := b5.later hb6
   have hf6 := hf5.below hb6 (nT hhi hw5.size)
   clear ca la
   have ca := b6.cell
   have la := b6.lt
   go_wp2_with fail
   refine (qT r.fields _ _ lo hi hf6).mono ?_; rw [N3.out]; rintro e w7 ⟨rfl, rfl⟩
   go_wp2_with fail
   go_roundg (c.aA.length - (k + 1))
   case measure => have := HGK.out; omega
   case rel => exact ⟨k + 1, by omega, by go_num, HG, ((hb.alloc hb.size _).trans (hb5.mono (nT hb.size (by simp)))).trans (hb6.mono (nT hb.size (nT (by simp) hb5.size))), rfl⟩
  ·obtain rfl : k = c.aA.length := by omega
   rw [List.take_length] at hgo
   have HRC : Hid (qH c = true) := HHD.out (by rw [nQ, hgo.out, dT (show c.aA.length ≤ 8 by omega)]; rfl)
   clear hgo
   go_wp2_with fail
   clear ca la
   obtain ⟨wA, rfl⟩ := nW wr
   clear hb HGK
   go_loopg [5] c.au.length (fun gk i wx => ∃ k : Nat, k ≤ c.au.length ∧ i = .int .i64 k ∧ Hid ((c.au.take k).all (x9 c.av.length) = true) ∧ Below wA.heap.size wA wx ∧ gk = c.au.length - k)
   case atStart => exact ⟨0, nZ _, rfl, by simp [Hid], bR _ _, rfl⟩
   case round =>
    obtain ⟨k, hk, rfl, hgo, hb, hgk⟩ := hrel
    have HGK := lH hgk
    clear hgk
    have hw6 : Below w.heap.size w wr := hw4.trans (hb.mono hw4.size)
    have a6 := a4.later hb
    have ca := a6.cell
    have la := a6.lt
    by_cases hlt : k < c.au.length
    ·obtain ⟨r, hrk⟩ : ∃ r, c.au[k]? = some r := ⟨_, gE hlt⟩
     obtain ⟨g, off, hA, hg1, hg2, hmem, -, q0, q1, q2, q3⟩ := jF.at_ (hr.below hw6 hhi) hrk
     injection hA with hA
     injection hA with hA1 hA2
     subst hA1 hA2
     have HS := lH (tH (q := x9 c.av.length) hrk)
     have HM : Hid (x9 c.av.length r = false → validCode c = false) := fun e => Gt (lI hmem e)
     have HB : Hid (x9 c.av.length r = (fM r.name && inB r.slots 0 24 && inB r.params 0 r.slots && inB r.entry 0 ((c.av.length : Int) - 1))) := lH (by rw [in_lt]; unfold x9 inB; simp only [Bool.and_assoc])
     have hwr : Below w.heap.size w (wr.alloc (.cells #[.string r.name, .int .i64 r.params, .int .i64 r.slots, .int .i64 r.entry] 141)) := hw6.alloc hw6.size _
     have b6 := Blk.new wr 141 #[.string r.name, .int .i64 r.params, .int .i64 r.slots, .int .i64 r.entry]
     have a7 := a6.alloc (.cells #[.string r.name, .int .i64 r.params, .int .i64 r.slots, .int .i64 r.entry] 141)
     clear hrk hmem
     cases n1 : fM r.name with
     | false =>
       have HV : Hid (validCode c = false) := HM.out (by rw [HB.out, n1]; simp)
       have N1 := lH n1
       clear n1 hgo
       go_wp2_with fail
       refine (lG r.name _).mono ?_; rw [N1.out]; rintro e w8 ⟨rfl, hb8⟩
       have hw8 := hwr.trans (hb8.mono hwr.size)
       have b8 := b6.later hb8
       have a8 := a7.later hb8
       clear ca la q0 q1 q2 q3
       have ca := a8.cell
       have la := a8.lt
       have cb := b8.cell
       have lb := b8.lt
       go_wp2_with fail
       go_ret
       exact ⟨ah HV.out.symm, hw8⟩
     | true =>
     have N1 := lH n1
     clear n1
     cases n2 : inB r.slots 0 24 with
     | false =>
       have HV : Hid (validCode c = false) := HM.out (by rw [HB.out, n2]; simp)
       have N2 := lH n2
       clear n2 hgo
       go_wp2_with fail
       refine (lG r.name _).mono ?_; rw [N1.out]; rintro e w8 ⟨rfl, hb8⟩
       have hw8 := hwr.trans (hb8.mono hwr.size)
       have b8 := b6.later hb8
       have a8 := a7.later hb8
       clear ca la q0 q1 q2 q3
       have ca := a8.cell
       have la := a8.lt
       have cb := b8.cell
       have lb := b8.lt
       go_wp2_with fail
       refine (bJ r.slots 0 24 _).mono ?_; rw [N2.out]; rintro e w9 ⟨rfl, rfl⟩
       go_wp2_with fail
       go_ret
       exact ⟨ah HV.out.symm, hw8⟩
     | true =>
     have N2 := lH n2
     clear n2
     cases n3 : inB r.params 0 r.slots with
     | false =>
       have HV : Hid (validCode c = false) := HM.out (by rw [HB.out, n3]; simp)
       have N3 := lH n3
       clear n3 hgo
       go_wp2_with fail
       refine (lG r.name _).mono ?_; rw [N1.out]; rintro e w8 ⟨rfl, hb8⟩
       have hw8 := hwr.trans (hb8.mono hwr.size)
       have b8 := b6.later hb8
       have a8 := a7.later hb8
       clear ca la q0 q1 q2 q3
       have ca := a8.cell
       have la := a8.lt
       have cb := b8.cell
       have lb := b8.lt
       go_wp2_with fail
       refine (bJ r.slots 0 24 _).mono ?_; rw [N2.out]; rintro e w9 ⟨rfl, rfl⟩
       go_wp2_with fail
       refine (bJ r.params 0 r.slots _).mono ?_; rw [N3.out]; rintro e w9 ⟨rfl, rfl⟩
       go_wp2_with fail
       go_ret
       exact ⟨ah HV.out.symm, hw8⟩
     | true =>
     have N3 := lH n3
     clear n3
     cases n4 : inB r.entry 0 ((c.av.length : Int) - 1) with
     | false =>
       have HV : Hid (validCode c = false) := HM.out (by rw [HB.out, n4]; simp)
       have N4 := lH n4
       clear n4 hgo
       go_wp2_with fail
       refine (lG r.name _).mono ?_; rw [N1.out]; rintro e w8 ⟨rfl, hb8⟩
       have hw8 := hwr.trans (hb8.mono hwr.size)
       have b8 := b6.later hb8
       have a8 := a7.later hb8
       clear ca la q0 q1 q2 q3
       have ca := a8.cell
       have la := a8.lt
       have cb := b8.cell
       have lb := b8.lt
       go_wp2_with fail
       refine (bJ r.slots 0 24 _).mono ?_; rw [N2.out]; rintro e w9 ⟨rfl, rfl⟩
       go_wp2_with fail
       refine (bJ r.params 0 r.slots _).mono ?_; rw [N3.out]; rintro e w9 ⟨rfl, rfl⟩
       go_wp2_with fail
       refine (bJ r.entry 0 ((c.av.length : Int) - 1) _).mono ?_; rw [N4.out]; rintro e w9 ⟨rfl, rfl⟩
       go_wp2_with fail
       go_ret
       exact ⟨ah HV.out.symm, hw8⟩
     | true =>
     have N4 := lH n4
     clear n4
     have HG : Hid ((c.au.take (k + 1)).all (x9 c.av.length) = true) := lH (by rw [HS.out, hgo.out, HB.out, N1.out, N2.out, N3.out, N4.out]; rfl)
     clear hgo
     go_wp2_with fail
     refine (lG r.name _).mono ?_; rw [N1.out]; rintro e w8 ⟨rfl, hb8⟩
     have hw8 := hwr.trans (hb8.mono hwr.size)
     have b8 := b6.later hb8
     have a8 := a7.later hb8
     clear ca la q0 q1 q2 q3
     have ca := a8.cell
     have la := a8.lt
     have cb := b8.cell
     have lb := b8.lt
     go_wp2_with fail
     refine (bJ r.slots 0 24 _).mono ?_; rw [N2.out]; rintro e w9 ⟨rfl, rfl⟩
     go_wp2_with fail
     refine (bJ r.params 0 r.slots _).mono ?_; rw [N3.out]; rintro e w9 ⟨rfl, rfl⟩
     go_wp2_with fail
     refine (bJ r.entry 0 ((c.av.length : Int) - 1) _).mono ?_; rw [N4.out]; rintro e w9 ⟨rfl, rfl⟩
     go_wp2_with fail
     go_roundg (c.au.length - (k + 1))
     case measure => have := HGK.out; omega
     case rel => exact ⟨k + 1, by omega, by go_num, HG, (hb.alloc hb.size _).trans (hb8.mono (nT hb.size (by simp))), rfl⟩
    ·obtain rfl : k = c.au.length := by omega
     rw [List.take_length] at hgo
     have HRO := hgo
     clear hgo
     go_wp2_with fail
     clear ca la
     obtain ⟨wB, rfl⟩ := nW wr
     clear hb HGK
     go_loopg [7] c.av.length (fun gk i wx => ∃ k : Nat, k ≤ c.av.length ∧ i = .int .i64 k ∧ Hid ((c.av.take k).all (fK (gL c) c.av.length) = true) ∧ Below wB.heap.size wB wx ∧ gk = c.av.length - k)
     case atStart => exact ⟨0, nZ _, rfl, by simp [Hid], bR _ _, rfl⟩
     case round =>
      obtain ⟨j, hj, rfl, hgo, hb6, hgk⟩ := hrel
      have HGK := lH hgk
      clear hgk
      have hw7 : Below w.heap.size w wr := hw6.trans (hb6.mono hw6.size)
      have a7 := a6.later hb6
      have ca := a7.cell
      have la := a7.lt
      by_cases hlt : j < c.av.length
      ·obtain ⟨x, hx⟩ : ∃ x, c.av[j]? = some x := ⟨_, gE hlt⟩
       obtain ⟨gI, oI, hA, UZ, U0, hmem, -, q0, q1, q2, q3, q4⟩ := eO.at_ (hi1.below hw7 hhi) hx
       subst hA
       have hxt := HTX.out x hmem
       have HS := lH (tH (q := fK (gL c) c.av.length) hx)
       have HM : Hid (fK (gL c) c.av.length x = false → validCode c = false) := fun e => El (lI hmem e)
       have hsc : fA w lo hi dK.ay (.agg #[.slice (some ⟨g0, FO, none⟩) c.au.length bI, .slice bE c.aA.length aY, .slice bH c.aB.length aZ, .int .i64 c.main, .slice (some ⟨gI, oI, none⟩) c.av.length dN]) c := dK.mk_ hr hd hg hi1
       have HC := lH (D5 c x (.agg #[.slice (some ⟨g0, FO, none⟩) c.au.length bI, .slice bE c.aA.length aY, .slice bH c.aB.length aZ, .int .i64 c.main, .slice (some ⟨gI, oI, none⟩) c.av.length dN]) (.agg #[.int .i64 x.op, .int .i64 x.a, .int .i64 x.b, .int .i64 x.line, .string x.text]) wr.drew lo hi 0 0 (hsc.below hw7.drew hhi) eO.mk_ hxt)
       clear hx hmem hsc
       cases hv : fK (gL c) c.av.length x with
       | false =>
         have HV : Hid (validCode c = false) := HM.out hv
         have HN := lH hv
         clear hv hgo
         go_wp2_with fail
         go_still_tail 6, (by kernel_rfl)
         change wpList _ _ _ _ _ wr.drew
         go_wp2_with fail
         refine HC.out.mono ?_; rw [HN.out]; rintro e w9 ⟨rfl, hb9⟩
         have hw9 := hw7.drew.trans (hb9.mono hw7.size)
         go_wp2_with fail
         go_ret
         exact ⟨ah HV.out.symm, hw9⟩
       | true =>
         have HG : Hid ((c.av.take (j + 1)).all (fK (gL c) c.av.length) = true) := lH (by rw [HS.out, hgo.out, hv]; rfl)
         have HN := lH hv
         clear hv hgo
         go_wp2_with fail
         go_still_tail 6, (by kernel_rfl)
         change wpList _ _ _ _ _ wr.drew
         go_wp2_with fail
         refine HC.out.mono ?_; rw [HN.out]; rintro e w9 ⟨rfl, hb9⟩
         have NK := hb6.drew.trans (hb9.mono hb6.size)
         clear hb9 q0 q1 q2 q3 q4 HC ca la
         go_wp2_with fail
         go_roundg (c.av.length - (j + 1))
         case measure => have := HGK.out; omega
         case rel => exact ⟨j + 1, by omega, by go_num, HG, NK, rfl⟩
      ·obtain rfl : j = c.av.length := by omega
       rw [List.take_length] at hgo
       have HV : Hid (validCode c = true) := Em HRC.out HRO.out HMO.out hgo.out
       clear hgo
       go_wp2_with fail
       go_ret
       exact ⟨ah HV.out.symm, hw7⟩
theorem mV (c : dK) : yC 34 c := by
 by_cases h0 : c.au.length < 1
 ·exact Qr c h0
 by_cases h1 : 12 < c.au.length
 ·exact Oe c h0 h1
 by_cases h2 : 8 < c.aA.length
 ·exact Og c h0 h1 h2
 cases h3 : (c.aB.all fM && decide (c.aB.length ≤ 12)) with
 | false => exact J9 c h0 h1 h2 h3
 | true =>
   cases h4 : inB c.main 0 ((c.au.length : Int) - 1) with
   | false => exact MB c h0 h1 h2 h3 h4
   | true =>
     unfold inB at h4
     simp only [Bool.and_eq_true, decide_eq_true_eq] at h4
     obtain ⟨mn, hmn⟩ : ∃ mn : Nat, c.main = mn := ⟨c.main.toNat, by omega⟩
     have hml : mn < c.au.length := by omega
     obtain ⟨r0, hr0⟩ : ∃ r0, c.au[mn]? = some r0 := ⟨_, gE hml⟩
     by_cases hp : r0.params = 0
     ·by_cases h5 : c.av.length < 1
      ·exact Qu c h0 h1 h2 h3 mn hmn hml r0 hr0 hp h5
      by_cases h6 : 60000 < c.av.length
      ·exact Qv c h0 h1 h2 h3 mn hmn hml r0 hr0 hp h5 h6
      exact Qw c h0 h1 h2 h3 mn hmn hml r0 hr0 hp h5 h6
     ·exact Oh c h0 h1 h2 h3 mn hmn hml r0 hr0 hp
end Go.Proofs.YtoddlphekcihgaaGreatDoor
