/- IsValidProgram of the program. -/
import Derived.Test.YtjeomamdlmoghaaGreatDoorQ00
import Derived.Test.YtjeomamdlmoghaaGreatDoorQ07
import Derived.Test.YtjeomamdlmoghaaGreatDoorQ13
import Derived.Test.YtjeomamdlmoghaaGreatDoorQ14
import Derived.Deep.LoopGhost
import Derived.Deep.RegionHeld3
set_option maxRecDepth 100000
set_option maxHeartbeats 8000000
set_option linter.unusedVariables false
set_option linter.unusedSimpArgs false
section
namespace Go.Proofs.YtjeomamdlmoghaaGreatDoor
open Go.RowKit
def VpOk (F : Nat) (c : ProgT) : Prop := ∀ (vc : Value) (w : World) (lo hi : Nat), SRep w lo hi ProgT.dats vc c → hi ≤ w.heap.size → SpaceTab w → c.bulk ≤ 1048576 →
 Calls Tryz.prog F #[vc] w fun e w' => e = .returned (.bool (validProg c)) ∧ Below w.heap.size w w'
theorem vpI_r1 (c : ProgT) (h : c.routines.length < 1) : VpOk 20 c := by
 intro vc w lo hi hc hhi hst hbk
 obtain ⟨Aroutines, nroutines, Arecords, nrecords, Aglobals, nglobals, rfl, hr, ur, mr, hd, ud, md, hg, ug, mg⟩ := ProgT.form hc
 unfold maxLen at mr md mg
 have hwa : Below w.heap.size w (w.alloc (.cells #[.slice Aroutines c.routines.length nroutines, .slice Arecords c.records.length nrecords, .slice Aglobals c.globals.length nglobals, .int .i64 c.main] 31)) := (Below.refl _ _).alloc (Nat.le_refl _) _
 have a1 := Blk.new w 31 #[.slice Aroutines c.routines.length nroutines, .slice Arecords c.records.length nrecords, .slice Aglobals c.globals.length nglobals, .int .i64 c.main]
 clear hc
 have HV : Hid (validProg c = false) := by
  show _ = _
  apply vp_head
  unfold pheadOk
  rw [decide_eq_false (show ¬ 1 ≤ c.routines.length by omega)]
  simp
 go_enter Tryz.func20, Tryz.ntmps20
 go_wp2_with fail
 go_ret
 exact ⟨ret_bool HV.out.symm, hwa⟩
theorem vpI_r12 (c : ProgT) (h0 : ¬ c.routines.length < 1) (h : 12 < c.routines.length) : VpOk 20 c := by
 intro vc w lo hi hc hhi hst hbk
 obtain ⟨Aroutines, nroutines, Arecords, nrecords, Aglobals, nglobals, rfl, hr, ur, mr, hd, ud, md, hg, ug, mg⟩ := ProgT.form hc
 unfold maxLen at mr md mg
 have hwa : Below w.heap.size w (w.alloc (.cells #[.slice Aroutines c.routines.length nroutines, .slice Arecords c.records.length nrecords, .slice Aglobals c.globals.length nglobals, .int .i64 c.main] 31)) := (Below.refl _ _).alloc (Nat.le_refl _) _
 have a1 := Blk.new w 31 #[.slice Aroutines c.routines.length nroutines, .slice Arecords c.records.length nrecords, .slice Aglobals c.globals.length nglobals, .int .i64 c.main]
 clear hc
 have HV : Hid (validProg c = false) := by
  show _ = _
  apply vp_head
  unfold pheadOk
  rw [decide_eq_false (show ¬ c.routines.length ≤ 12 by omega)]
  simp
 go_enter Tryz.func20, Tryz.ntmps20
 go_wp2_with fail
 go_ret
 exact ⟨ret_bool HV.out.symm, hwa⟩
theorem vpI_gl (c : ProgT) (h0 : ¬ c.routines.length < 1) (h1 : ¬ 12 < c.routines.length) (h : 12 < c.globals.length) : VpOk 20 c := by
 intro vc w lo hi hc hhi hst hbk
 obtain ⟨Aroutines, nroutines, Arecords, nrecords, Aglobals, nglobals, rfl, hr, ur, mr, hd, ud, md, hg, ug, mg⟩ := ProgT.form hc
 unfold maxLen at mr md mg
 have hwa : Below w.heap.size w (w.alloc (.cells #[.slice Aroutines c.routines.length nroutines, .slice Arecords c.records.length nrecords, .slice Aglobals c.globals.length nglobals, .int .i64 c.main] 31)) := (Below.refl _ _).alloc (Nat.le_refl _) _
 have a1 := Blk.new w 31 #[.slice Aroutines c.routines.length nroutines, .slice Arecords c.records.length nrecords, .slice Aglobals c.globals.length nglobals, .int .i64 c.main]
 clear hc
 have HV : Hid (validProg c = false) := by
  show _ = _
  apply vp_head
  unfold pheadOk
  rw [decide_eq_false (show ¬ c.globals.length ≤ 12 by omega)]
  simp
 go_enter Tryz.func20, Tryz.ntmps20
 go_wp2_with fail
 go_ret
 exact ⟨ret_bool HV.out.symm, hwa⟩
theorem vpI_recs (c : ProgT) (h0 : ¬ c.routines.length < 1) (h1 : ¬ 12 < c.routines.length) (h2 : ¬ 12 < c.globals.length) (h : recsOk c.records = false) : VpOk 20 c := by
 intro vc w lo hi hc hhi hst hbk
 obtain ⟨Aroutines, nroutines, Arecords, nrecords, Aglobals, nglobals, rfl, hr, ur, mr, hd, ud, md, hg, ug, mg⟩ := ProgT.form hc
 unfold maxLen at mr md mg
 have hwa : Below w.heap.size w (w.alloc (.cells #[.slice Aroutines c.routines.length nroutines, .slice Arecords c.records.length nrecords, .slice Aglobals c.globals.length nglobals, .int .i64 c.main] 31)) := (Below.refl _ _).alloc (Nat.le_refl _) _
 have a1 := Blk.new w 31 #[.slice Aroutines c.routines.length nroutines, .slice Arecords c.records.length nrecords, .slice Aglobals c.globals.length nglobals, .int .i64 c.main]
 clear hc
 have HV : Hid (validProg c = false) := vp_recs h
 have HRC := Lib.hid h
 clear h
 go_enter Tryz.func20, Tryz.ntmps20
 go_wp2_with fail
 refine (impl_validRecords c.records _ _ lo hi (hd.below hwa hhi) (Nat.le_trans hhi hwa.size) (hst.below hwa hst.2)).mono ?_; rw [HRC.out]; rintro e w2 ⟨rfl, hb2⟩
 have hw2 := hwa.trans (hb2.mono hwa.size)
 have a2 := a1.later hb2
 have ca := a2.cell
 have la := a2.lt
 clear hb2
 go_wp2_with fail
 go_ret
 exact ⟨ret_bool HV.out.symm, hw2⟩
theorem vpI_ga (c : ProgT) (h0 : ¬ c.routines.length < 1) (h1 : ¬ 12 < c.routines.length) (h2 : ¬ 12 < c.globals.length) (h3 : recsOk c.records = true) (h : c.globals.all isNameB = false) : VpOk 20 c := by
 intro vc w lo hi hc hhi hst hbk
 obtain ⟨Aroutines, nroutines, Arecords, nrecords, Aglobals, nglobals, rfl, hr, ur, mr, hd, ud, md, hg, ug, mg⟩ := ProgT.form hc
 unfold maxLen at mr md mg
 have hwa : Below w.heap.size w (w.alloc (.cells #[.slice Aroutines c.routines.length nroutines, .slice Arecords c.records.length nrecords, .slice Aglobals c.globals.length nglobals, .int .i64 c.main] 31)) := (Below.refl _ _).alloc (Nat.le_refl _) _
 have a1 := Blk.new w 31 #[.slice Aroutines c.routines.length nroutines, .slice Arecords c.records.length nrecords, .slice Aglobals c.globals.length nglobals, .int .i64 c.main]
 clear hc
 have HV : Hid (validProg c = false) := by
  show _ = _
  apply vp_head
  unfold pheadOk
  rw [h]
  simp
 have HRC := Lib.hid h3
 have HGA := Lib.hid h
 clear h h3
 go_enter Tryz.func20, Tryz.ntmps20
 go_wp2_with fail
 refine (impl_validRecords c.records _ _ lo hi (hd.below hwa hhi) (Nat.le_trans hhi hwa.size) (hst.below hwa hst.2)).mono ?_; rw [HRC.out]; rintro e w2 ⟨rfl, hb2⟩
 have hw2 := hwa.trans (hb2.mono hwa.size)
 have a2 := a1.later hb2
 have ca := a2.cell
 have la := a2.lt
 clear hb2
 go_wp2_with fail
 refine (impl_allNames c.globals _ _ lo hi (hg.below hw2 hhi) (Nat.le_trans hhi hw2.size) (hst.below hw2 hst.2)).mono ?_; rw [HGA.out]; rintro e w3 ⟨rfl, hb3⟩
 have hw3 := hw2.trans (hb3.mono hw2.size)
 have a3 := a2.later hb3
 clear ca la hb3
 have ca := a3.cell
 have la := a3.lt
 go_wp2_with fail
 go_ret
 exact ⟨ret_bool HV.out.symm, hw3⟩
theorem vpI_m0 (c : ProgT) (h0 : ¬ c.routines.length < 1) (h1 : ¬ 12 < c.routines.length) (h2 : ¬ 12 < c.globals.length) (h3 : recsOk c.records = true) (h4 : c.globals.all isNameB = true) (h : c.main < 0) : VpOk 20 c := by
 intro vc w lo hi hc hhi hst hbk
 obtain ⟨Aroutines, nroutines, Arecords, nrecords, Aglobals, nglobals, rfl, hr, ur, mr, hd, ud, md, hg, ug, mg⟩ := ProgT.form hc
 unfold maxLen at mr md mg
 have hwa : Below w.heap.size w (w.alloc (.cells #[.slice Aroutines c.routines.length nroutines, .slice Arecords c.records.length nrecords, .slice Aglobals c.globals.length nglobals, .int .i64 c.main] 31)) := (Below.refl _ _).alloc (Nat.le_refl _) _
 have a1 := Blk.new w 31 #[.slice Aroutines c.routines.length nroutines, .slice Arecords c.records.length nrecords, .slice Aglobals c.globals.length nglobals, .int .i64 c.main]
 clear hc
 have HV : Hid (validProg c = false) := vp_main (by rw [pmainOk, decide_eq_false (by omega)]; rfl)
 have HRC := Lib.hid h3
 have HGA := Lib.hid h4
 clear h3 h4
 go_enter Tryz.func20, Tryz.ntmps20
 go_wp2_with fail
 refine (impl_validRecords c.records _ _ lo hi (hd.below hwa hhi) (Nat.le_trans hhi hwa.size) (hst.below hwa hst.2)).mono ?_; rw [HRC.out]; rintro e w2 ⟨rfl, hb2⟩
 have hw2 := hwa.trans (hb2.mono hwa.size)
 have a2 := a1.later hb2
 have ca := a2.cell
 have la := a2.lt
 clear hb2
 go_wp2_with fail
 refine (impl_allNames c.globals _ _ lo hi (hg.below hw2 hhi) (Nat.le_trans hhi hw2.size) (hst.below hw2 hst.2)).mono ?_; rw [HGA.out]; rintro e w3 ⟨rfl, hb3⟩
 have hw3 := hw2.trans (hb3.mono hw2.size)
 have a3 := a2.later hb3
 clear ca la hb3
 have ca := a3.cell
 have la := a3.lt
 go_wp2_with fail
 go_ret
 exact ⟨ret_bool HV.out.symm, hw3⟩
theorem vpI_m1 (c : ProgT) (h0 : ¬ c.routines.length < 1) (h1 : ¬ 12 < c.routines.length) (h2 : ¬ 12 < c.globals.length) (h3 : recsOk c.records = true) (h4 : c.globals.all isNameB = true) (h5 : ¬ c.main < 0) (h : ¬ c.main < c.routines.length) : VpOk 20 c := by
 intro vc w lo hi hc hhi hst hbk
 obtain ⟨Aroutines, nroutines, Arecords, nrecords, Aglobals, nglobals, rfl, hr, ur, mr, hd, ud, md, hg, ug, mg⟩ := ProgT.form hc
 unfold maxLen at mr md mg
 have hwa : Below w.heap.size w (w.alloc (.cells #[.slice Aroutines c.routines.length nroutines, .slice Arecords c.records.length nrecords, .slice Aglobals c.globals.length nglobals, .int .i64 c.main] 31)) := (Below.refl _ _).alloc (Nat.le_refl _) _
 have a1 := Blk.new w 31 #[.slice Aroutines c.routines.length nroutines, .slice Arecords c.records.length nrecords, .slice Aglobals c.globals.length nglobals, .int .i64 c.main]
 clear hc
 have HV : Hid (validProg c = false) := vp_main (by rw [pmainOk, decide_eq_false h, Bool.and_false]; rfl)
 have m2 : (c.routines.length : Int) ≤ c.main := by omega
 have HRC := Lib.hid h3
 have HGA := Lib.hid h4
 clear h3 h4
 go_enter Tryz.func20, Tryz.ntmps20
 go_wp2_with fail
 refine (impl_validRecords c.records _ _ lo hi (hd.below hwa hhi) (Nat.le_trans hhi hwa.size) (hst.below hwa hst.2)).mono ?_; rw [HRC.out]; rintro e w2 ⟨rfl, hb2⟩
 have hw2 := hwa.trans (hb2.mono hwa.size)
 have a2 := a1.later hb2
 have ca := a2.cell
 have la := a2.lt
 clear hb2
 go_wp2_with fail
 refine (impl_allNames c.globals _ _ lo hi (hg.below hw2 hhi) (Nat.le_trans hhi hw2.size) (hst.below hw2 hst.2)).mono ?_; rw [HGA.out]; rintro e w3 ⟨rfl, hb3⟩
 have hw3 := hw2.trans (hb3.mono hw2.size)
 have a3 := a2.later hb3
 clear ca la hb3
 have ca := a3.cell
 have la := a3.lt
 go_wp2_with fail
 go_ret
 exact ⟨ret_bool HV.out.symm, hw3⟩
theorem vpI_par (c : ProgT) (h0 : ¬ c.routines.length < 1) (h1 : ¬ 12 < c.routines.length) (h2 : ¬ 12 < c.globals.length) (h3 : recsOk c.records = true) (h4 : c.globals.all isNameB = true) (mn : Nat) (hmn : c.main = mn) (hml : mn < c.routines.length) (r0 : RouT) (hr0 : c.routines[mn]? = some r0) (h : ¬ r0.params = 0) : VpOk 20 c := by
 intro vc w lo hi hc hhi hst hbk
 obtain ⟨Aroutines, nroutines, Arecords, nrecords, Aglobals, nglobals, rfl, hr, ur, mr, hd, ud, md, hg, ug, mg⟩ := ProgT.form hc
 unfold maxLen at mr md mg
 have hwa : Below w.heap.size w (w.alloc (.cells #[.slice Aroutines c.routines.length nroutines, .slice Arecords c.records.length nrecords, .slice Aglobals c.globals.length nglobals, .int .i64 c.main] 31)) := (Below.refl _ _).alloc (Nat.le_refl _) _
 have a1 := Blk.new w 31 #[.slice Aroutines c.routines.length nroutines, .slice Arecords c.records.length nrecords, .slice Aglobals c.globals.length nglobals, .int .i64 c.main]
 clear hc
 obtain ⟨g0, off0, As0, ns0, Ak0, nk0, hA0, hg01, hg02, -, -, -, q1, -, -, -, -, -, -, -⟩ := RouT.at_ hr hr0
 subst hA0
 have HMN : Hid (pmainOk c = decide (r0.params = 0)) := by
  show _ = _
  unfold pmainOk
  rw [hmn, decide_eq_true (show (0 : Int) ≤ (mn : Int) by omega), decide_eq_true (show (mn : Int) < (c.routines.length : Int) by omega), Int.toNat_natCast, hr0]
  rfl
 have HRC := Lib.hid h3
 have HGA := Lib.hid h4
 have HMNE := Lib.hid hmn
 have d1 : decide ((c.routines.length : Int) < 1) = false := decide_eq_false (by omega)
 have d2 : decide ((12 : Int) < (c.routines.length : Int)) = false := decide_eq_false (by omega)
 have d3 : decide ((12 : Int) < (c.globals.length : Int)) = false := decide_eq_false (by omega)
 have d9 : decide ((mn : Int) < 0) = false := decide_eq_false (by omega)
 have d10 : decide ((c.routines.length : Int) ≤ (mn : Int)) = false := decide_eq_false (by omega)
 have d11 : decide (c.routines.length ≤ mn) = false := decide_eq_false (by omega)
 clear h3 h4 hr0 hmn
 have HV : Hid (validProg c = false) := vp_main (by rw [HMN.out, decide_eq_false h])
 have f0 : (r0.params != 0) = true := by simpa using h
 go_enter Tryz.func20, Tryz.ntmps20
 go_wp2_with fail
 refine (impl_validRecords c.records _ _ lo hi (hd.below hwa hhi) (Nat.le_trans hhi hwa.size) (hst.below hwa hst.2)).mono ?_; rw [HRC.out]; rintro e w2 ⟨rfl, hb2⟩
 have hw2 := hwa.trans (hb2.mono hwa.size)
 have a2 := a1.later hb2
 have ca := a2.cell
 have la := a2.lt
 clear hb2
 go_wp2_with fail
 refine (impl_allNames c.globals _ _ lo hi (hg.below hw2 hhi) (Nat.le_trans hhi hw2.size) (hst.below hw2 hst.2)).mono ?_; rw [HGA.out]; rintro e w3 ⟨rfl, hb3⟩
 have hw3 := hw2.trans (hb3.mono hw2.size)
 have a3 := a2.later hb3
 clear ca la hb3
 have ca := a3.cell
 have la := a3.lt
 rw [HMNE.out] at ca
 have q1' := (hw3.cell (p := ⟨g0, off0 + mn * 9 + 1, none⟩) (by show g0 < _; omega)).trans q1
 go_wp2_with fail
 go_ret
 exact ⟨ret_bool HV.out.symm, hw3⟩
theorem vpI_ok (c : ProgT) (h0 : ¬ c.routines.length < 1) (h1 : ¬ 12 < c.routines.length) (h2 : ¬ 12 < c.globals.length) (h3 : recsOk c.records = true) (h4 : c.globals.all isNameB = true) (mn : Nat) (hmn : c.main = mn) (hml : mn < c.routines.length) (r0 : RouT) (hr0 : c.routines[mn]? = some r0) (hp : r0.params = 0) : VpOk 20 c := by
 intro vc w lo hi hc hhi hst hbk
 obtain ⟨Aroutines, nroutines, Arecords, nrecords, Aglobals, nglobals, rfl, hr, ur, mr, hd, ud, md, hg, ug, mg⟩ := ProgT.form hc
 unfold maxLen at mr md mg
 have hwa : Below w.heap.size w (w.alloc (.cells #[.slice Aroutines c.routines.length nroutines, .slice Arecords c.records.length nrecords, .slice Aglobals c.globals.length nglobals, .int .i64 c.main] 31)) := (Below.refl _ _).alloc (Nat.le_refl _) _
 have a1 := Blk.new w 31 #[.slice Aroutines c.routines.length nroutines, .slice Arecords c.records.length nrecords, .slice Aglobals c.globals.length nglobals, .int .i64 c.main]
 clear hc
 obtain ⟨g0, off0, As0, ns0, Ak0, nk0, hA0, hg01, hg02, -, -, -, q1, -, -, -, -, -, -, -⟩ := RouT.at_ hr hr0
 subst hA0
 have HMN : Hid (pmainOk c = decide (r0.params = 0)) := by
  show _ = _
  unfold pmainOk
  rw [hmn, decide_eq_true (show (0 : Int) ≤ (mn : Int) by omega), decide_eq_true (show (mn : Int) < (c.routines.length : Int) by omega), Int.toNat_natCast, hr0]
  rfl
 have HRC := Lib.hid h3
 have HGA := Lib.hid h4
 have HMNE := Lib.hid hmn
 have d1 : decide ((c.routines.length : Int) < 1) = false := decide_eq_false (by omega)
 have d2 : decide ((12 : Int) < (c.routines.length : Int)) = false := decide_eq_false (by omega)
 have d3 : decide ((12 : Int) < (c.globals.length : Int)) = false := decide_eq_false (by omega)
 have d9 : decide ((mn : Int) < 0) = false := decide_eq_false (by omega)
 have d10 : decide ((c.routines.length : Int) ≤ (mn : Int)) = false := decide_eq_false (by omega)
 have d11 : decide (c.routines.length ≤ mn) = false := decide_eq_false (by omega)
 have HHD : Hid (pheadOk c = true) := by
  show _ = _
  unfold pheadOk
  rw [decide_eq_true (show 1 ≤ c.routines.length by omega), decide_eq_true (show c.routines.length ≤ 12 by omega), h3, decide_eq_true (show c.globals.length ≤ 12 by omega), h4]
  rfl
 have HMO : Hid (pmainOk c = true) := by show _ = _; rw [HMN.out, decide_eq_true hp]
 have f0 : (r0.params != 0) = false := by simp [hp]
 have hrl : c.records.length ≤ 8 := by unfold recsOk at h3; simp only [Bool.and_eq_true, decide_eq_true_eq] at h3; exact h3.2
 clear h3 h4 hr0 hmn hp
 go_enter Tryz.func20, Tryz.ntmps20
 go_wp2_with fail
 refine (impl_validRecords c.records _ _ lo hi (hd.below hwa hhi) (Nat.le_trans hhi hwa.size) (hst.below hwa hst.2)).mono ?_; rw [HRC.out]; rintro e w2 ⟨rfl, hb2⟩
 have hw2 := hwa.trans (hb2.mono hwa.size)
 have a2 := a1.later hb2
 have ca := a2.cell
 have la := a2.lt
 clear hb2
 go_wp2_with fail
 refine (impl_allNames c.globals _ _ lo hi (hg.below hw2 hhi) (Nat.le_trans hhi hw2.size) (hst.below hw2 hst.2)).mono ?_; rw [HGA.out]; rintro e w3 ⟨rfl, hb3⟩
 have hw3 := hw2.trans (hb3.mono hw2.size)
 have a3 := a2.later hb3
 clear ca la hb3
 have ca := a3.cell
 have la := a3.lt
 rw [HMNE.out] at ca
 have q1' := (hw3.cell (p := ⟨g0, off0 + mn * 9 + 1, none⟩) (by show g0 < _; omega)).trans q1
 go_wp2_with fail
 clear ca la q1 q1' a1 a2 hwa hw2
 go_loopg [3, 61] c.routines.length (fun gk n i wx => ∃ k : Nat, k ≤ c.routines.length ∧ i = .int .i64 k ∧ n = .int .i64 (sumOf bodyNodes (c.routines.take k) : Nat) ∧ Hid ((c.routines.take k).all (routOk c) = true) ∧ Below w3.heap.size w3 wx ∧ gk = c.routines.length - k)
 case atStart => exact ⟨0, Nat.zero_le _, rfl, by simp [sumOf], by simp [Hid], Below.refl _ _, rfl⟩
 case round =>
  obtain ⟨k, hk, rfl, rfl, hgo, hb, hgk⟩ := hrel
  have HGK := Lib.hid hgk
  clear hgk
  have hw6 : Below w.heap.size w wr := hw3.trans (hb.mono hw3.size)
  have a6 := a3.later hb
  have ca := a6.cell
  have la := a6.lt
  by_cases hlt : k < c.routines.length
  ·obtain ⟨r, hrk⟩ : ∃ r, c.routines[k]? = some r := ⟨_, List.getElem?_eq_getElem hlt⟩
   obtain ⟨g, off, As, ns, Ak, nk, hA, hg1, hg2, hmem, hcr, q0, q1, q2, q3, q4, q5, q6, q7, q8⟩ := RouT.at_ (hr.below hw6 hhi) hrk
   injection hA with hA
   injection hA with hA1 hA2
   subst hA1 hA2
   obtain ⟨hsl, hkd⟩ := RouT.rows hcr
   have HS := Lib.hid (all_snoc (q := routOk c) hrk)
   have HSN := Lib.hid (sumOf_snoc (b := bodyNodes) hrk)
   have HM : Hid (routOk c r = false → validProg c = false) := fun e => vp_rout (all_no hmem e)
   have HB : Hid (routOk c r = (isNameB r.name && decide (r.slots.length ≤ 24) && decide (0 ≤ r.params) && decide (r.params ≤ r.slots.length) && r.slots.all slotOk && decide (r.body.depth ≤ 400) && validT (progD c r) r.body false false)) := rfl
   have hrb : r.bulk ≤ 1048576 := by have h1 := sumOf_mem (b := RouT.bulk) hmem; unfold ProgT.bulk at hbk; omega
   have hbb : r.body.bulk ≤ 1048576 := by unfold RouT.bulk at hrb; omega
   have hsz : sumOf bodyNodes (c.routines.take (k + 1)) ≤ 20000000 := by
    have h1 := rout_big (c.routines.take (k + 1)) (fun y hy => by have h2 := sumOf_mem (b := RouT.bulk) (List.mem_of_mem_take hy); unfold ProgT.bulk at hbk; have h3 : y.body.bulk ≤ y.bulk := (by unfold RouT.bulk; omega); omega)
    have h4 : (c.routines.take (k + 1)).length ≤ 12 := by rw [List.length_take]; omega
    omega
   have hsum : sumOf bodyNodes (c.routines.take k) + r.body.nodes ≤ 20000000 := by rw [HSN.out] at hsz; exact hsz
   have hwr : Below w.heap.size w (wr.alloc (.cells #[Value.string r.name, .int .i64 r.params, .slice As r.slots.length ns, .int .i64 r.body.kind, .int .i64 r.body.op, .int .i64 r.body.number, .int .i64 r.body.line, .string r.body.text, .slice Ak r.body.kids.length nk] 47)) := hw6.alloc hw6.size _
   have b6 := Blk.new wr 47 #[Value.string r.name, .int .i64 r.params, .slice As r.slots.length ns, .int .i64 r.body.kind, .int .i64 r.body.op, .int .i64 r.body.number, .int .i64 r.body.line, .string r.body.text, .slice Ak r.body.kids.length nk]
   have a7 := a6.alloc (.cells #[Value.string r.name, .int .i64 r.params, .slice As r.slots.length ns, .int .i64 r.body.kind, .int .i64 r.body.op, .int .i64 r.body.number, .int .i64 r.body.line, .string r.body.text, .slice Ak r.body.kids.length nk] 47)
   have hsl0 := hsl.alloc (Nat.le_trans hhi hw6.size) (.cells #[Value.string r.name, .int .i64 r.params, .slice As r.slots.length ns, .int .i64 r.body.kind, .int .i64 r.body.op, .int .i64 r.body.number, .int .i64 r.body.line, .string r.body.text, .slice Ak r.body.kids.length nk] 47)
   have hkd0 := hkd.alloc (Nat.le_trans hhi hw6.size) (.cells #[Value.string r.name, .int .i64 r.params, .slice As r.slots.length ns, .int .i64 r.body.kind, .int .i64 r.body.op, .int .i64 r.body.number, .int .i64 r.body.line, .string r.body.text, .slice Ak r.body.kids.length nk] 47)
   clear hrk hmem hcr hsl hkd
   cases n1 : isNameB r.name with
   | false =>
     have HV : Hid (validProg c = false) := HM.out (by rw [HB.out, n1]; simp)
     have N1 := Lib.hid n1
     clear n1 hgo
     go_wp2_with fail
     refine (impl_IsName r.name _ (hst.below hwr hst.2)).mono ?_; rw [N1.out]; rintro e w8 ⟨rfl, hb8⟩
     have hw8 := hwr.trans (hb8.mono hwr.size)
     have b8 := b6.later hb8
     have a8 := a7.later hb8
     have hsl8 := hsl0.below hb8 (Nat.le_trans (Nat.le_trans hhi hw6.size) (by simp))
     have hkd8 := hkd0.below hb8 (Nat.le_trans (Nat.le_trans hhi hw6.size) (by simp))
     have bt8 : Below w3.heap.size w3 w8 := (hb.alloc hb.size _).trans (hb8.mono (Nat.le_trans hb.size (by simp)))
     clear ca la q0 q1 q2 q3 q4 q5 q6 q7 q8
     have ca := a8.cell
     have la := a8.lt
     have cb := b8.cell
     have lb := b8.lt
     go_wp2_with fail
     go_ret
     exact ⟨ret_bool HV.out.symm, hw8⟩
   | true =>
   have N1 := Lib.hid n1
   clear n1
   by_cases n2 : 24 < r.slots.length
   ·have HV : Hid (validProg c = false) := HM.out (by rw [HB.out, decide_eq_false (show ¬ r.slots.length ≤ 24 by omega)]; simp)
    clear hgo
    go_wp2_with fail
    refine (impl_IsName r.name _ (hst.below hwr hst.2)).mono ?_; rw [N1.out]; rintro e w8 ⟨rfl, hb8⟩
    have hw8 := hwr.trans (hb8.mono hwr.size)
    have b8 := b6.later hb8
    have a8 := a7.later hb8
    have hsl8 := hsl0.below hb8 (Nat.le_trans (Nat.le_trans hhi hw6.size) (by simp))
    have hkd8 := hkd0.below hb8 (Nat.le_trans (Nat.le_trans hhi hw6.size) (by simp))
    have bt8 : Below w3.heap.size w3 w8 := (hb.alloc hb.size _).trans (hb8.mono (Nat.le_trans hb.size (by simp)))
    clear ca la q0 q1 q2 q3 q4 q5 q6 q7 q8
    have ca := a8.cell
    have la := a8.lt
    have cb := b8.cell
    have lb := b8.lt
    go_wp2_with fail
    go_ret
    exact ⟨ret_bool HV.out.symm, hw8⟩
   by_cases n3 : r.params < 0
   ·have HV : Hid (validProg c = false) := HM.out (by rw [HB.out, decide_eq_false (show ¬ 0 ≤ r.params by omega)]; simp)
    clear hgo
    go_wp2_with fail
    refine (impl_IsName r.name _ (hst.below hwr hst.2)).mono ?_; rw [N1.out]; rintro e w8 ⟨rfl, hb8⟩
    have hw8 := hwr.trans (hb8.mono hwr.size)
    have b8 := b6.later hb8
    have a8 := a7.later hb8
    have hsl8 := hsl0.below hb8 (Nat.le_trans (Nat.le_trans hhi hw6.size) (by simp))
    have hkd8 := hkd0.below hb8 (Nat.le_trans (Nat.le_trans hhi hw6.size) (by simp))
    have bt8 : Below w3.heap.size w3 w8 := (hb.alloc hb.size _).trans (hb8.mono (Nat.le_trans hb.size (by simp)))
    clear ca la q0 q1 q2 q3 q4 q5 q6 q7 q8
    have ca := a8.cell
    have la := a8.lt
    have cb := b8.cell
    have lb := b8.lt
    go_wp2_with fail
    go_ret
    exact ⟨ret_bool HV.out.symm, hw8⟩
   by_cases n5 : (r.slots.length : Int) < r.params
   ·have HV : Hid (validProg c = false) := HM.out (by rw [HB.out, decide_eq_false (show ¬ r.params ≤ r.slots.length by omega)]; simp)
    clear hgo
    go_wp2_with fail
    refine (impl_IsName r.name _ (hst.below hwr hst.2)).mono ?_; rw [N1.out]; rintro e w8 ⟨rfl, hb8⟩
    have hw8 := hwr.trans (hb8.mono hwr.size)
    have b8 := b6.later hb8
    have a8 := a7.later hb8
    have hsl8 := hsl0.below hb8 (Nat.le_trans (Nat.le_trans hhi hw6.size) (by simp))
    have hkd8 := hkd0.below hb8 (Nat.le_trans (Nat.le_trans hhi hw6.size) (by simp))
    have bt8 : Below w3.heap.size w3 w8 := (hb.alloc hb.size _).trans (hb8.mono (Nat.le_trans hb.size (by simp)))
    clear ca la q0 q1 q2 q3 q4 q5 q6 q7 q8
    have ca := a8.cell
    have la := a8.lt
    have cb := b8.cell
    have lb := b8.lt
    go_wp2_with fail
    go_ret
    exact ⟨ret_bool HV.out.symm, hw8⟩
   have e2 : decide ((24 : Int) < (r.slots.length : Int)) = false := decide_eq_false (by omega)
   have e3 : decide (r.params < 0) = false := decide_eq_false n3
   have e5 : decide ((r.slots.length : Int) < r.params) = false := decide_eq_false n5
   cases n4 : r.slots.all slotOk with
   | false =>
     have HV : Hid (validProg c = false) := HM.out (by rw [HB.out, n4]; simp)
     have N4 := Lib.hid n4
     clear n4 hgo
     go_wp2_with fail
     refine (impl_IsName r.name _ (hst.below hwr hst.2)).mono ?_; rw [N1.out]; rintro e w8 ⟨rfl, hb8⟩
     have hw8 := hwr.trans (hb8.mono hwr.size)
     have b8 := b6.later hb8
     have a8 := a7.later hb8
     have hsl8 := hsl0.below hb8 (Nat.le_trans (Nat.le_trans hhi hw6.size) (by simp))
     have hkd8 := hkd0.below hb8 (Nat.le_trans (Nat.le_trans hhi hw6.size) (by simp))
     have bt8 : Below w3.heap.size w3 w8 := (hb.alloc hb.size _).trans (hb8.mono (Nat.le_trans hb.size (by simp)))
     clear ca la q0 q1 q2 q3 q4 q5 q6 q7 q8
     have ca := a8.cell
     have la := a8.lt
     have cb := b8.cell
     have lb := b8.lt
     go_wp2_with fail
     refine (impl_slotsBad r.slots _ _ lo hi hsl8 (Nat.le_trans hhi hw8.size) (hst.below hw8 hst.2)).mono ?_; rw [N4.out]; rintro e w9 ⟨rfl, hb9⟩
     have hw9 := hw8.trans (hb9.mono hw8.size)
     have b9 := b8.later hb9
     have a9 := a8.later hb9
     have hkd9 := hkd8.below hb9 (Nat.le_trans hhi hw8.size)
     have bt9 := bt8.trans (hb9.mono bt8.size)
     clear ca la cb lb
     have ca := a9.cell
     have la := a9.lt
     have cb := b9.cell
     have lb := b9.lt
     go_wp2_with fail
     go_ret
     exact ⟨ret_bool HV.out.symm, hw9⟩
   | true =>
   have N4 := Lib.hid n4
   clear n4
   have HBB : Hid (routOk c r = (decide (r.body.depth ≤ 400) && validT (progD c r) r.body false false)) := by show _ = _; rw [HB.out, N1.out, decide_eq_true (show r.slots.length ≤ 24 by omega), decide_eq_true (show 0 ≤ r.params by omega), decide_eq_true (show r.params ≤ r.slots.length by omega), N4.out]; rfl
   go_wp2_with fail
   refine (impl_IsName r.name _ (hst.below hwr hst.2)).mono ?_; rw [N1.out]; rintro e w8 ⟨rfl, hb8⟩
   have hw8 := hwr.trans (hb8.mono hwr.size)
   have b8 := b6.later hb8
   have a8 := a7.later hb8
   have hsl8 := hsl0.below hb8 (Nat.le_trans (Nat.le_trans hhi hw6.size) (by simp))
   have hkd8 := hkd0.below hb8 (Nat.le_trans (Nat.le_trans hhi hw6.size) (by simp))
   have bt8 : Below w3.heap.size w3 w8 := (hb.alloc hb.size _).trans (hb8.mono (Nat.le_trans hb.size (by simp)))
   clear ca la q0 q1 q2 q3 q4 q5 q6 q7 q8
   have ca := a8.cell
   have la := a8.lt
   have cb := b8.cell
   have lb := b8.lt
   go_wp2_with fail
   refine (impl_slotsBad r.slots _ _ lo hi hsl8 (Nat.le_trans hhi hw8.size) (hst.below hw8 hst.2)).mono ?_; rw [N4.out]; rintro e w9 ⟨rfl, hb9⟩
   have hw9 := hw8.trans (hb9.mono hw8.size)
   have b9 := b8.later hb9
   have a9 := a8.later hb9
   have hkd9 := hkd8.below hb9 (Nat.le_trans hhi hw8.size)
   have bt9 := bt8.trans (hb9.mono bt8.size)
   clear ca la cb lb
   have ca := a9.cell
   have la := a9.lt
   have cb := b9.cell
   have lb := b9.lt
   go_wp2_with fail
   have HNC := Lib.hid (impl_CountCore r.body (.agg #[.int .i64 r.body.kind, .int .i64 r.body.op, .int .i64 r.body.number, .int .i64 r.body.line, .string r.body.text, .slice Ak r.body.kids.length nk]) w9 lo hi (CoreT.mk_ hkd9) (Nat.le_trans hhi hw9.size) hbb)
   refine HNC.out.mono ?_; rintro e w10 ⟨rfl, hb10⟩
   have hw10 := hw9.trans (hb10.mono hw9.size)
   have b10 := b9.later hb10
   have a10 := a9.later hb10
   have hkd10 := hkd9.below hb10 (Nat.le_trans hhi hw9.size)
   have bt10 := bt9.trans (hb10.mono bt9.size)
   clear ca la cb lb HNC
   have ca := a10.cell
   have la := a10.lt
   have cb := b10.cell
   have lb := b10.lt
   go_wp2_with fail
   clear ca la cb lb
   have hz10 : hi ≤ w10.heap.size := Nat.le_trans hhi hw10.size
   have hw11 : Below w.heap.size w (w10.alloc (.cells #[.int .i64 (r.slots.length : Nat), .int .i64 (c.globals.length : Nat), .int .i64 (c.routines.length : Nat), .int .i64 (c.records.length : Nat)] 84)) := hw10.alloc hw10.size _
   have bt11 : Below w3.heap.size w3 (w10.alloc (.cells #[.int .i64 (r.slots.length : Nat), .int .i64 (c.globals.length : Nat), .int .i64 (c.routines.length : Nat), .int .i64 (c.records.length : Nat)] 84)) := bt10.alloc bt10.size _
   have b11 := b10.alloc (.cells #[.int .i64 (r.slots.length : Nat), .int .i64 (c.globals.length : Nat), .int .i64 (c.routines.length : Nat), .int .i64 (c.records.length : Nat)] 84)
   have m11 := Blk.new w10 84 #[.int .i64 (r.slots.length : Nat), .int .i64 (c.globals.length : Nat), .int .i64 (c.routines.length : Nat), .int .i64 (c.records.length : Nat)]
   have hkd11 := hkd10.alloc hz10 (.cells #[.int .i64 (r.slots.length : Nat), .int .i64 (c.globals.length : Nat), .int .i64 (c.routines.length : Nat), .int .i64 (c.records.length : Nat)] 84)
   clear b10 b9 b8 a10 a9 a8 a7 a6
   have HDP := Lib.hid (impl_coreDepth r.body (.agg #[.int .i64 r.body.kind, .int .i64 r.body.op, .int .i64 r.body.number, .int .i64 r.body.line, .string r.body.text, .slice Ak r.body.kids.length nk]) _ lo hi (CoreT.mk_ hkd11) (by simp; omega) hbb)
   refine HDP.out.mono ?_; rintro e w12 ⟨rfl, hb12⟩
   have hw12 := hw11.trans (hb12.mono hw11.size)
   have b12 := b11.later hb12
   have m12 := m11.later hb12
   have hkd12 := hkd11.below hb12 (by simp; omega)
   have bt12 := bt11.trans (hb12.mono bt11.size)
   clear HDP b11 m11 hkd11
   have cb := b12.cell
   have lb := b12.lt
   have cm := m12.cell
   have lm := m12.lt
   by_cases hdp : (400 : Int) < (r.body.depth : Int)
   ·have HV : Hid (validProg c = false) := HM.out (by rw [HBB.out, decide_eq_false (show ¬ r.body.depth ≤ 400 by omega)]; rfl)
    clear hgo
    go_wp2_with fail
    go_ret
    exact ⟨ret_bool HV.out.symm, hw12⟩
   have HR : Hid (routOk c r = validT (progD c r) r.body false false) := by show _ = _; rw [HBB.out, decide_eq_true (show r.body.depth ≤ 400 by omega), Bool.true_and]
   have HC : Hid (Calls Tryz.prog 51 #[.agg #[.int .i64 (r.slots.length : Nat), .int .i64 (c.globals.length : Nat), .int .i64 (c.routines.length : Nat), .int .i64 (c.records.length : Nat)], (.agg #[.int .i64 r.body.kind, .int .i64 r.body.op, .int .i64 r.body.number, .int .i64 r.body.line, .string r.body.text, .slice Ak r.body.kids.length nk]), .bool false, .bool false] w12 fun e w' => e = .returned (.bool (validT (progD c r) r.body false false)) ∧ Below w12.heap.size w12 w') := impl_validCore (progD c r) r.body (.agg #[.int .i64 r.body.kind, .int .i64 r.body.op, .int .i64 r.body.number, .int .i64 r.body.line, .string r.body.text, .slice Ak r.body.kids.length nk]) false false w12 lo hi (CoreT.mk_ hkd12) (Nat.le_trans hhi hw12.size) (hst.below hw12 hst.2) hbb
   cases hv : validT (progD c r) r.body false false with
   | false =>
     have HV : Hid (validProg c = false) := HM.out (by rw [HR.out, hv])
     rw [hv] at HC
     clear hv hgo
     go_wp2_with fail
     refine HC.out.mono ?_; rintro e wx ⟨rfl, hbx⟩
     have hwx := hw12.trans (hbx.mono hw12.size)
     go_wp2_with fail
     go_ret
     exact ⟨ret_bool HV.out.symm, hwx⟩
   | true =>
     have HG : Hid ((c.routines.take (k + 1)).all (routOk c) = true) := by show _ = _; rw [HS.out, hgo.out, HR.out, hv]; rfl
     rw [hv] at HC
     clear hv hgo
     go_wp2_with fail
     refine HC.out.mono ?_; rintro e wx ⟨rfl, hbx⟩
     have btx := bt12.trans (hbx.mono bt12.size)
     clear HC cb lb cm lm
     go_wp2_with fail
     go_roundg (c.routines.length - (k + 1))
     case measure => have := HGK.out; omega
     case rel => exact ⟨k + 1, by omega, by go_num, by rw [HSN.out]; show _ = Value.int .i64 ((sumOf bodyNodes (c.routines.take k) + r.body.nodes : Nat) : Int); go_num, HG, btx, rfl⟩
  ·obtain rfl : k = c.routines.length := by omega
   rw [List.take_length] at hgo ⊢
   have HV := Lib.hid (vp_yes HHD.out HMO.out hgo.out)
   clear hgo
   go_wp2_with fail
   go_ret
   exact ⟨ret_bool (by rw [HV.out, Bool.eq_iff_iff, decide_eq_true_eq, decide_eq_true_eq]; omega), hw6⟩
theorem impl_IsValidProgram (c : ProgT) : VpOk 20 c := by
 by_cases h0 : c.routines.length < 1
 ·exact vpI_r1 c h0
 by_cases h1 : 12 < c.routines.length
 ·exact vpI_r12 c h0 h1
 by_cases h2 : 12 < c.globals.length
 ·exact vpI_gl c h0 h1 h2
 cases h3 : recsOk c.records with
 | false => exact vpI_recs c h0 h1 h2 h3
 | true =>
   cases h4 : c.globals.all isNameB with
   | false => exact vpI_ga c h0 h1 h2 h3 h4
   | true =>
     by_cases h5 : c.main < 0
     ·exact vpI_m0 c h0 h1 h2 h3 h4 h5
     by_cases h6 : c.main < c.routines.length
     ·obtain ⟨mn, hmn⟩ : ∃ mn : Nat, c.main = mn := ⟨c.main.toNat, by omega⟩
      have hml : mn < c.routines.length := by omega
      obtain ⟨r0, hr0⟩ : ∃ r0, c.routines[mn]? = some r0 := ⟨_, List.getElem?_eq_getElem hml⟩
      by_cases hp : r0.params = 0
      ·exact vpI_ok c h0 h1 h2 h3 h4 mn hmn hml r0 hr0 hp
      ·exact vpI_par c h0 h1 h2 h3 h4 mn hmn hml r0 hr0 hp
     ·exact vpI_m1 c h0 h1 h2 h3 h4 h5 h6
end Go.Proofs.YtjeomamdlmoghaaGreatDoor
end
