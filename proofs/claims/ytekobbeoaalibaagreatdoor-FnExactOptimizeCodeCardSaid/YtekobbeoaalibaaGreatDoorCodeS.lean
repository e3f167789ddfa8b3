/- IsValidCode of the reference. -/
import Derived.Test.YtekobbeoaalibaaGreatDoorCodeDefs
import Derived.Test.YtekobbeoaalibaaGreatDoorInsS
import Derived.Deep.LoopGhost
import Derived.StillTailTactics
namespace Go.Proofs.YtekobbeoaalibaaGreatDoor
open Go.RowKit
set_option linter.unusedVariables false

def VcOkS (F : Nat) (c : CodeT) : Prop := ∀ (vc : Value) (w : World) (lo hi : Nat), SRep w lo hi CodeT.dats vc c → hi ≤ w.heap.size → (∀ x ∈ c.instrs, x.text.size ≤ 1048576) →
  Calls Tryz.prog F #[vc] w fun e w' => e = .returned (.bool (validCode c)) ∧ Below w.heap.size w w'
theorem in_lt (a n : Int) : inB a 0 (n - 1) = (decide (0 ≤ a) && decide (a < n)) := by
  unfold inB
  congr 1
  rw [Bool.eq_iff_iff, decide_eq_true_eq, decide_eq_true_eq]; omega
theorem recs_big {l : List RecT} (h : 8 < l.length) : recsOk l = false := by rw [recsOk, decide_eq_false (by omega), Bool.and_false]
theorem recs_no {l : List RecT} (h : l.all recOk = false) : recsOk l = false := by rw [recsOk, h]; rfl
theorem head_recs {c : CodeT} (h : recsOk c.records = false) : validCode c = false := by apply valid_head; unfold headOk; rw [h]; simp
set_option maxRecDepth 100000 in
set_option maxHeartbeats 8000000 in
theorem ivS_r1 (c : CodeT) (h : c.routines.length < 1) : VcOkS 46 c := by
  intro vc w lo hi hc hhi htx
  obtain ⟨Aroutines, nroutines, Arecords, nrecords, Aglobals, nglobals, Ainstrs, ninstrs, rfl, hr, ur, mr, hd, ud, md, hg, ug, mg, hi1, ui, mi⟩ := CodeT.form hc
  unfold maxLen at mr md mg mi
  have HTX := Lib.hid htx
  have hwa : Below w.heap.size w (w.alloc (.cells #[.slice Aroutines c.routines.length nroutines, .slice Arecords c.records.length nrecords, .slice Aglobals c.globals.length nglobals, .int .i64 c.main, .slice Ainstrs c.instrs.length ninstrs] 34)) := (Below.refl _ _).alloc (Nat.le_refl _) _
  have a1 := Blk.new w 34 #[.slice Aroutines c.routines.length nroutines, .slice Arecords c.records.length nrecords, .slice Aglobals c.globals.length nglobals, .int .i64 c.main, .slice Ainstrs c.instrs.length ninstrs]
  clear hc htx
  have HV : Hid (validCode c = false) := by
    show _ = _
    apply valid_head
    unfold headOk
    rw [decide_eq_false (show ¬ 1 ≤ c.routines.length by omega)]
    simp
  go_enter Tryz.func46, Tryz.ntmps46
  go_wp2_with fail
  go_ret
  exact ⟨ret_bool HV.out.symm, hwa⟩
set_option maxRecDepth 100000 in
set_option maxHeartbeats 8000000 in
theorem ivS_r12 (c : CodeT) (h0 : ¬ c.routines.length < 1) (h : 12 < c.routines.length) : VcOkS 46 c := by
  intro vc w lo hi hc hhi htx
  obtain ⟨Aroutines, nroutines, Arecords, nrecords, Aglobals, nglobals, Ainstrs, ninstrs, rfl, hr, ur, mr, hd, ud, md, hg, ug, mg, hi1, ui, mi⟩ := CodeT.form hc
  unfold maxLen at mr md mg mi
  have HTX := Lib.hid htx
  have hwa : Below w.heap.size w (w.alloc (.cells #[.slice Aroutines c.routines.length nroutines, .slice Arecords c.records.length nrecords, .slice Aglobals c.globals.length nglobals, .int .i64 c.main, .slice Ainstrs c.instrs.length ninstrs] 34)) := (Below.refl _ _).alloc (Nat.le_refl _) _
  have a1 := Blk.new w 34 #[.slice Aroutines c.routines.length nroutines, .slice Arecords c.records.length nrecords, .slice Aglobals c.globals.length nglobals, .int .i64 c.main, .slice Ainstrs c.instrs.length ninstrs]
  clear hc htx
  have HV : Hid (validCode c = false) := by
    show _ = _
    apply valid_head
    unfold headOk
    rw [decide_eq_false (show ¬ c.routines.length ≤ 12 by omega)]
    simp
  go_enter Tryz.func46, Tryz.ntmps46
  go_wp2_with fail
  go_ret
  exact ⟨ret_bool HV.out.symm, hwa⟩
set_option maxRecDepth 100000 in
set_option maxHeartbeats 8000000 in
theorem ivS_rec (c : CodeT) (h0 : ¬ c.routines.length < 1) (h1 : ¬ 12 < c.routines.length) (h : 8 < c.records.length) : VcOkS 46 c := by
  intro vc w lo hi hc hhi htx
  obtain ⟨Aroutines, nroutines, Arecords, nrecords, Aglobals, nglobals, Ainstrs, ninstrs, rfl, hr, ur, mr, hd, ud, md, hg, ug, mg, hi1, ui, mi⟩ := CodeT.form hc
  unfold maxLen at mr md mg mi
  have HTX := Lib.hid htx
  have hwa : Below w.heap.size w (w.alloc (.cells #[.slice Aroutines c.routines.length nroutines, .slice Arecords c.records.length nrecords, .slice Aglobals c.globals.length nglobals, .int .i64 c.main, .slice Ainstrs c.instrs.length ninstrs] 34)) := (Below.refl _ _).alloc (Nat.le_refl _) _
  have a1 := Blk.new w 34 #[.slice Aroutines c.routines.length nroutines, .slice Arecords c.records.length nrecords, .slice Aglobals c.globals.length nglobals, .int .i64 c.main, .slice Ainstrs c.instrs.length ninstrs]
  clear hc htx
  have HV : Hid (validCode c = false) := head_recs (recs_big h)
  go_enter Tryz.func46, Tryz.ntmps46
  go_wp2_with fail
  go_ret
  exact ⟨ret_bool HV.out.symm, hwa⟩
set_option maxRecDepth 100000 in
set_option maxHeartbeats 8000000 in
theorem ivS_names (c : CodeT) (h0 : ¬ c.routines.length < 1) (h1 : ¬ 12 < c.routines.length) (h2 : ¬ 8 < c.records.length) (h : (c.globals.all isNameB && decide (c.globals.length ≤ 12)) = false) : VcOkS 46 c := by
  intro vc w lo hi hc hhi htx
  obtain ⟨Aroutines, nroutines, Arecords, nrecords, Aglobals, nglobals, Ainstrs, ninstrs, rfl, hr, ur, mr, hd, ud, md, hg, ug, mg, hi1, ui, mi⟩ := CodeT.form hc
  unfold maxLen at mr md mg mi
  have HTX := Lib.hid htx
  have hwa : Below w.heap.size w (w.alloc (.cells #[.slice Aroutines c.routines.length nroutines, .slice Arecords c.records.length nrecords, .slice Aglobals c.globals.length nglobals, .int .i64 c.main, .slice Ainstrs c.instrs.length ninstrs] 34)) := (Below.refl _ _).alloc (Nat.le_refl _) _
  have a1 := Blk.new w 34 #[.slice Aroutines c.routines.length nroutines, .slice Arecords c.records.length nrecords, .slice Aglobals c.globals.length nglobals, .int .i64 c.main, .slice Ainstrs c.instrs.length ninstrs]
  clear hc htx
  have HV : Hid (validCode c = false) := by
    show _ = _
    apply valid_head
    unfold headOk
    cases hq : c.globals.all isNameB with
    | false => simp
    | true => rw [hq, Bool.true_and] at h; rw [h]; simp
  have HGN := Lib.hid h
  clear h
  go_enter Tryz.func46, Tryz.ntmps46
  go_wp2_with fail
  refine (spec_l7NamesOk c.globals 12 _ _ lo hi (hg.below hwa hhi) (Nat.le_trans hhi hwa.size)).mono ?_; rw [HGN.out]; rintro e w2 ⟨rfl, hb2⟩
  have hw2 := hwa.trans (hb2.mono hwa.size)
  have a2 := a1.later hb2
  have ca := a2.cell
  have la := a2.lt
  clear hb2
  go_wp2_with fail
  go_ret
  exact ⟨ret_bool HV.out.symm, hw2⟩
set_option maxRecDepth 100000 in
set_option maxHeartbeats 8000000 in
theorem ivS_main (c : CodeT) (h0 : ¬ c.routines.length < 1) (h1 : ¬ 12 < c.routines.length) (h2 : ¬ 8 < c.records.length) (h3 : (c.globals.all isNameB && decide (c.globals.length ≤ 12)) = true) (h : inB c.main 0 ((c.routines.length : Int) - 1) = false) : VcOkS 46 c := by
  intro vc w lo hi hc hhi htx
  obtain ⟨Aroutines, nroutines, Arecords, nrecords, Aglobals, nglobals, Ainstrs, ninstrs, rfl, hr, ur, mr, hd, ud, md, hg, ug, mg, hi1, ui, mi⟩ := CodeT.form hc
  unfold maxLen at mr md mg mi
  have HTX := Lib.hid htx
  have hwa : Below w.heap.size w (w.alloc (.cells #[.slice Aroutines c.routines.length nroutines, .slice Arecords c.records.length nrecords, .slice Aglobals c.globals.length nglobals, .int .i64 c.main, .slice Ainstrs c.instrs.length ninstrs] 34)) := (Below.refl _ _).alloc (Nat.le_refl _) _
  have a1 := Blk.new w 34 #[.slice Aroutines c.routines.length nroutines, .slice Arecords c.records.length nrecords, .slice Aglobals c.globals.length nglobals, .int .i64 c.main, .slice Ainstrs c.instrs.length ninstrs]
  clear hc htx
  have HV : Hid (validCode c = false) := valid_main (by rw [in_lt] at h; rw [mainOk, h]; rfl)
  have HGN := Lib.hid h3
  have HIN := Lib.hid h
  clear h h3
  go_enter Tryz.func46, Tryz.ntmps46
  go_wp2_with fail
  refine (spec_l7NamesOk c.globals 12 _ _ lo hi (hg.below hwa hhi) (Nat.le_trans hhi hwa.size)).mono ?_; rw [HGN.out]; rintro e w2 ⟨rfl, hb2⟩
  have hw2 := hwa.trans (hb2.mono hwa.size)
  have a2 := a1.later hb2
  have ca := a2.cell
  have la := a2.lt
  clear hb2
  go_wp2_with fail
  refine (spec_l1In c.main 0 ((c.routines.length : Int) - 1) _).mono ?_; rw [HIN.out]; rintro e w3 ⟨rfl, rfl⟩
  go_wp2_with fail
  go_ret
  exact ⟨ret_bool HV.out.symm, hw2⟩
set_option maxRecDepth 100000 in
set_option maxHeartbeats 8000000 in
theorem ivS_par (c : CodeT) (h0 : ¬ c.routines.length < 1) (h1 : ¬ 12 < c.routines.length) (h2 : ¬ 8 < c.records.length) (h3 : (c.globals.all isNameB && decide (c.globals.length ≤ 12)) = true) (mn : Nat) (hmn : c.main = mn) (hml : mn < c.routines.length) (r0 : CRoT) (hr0 : c.routines[mn]? = some r0) (h : ¬ r0.params = 0) : VcOkS 46 c := by
  intro vc w lo hi hc hhi htx
  obtain ⟨Aroutines, nroutines, Arecords, nrecords, Aglobals, nglobals, Ainstrs, ninstrs, rfl, hr, ur, mr, hd, ud, md, hg, ug, mg, hi1, ui, mi⟩ := CodeT.form hc
  unfold maxLen at mr md mg mi
  have HTX := Lib.hid htx
  have hwa : Below w.heap.size w (w.alloc (.cells #[.slice Aroutines c.routines.length nroutines, .slice Arecords c.records.length nrecords, .slice Aglobals c.globals.length nglobals, .int .i64 c.main, .slice Ainstrs c.instrs.length ninstrs] 34)) := (Below.refl _ _).alloc (Nat.le_refl _) _
  have a1 := Blk.new w 34 #[.slice Aroutines c.routines.length nroutines, .slice Arecords c.records.length nrecords, .slice Aglobals c.globals.length nglobals, .int .i64 c.main, .slice Ainstrs c.instrs.length ninstrs]
  clear hc htx
  obtain ⟨g0, off0, hA0, hg01, hg02, -, -, -, q1, -, -⟩ := CRoT.at_ hr hr0
  subst hA0
  have HMN : Hid (mainOk c = decide (r0.params = 0)) := by
    show _ = _
    unfold mainOk
    rw [hmn, decide_eq_true (show (0 : Int) ≤ (mn : Int) by omega), decide_eq_true (show (mn : Int) < (c.routines.length : Int) by omega), Int.toNat_natCast, hr0]
    rfl
  have HIN : Hid (inB (mn : Int) 0 ((c.routines.length : Int) - 1) = true) := by show _ = _; rw [in_lt, decide_eq_true (show (0 : Int) ≤ (mn : Int) by omega), decide_eq_true (show (mn : Int) < (c.routines.length : Int) by omega)]; rfl
  have HGN := Lib.hid h3
  have HMNE := Lib.hid hmn
  clear h3 hr0 hmn
  have HV : Hid (validCode c = false) := valid_main (by rw [HMN.out, decide_eq_false h])
  have f0 : (r0.params != 0) = true := by simpa using h
  have d9 : decide ((c.routines.length : Int) < 1) = false := decide_eq_false (by omega)
  have d10 : decide ((12 : Int) < (c.routines.length : Int)) = false := decide_eq_false (by omega)
  have d11 : decide ((8 : Int) < (c.records.length : Int)) = false := decide_eq_false (by omega)
  go_enter Tryz.func46, Tryz.ntmps46
  go_wp2_with fail
  refine (spec_l7NamesOk c.globals 12 _ _ lo hi (hg.below hwa hhi) (Nat.le_trans hhi hwa.size)).mono ?_; rw [HGN.out]; rintro e w2 ⟨rfl, hb2⟩
  have hw2 := hwa.trans (hb2.mono hwa.size)
  have a2 := a1.later hb2
  have ca := a2.cell
  have la := a2.lt
  clear hb2
  rw [HMNE.out] at ca
  have q1' := (hw2.cell (p := ⟨g0, off0 + mn * 4 + 1, none⟩) (by show g0 < _; omega)).trans q1
  go_wp2_with fail
  refine (spec_l1In (mn : Int) 0 ((c.routines.length : Int) - 1) _).mono ?_; rw [HIN.out]; rintro e w3 ⟨rfl, rfl⟩
  go_wp2_with fail
  go_ret
  exact ⟨ret_bool HV.out.symm, hw2⟩
set_option maxRecDepth 100000 in
set_option maxHeartbeats 8000000 in
theorem ivS_n1 (c : CodeT) (h0 : ¬ c.routines.length < 1) (h1 : ¬ 12 < c.routines.length) (h2 : ¬ 8 < c.records.length) (h3 : (c.globals.all isNameB && decide (c.globals.length ≤ 12)) = true) (mn : Nat) (hmn : c.main = mn) (hml : mn < c.routines.length) (r0 : CRoT) (hr0 : c.routines[mn]? = some r0) (hp : r0.params = 0) (h : c.instrs.length < 1) : VcOkS 46 c := by
  intro vc w lo hi hc hhi htx
  obtain ⟨Aroutines, nroutines, Arecords, nrecords, Aglobals, nglobals, Ainstrs, ninstrs, rfl, hr, ur, mr, hd, ud, md, hg, ug, mg, hi1, ui, mi⟩ := CodeT.form hc
  unfold maxLen at mr md mg mi
  have HTX := Lib.hid htx
  have hwa : Below w.heap.size w (w.alloc (.cells #[.slice Aroutines c.routines.length nroutines, .slice Arecords c.records.length nrecords, .slice Aglobals c.globals.length nglobals, .int .i64 c.main, .slice Ainstrs c.instrs.length ninstrs] 34)) := (Below.refl _ _).alloc (Nat.le_refl _) _
  have a1 := Blk.new w 34 #[.slice Aroutines c.routines.length nroutines, .slice Arecords c.records.length nrecords, .slice Aglobals c.globals.length nglobals, .int .i64 c.main, .slice Ainstrs c.instrs.length ninstrs]
  clear hc htx
  obtain ⟨g0, off0, hA0, hg01, hg02, -, -, -, q1, -, -⟩ := CRoT.at_ hr hr0
  subst hA0
  have HMN : Hid (mainOk c = decide (r0.params = 0)) := by
    show _ = _
    unfold mainOk
    rw [hmn, decide_eq_true (show (0 : Int) ≤ (mn : Int) by omega), decide_eq_true (show (mn : Int) < (c.routines.length : Int) by omega), Int.toNat_natCast, hr0]
    rfl
  have HIN : Hid (inB (mn : Int) 0 ((c.routines.length : Int) - 1) = true) := by show _ = _; rw [in_lt, decide_eq_true (show (0 : Int) ≤ (mn : Int) by omega), decide_eq_true (show (mn : Int) < (c.routines.length : Int) by omega)]; rfl
  have HGN := Lib.hid h3
  have HMNE := Lib.hid hmn
  clear h3 hr0 hmn
  have HV : Hid (validCode c = false) := by
    show _ = _
    apply valid_head
    unfold headOk
    rw [decide_eq_false (show ¬ 1 ≤ c.instrs.length by omega)]
    simp
  have f0 : (r0.params != 0) = false := by simp [hp]
  clear hp
  have d9 : decide ((c.routines.length : Int) < 1) = false := decide_eq_false (by omega)
  have d10 : decide ((12 : Int) < (c.routines.length : Int)) = false := decide_eq_false (by omega)
  have d11 : decide ((8 : Int) < (c.records.length : Int)) = false := decide_eq_false (by omega)
  go_enter Tryz.func46, Tryz.ntmps46
  go_wp2_with fail
  refine (spec_l7NamesOk c.globals 12 _ _ lo hi (hg.below hwa hhi) (Nat.le_trans hhi hwa.size)).mono ?_; rw [HGN.out]; rintro e w2 ⟨rfl, hb2⟩
  have hw2 := hwa.trans (hb2.mono hwa.size)
  have a2 := a1.later hb2
  have ca := a2.cell
  have la := a2.lt
  clear hb2
  rw [HMNE.out] at ca
  have q1' := (hw2.cell (p := ⟨g0, off0 + mn * 4 + 1, none⟩) (by show g0 < _; omega)).trans q1
  go_wp2_with fail
  refine (spec_l1In (mn : Int) 0 ((c.routines.length : Int) - 1) _).mono ?_; rw [HIN.out]; rintro e w3 ⟨rfl, rfl⟩
  go_wp2_with fail
  go_ret
  exact ⟨ret_bool HV.out.symm, hw2⟩
set_option maxRecDepth 100000 in
set_option maxHeartbeats 8000000 in
theorem ivS_n2 (c : CodeT) (h0 : ¬ c.routines.length < 1) (h1 : ¬ 12 < c.routines.length) (h2 : ¬ 8 < c.records.length) (h3 : (c.globals.all isNameB && decide (c.globals.length ≤ 12)) = true) (mn : Nat) (hmn : c.main = mn) (hml : mn < c.routines.length) (r0 : CRoT) (hr0 : c.routines[mn]? = some r0) (hp : r0.params = 0) (h5 : ¬ c.instrs.length < 1) (h : 60000 < c.instrs.length) : VcOkS 46 c := by
  intro vc w lo hi hc hhi htx
  obtain ⟨Aroutines, nroutines, Arecords, nrecords, Aglobals, nglobals, Ainstrs, ninstrs, rfl, hr, ur, mr, hd, ud, md, hg, ug, mg, hi1, ui, mi⟩ := CodeT.form hc
  unfold maxLen at mr md mg mi
  have HTX := Lib.hid htx
  have hwa : Below w.heap.size w (w.alloc (.cells #[.slice Aroutines c.routines.length nroutines, .slice Arecords c.records.length nrecords, .slice Aglobals c.globals.length nglobals, .int .i64 c.main, .slice Ainstrs c.instrs.length ninstrs] 34)) := (Below.refl _ _).alloc (Nat.le_refl _) _
  have a1 := Blk.new w 34 #[.slice Aroutines c.routines.length nroutines, .slice Arecords c.records.length nrecords, .slice Aglobals c.globals.length nglobals, .int .i64 c.main, .slice Ainstrs c.instrs.length ninstrs]
  clear hc htx
  obtain ⟨g0, off0, hA0, hg01, hg02, -, -, -, q1, -, -⟩ := CRoT.at_ hr hr0
  subst hA0
  have HMN : Hid (mainOk c = decide (r0.params = 0)) := by
    show _ = _
    unfold mainOk
    rw [hmn, decide_eq_true (show (0 : Int) ≤ (mn : Int) by omega), decide_eq_true (show (mn : Int) < (c.routines.length : Int) by omega), Int.toNat_natCast, hr0]
    rfl
  have HIN : Hid (inB (mn : Int) 0 ((c.routines.length : Int) - 1) = true) := by show _ = _; rw [in_lt, decide_eq_true (show (0 : Int) ≤ (mn : Int) by omega), decide_eq_true (show (mn : Int) < (c.routines.length : Int) by omega)]; rfl
  have HGN := Lib.hid h3
  have HMNE := Lib.hid hmn
  clear h3 hr0 hmn
  have HV : Hid (validCode c = false) := by
    show _ = _
    apply valid_head
    unfold headOk
    rw [decide_eq_false (show ¬ c.instrs.length ≤ 60000 by omega)]
    simp
  have f0 : (r0.params != 0) = false := by simp [hp]
  clear hp
  have d9 : decide ((c.routines.length : Int) < 1) = false := decide_eq_false (by omega)
  have d10 : decide ((12 : Int) < (c.routines.length : Int)) = false := decide_eq_false (by omega)
  have d11 : decide ((8 : Int) < (c.records.length : Int)) = false := decide_eq_false (by omega)
  go_enter Tryz.func46, Tryz.ntmps46
  go_wp2_with fail
  refine (spec_l7NamesOk c.globals 12 _ _ lo hi (hg.below hwa hhi) (Nat.le_trans hhi hwa.size)).mono ?_; rw [HGN.out]; rintro e w2 ⟨rfl, hb2⟩
  have hw2 := hwa.trans (hb2.mono hwa.size)
  have a2 := a1.later hb2
  have ca := a2.cell
  have la := a2.lt
  clear hb2
  rw [HMNE.out] at ca
  have q1' := (hw2.cell (p := ⟨g0, off0 + mn * 4 + 1, none⟩) (by show g0 < _; omega)).trans q1
  go_wp2_with fail
  refine (spec_l1In (mn : Int) 0 ((c.routines.length : Int) - 1) _).mono ?_; rw [HIN.out]; rintro e w3 ⟨rfl, rfl⟩
  go_wp2_with fail
  go_ret
  exact ⟨ret_bool HV.out.symm, hw2⟩
set_option maxRecDepth 100000 in
set_option maxHeartbeats 8000000 in
theorem ivS_ok (c : CodeT) (h0 : ¬ c.routines.length < 1) (h1 : ¬ 12 < c.routines.length) (h2 : ¬ 8 < c.records.length) (h3 : (c.globals.all isNameB && decide (c.globals.length ≤ 12)) = true) (mn : Nat) (hmn : c.main = mn) (hml : mn < c.routines.length) (r0 : CRoT) (hr0 : c.routines[mn]? = some r0) (hp : r0.params = 0) (h5 : ¬ c.instrs.length < 1) (h6 : ¬ 60000 < c.instrs.length) : VcOkS 46 c := by
  intro vc w lo hi hc hhi htx
  obtain ⟨Aroutines, nroutines, Arecords, nrecords, Aglobals, nglobals, Ainstrs, ninstrs, rfl, hr, ur, mr, hd, ud, md, hg, ug, mg, hi1, ui, mi⟩ := CodeT.form hc
  unfold maxLen at mr md mg mi
  have HTX := Lib.hid htx
  have hwa : Below w.heap.size w (w.alloc (.cells #[.slice Aroutines c.routines.length nroutines, .slice Arecords c.records.length nrecords, .slice Aglobals c.globals.length nglobals, .int .i64 c.main, .slice Ainstrs c.instrs.length ninstrs] 34)) := (Below.refl _ _).alloc (Nat.le_refl _) _
  have a1 := Blk.new w 34 #[.slice Aroutines c.routines.length nroutines, .slice Arecords c.records.length nrecords, .slice Aglobals c.globals.length nglobals, .int .i64 c.main, .slice Ainstrs c.instrs.length ninstrs]
  clear hc htx
  have HHD : Hid (recsOk c.records = true → headOk c = true) := fun e => by
    simp only [Bool.and_eq_true, decide_eq_true_eq] at h3
    unfold headOk
    rw [decide_eq_true (show 1 ≤ c.routines.length by omega), decide_eq_true (show c.routines.length ≤ 12 by omega), e, decide_eq_true h3.2, h3.1, decide_eq_true (show 1 ≤ c.instrs.length by omega), decide_eq_true (show c.instrs.length ≤ 60000 by omega)]
    rfl
  obtain ⟨g0, off0, hA0, hg01, hg02, -, -, -, q1, -, -⟩ := CRoT.at_ hr hr0
  subst hA0
  have HMN : Hid (mainOk c = decide (r0.params = 0)) := by
    show _ = _
    unfold mainOk
    rw [hmn, decide_eq_true (show (0 : Int) ≤ (mn : Int) by omega), decide_eq_true (show (mn : Int) < (c.routines.length : Int) by omega), Int.toNat_natCast, hr0]
    rfl
  have HIN : Hid (inB (mn : Int) 0 ((c.routines.length : Int) - 1) = true) := by show _ = _; rw [in_lt, decide_eq_true (show (0 : Int) ≤ (mn : Int) by omega), decide_eq_true (show (mn : Int) < (c.routines.length : Int) by omega)]; rfl
  have HGN := Lib.hid h3
  have HMNE := Lib.hid hmn
  clear h3 hr0 hmn
  have HMO : Hid (mainOk c = true) := by show _ = _; rw [HMN.out, decide_eq_true hp]
  have f0 : (r0.params != 0) = false := by simp [hp]
  clear hp
  have d12 : decide ((c.instrs.length : Int) < 1) = false := decide_eq_false (by omega)
  have d13 : decide ((60000 : Int) < (c.instrs.length : Int)) = false := decide_eq_false (by omega)
  have d9 : decide ((c.routines.length : Int) < 1) = false := decide_eq_false (by omega)
  have d10 : decide ((12 : Int) < (c.routines.length : Int)) = false := decide_eq_false (by omega)
  have d11 : decide ((8 : Int) < (c.records.length : Int)) = false := decide_eq_false (by omega)
  go_enter Tryz.func46, Tryz.ntmps46
  go_wp2_with fail
  refine (spec_l7NamesOk c.globals 12 _ _ lo hi (hg.below hwa hhi) (Nat.le_trans hhi hwa.size)).mono ?_; rw [HGN.out]; rintro e w2 ⟨rfl, hb2⟩
  have hw2 := hwa.trans (hb2.mono hwa.size)
  have a2 := a1.later hb2
  have ca := a2.cell
  have la := a2.lt
  clear hb2
  rw [HMNE.out] at ca
  have q1' := (hw2.cell (p := ⟨g0, off0 + mn * 4 + 1, none⟩) (by show g0 < _; omega)).trans q1
  go_wp2_with fail
  refine (spec_l1In (mn : Int) 0 ((c.routines.length : Int) - 1) _).mono ?_; rw [HIN.out]; rintro e w3 ⟨rfl, rfl⟩
  go_wp2_with fail
  clear ca la q1 q1'
  skip
  go_loopg [3] c.records.length (fun gk i wx => ∃ k : Nat, k ≤ c.records.length ∧ i = .int .i64 k ∧ Hid ((c.records.take k).all recOk = true) ∧ Below w2.heap.size w2 wx ∧ gk = c.records.length - k)
  case atStart => exact ⟨0, Nat.zero_le _, rfl, by simp [Hid], Below.refl _ _, rfl⟩
  case round =>
    obtain ⟨k, hk, rfl, hgo, hb, hgk⟩ := hrel
    have HGK := Lib.hid hgk
    clear hgk
    have hw4 : Below w.heap.size w wr := hw2.trans (hb.mono hw2.size)
    have a4 := a2.later hb
    have ca := a4.cell
    have la := a4.lt
    by_cases hlt : k < c.records.length
    · obtain ⟨r, hrk⟩ : ∃ r, c.records[k]? = some r := ⟨_, List.getElem?_eq_getElem hlt⟩
      obtain ⟨g, off, Af, nf, hA, hg1, hg2, hmem, hcr, q0, q1, q2⟩ := RecT.at_ (hd.below hw4 hhi) hrk
      subst hA
      have hfl := RecT.rows hcr
      have HB : Hid (recOk r = (isNameB r.name && decide (r.fields.length ≤ 6) && r.fields.all isNameB && !twiceB r.fields && decide (0 ≤ r.line))) := rfl
      have HS := Lib.hid (all_snoc (q := recOk) hrk)
      have HM : Hid (recOk r = false → validCode c = false) := fun e => head_recs (recs_no (all_no hmem e))
      have hwr : Below w.heap.size w (wr.alloc (.cells #[Value.string r.name, .slice Af r.fields.length nf, .int .i64 r.line] 110)) := hw4.alloc hw4.size _
      have b4 := Blk.new wr 110 #[Value.string r.name, .slice Af r.fields.length nf, .int .i64 r.line]
      have hf0 := hfl.alloc (Nat.le_trans hhi hw4.size) (.cells #[Value.string r.name, .slice Af r.fields.length nf, .int .i64 r.line] 110)
      clear hrk hmem hcr hfl
      cases n1 : isNameB r.name with
      | false =>
        have HV : Hid (validCode c = false) := HM.out (by rw [HB.out, n1]; simp)
        have N1 := Lib.hid n1
        clear n1 hgo
        go_wp2_with fail
        refine (spec_IsName r.name _).mono ?_; rw [N1.out]; rintro e w5 ⟨rfl, hb5⟩
        have hw5 := hwr.trans (hb5.mono hwr.size)
        have b5 := b4.later hb5
        have hf5 := hf0.below hb5 (Nat.le_trans (Nat.le_trans hhi hw4.size) (by simp))
        clear ca la q0 q1 q2
        have ca := b5.cell
        have la := b5.lt
        go_wp2_with fail
        go_ret
        exact ⟨ret_bool HV.out.symm, hw5⟩
      | true =>
      have N1 := Lib.hid n1
      clear n1
      cases n2 : (r.fields.all isNameB && decide (r.fields.length ≤ 6)) with
      | false =>
        have HV : Hid (validCode c = false) := HM.out (by rw [HB.out]; cases hq : r.fields.all isNameB with | false => simp | true => (rw [hq, Bool.true_and] at n2; rw [n2]; simp))
        have N2 := Lib.hid n2
        clear n2 hgo
        go_wp2_with fail
        refine (spec_IsName r.name _).mono ?_; rw [N1.out]; rintro e w5 ⟨rfl, hb5⟩
        have hw5 := hwr.trans (hb5.mono hwr.size)
        have b5 := b4.later hb5
        have hf5 := hf0.below hb5 (Nat.le_trans (Nat.le_trans hhi hw4.size) (by simp))
        clear ca la q0 q1 q2
        have ca := b5.cell
        have la := b5.lt
        go_wp2_with fail
        refine (spec_l7NamesOk r.fields 6 _ _ lo hi hf5 (Nat.le_trans hhi hw5.size)).mono ?_; rw [N2.out]; rintro e w6 ⟨rfl, hb6⟩
        have hw6 := hw5.trans (hb6.mono hw5.size)
        have b6 := b5.later hb6
        have hf6 := hf5.below hb6 (Nat.le_trans hhi hw5.size)
        clear ca la
        have ca := b6.cell
        have la := b6.lt
        go_wp2_with fail
        go_ret
        exact ⟨ret_bool HV.out.symm, hw6⟩
      | true =>
      have N2 := Lib.hid n2
      have n2' : r.fields.all isNameB = true ∧ r.fields.length ≤ 6 := by simpa using n2
      have HN2 := Lib.hid n2'
      clear n2 n2'
      cases n3 : twiceB r.fields with
      | true =>
        have HV : Hid (validCode c = false) := HM.out (by rw [HB.out, n3]; simp)
        have N3 := Lib.hid n3
        clear n3 hgo
        go_wp2_with fail
        refine (spec_IsName r.name _).mono ?_; rw [N1.out]; rintro e w5 ⟨rfl, hb5⟩
        have hw5 := hwr.trans (hb5.mono hwr.size)
        have b5 := b4.later hb5
        have hf5 := hf0.below hb5 (Nat.le_trans (Nat.le_trans hhi hw4.size) (by simp))
        clear ca la q0 q1 q2
        have ca := b5.cell
        have la := b5.lt
        go_wp2_with fail
        refine (spec_l7NamesOk r.fields 6 _ _ lo hi hf5 (Nat.le_trans hhi hw5.size)).mono ?_; rw [N2.out]; rintro e w6 ⟨rfl, hb6⟩
        have hw6 := hw5.trans (hb6.mono hw5.size)
        have b6 := b5.later hb6
        have hf6 := hf5.below hb6 (Nat.le_trans hhi hw5.size)
        clear ca la
        have ca := b6.cell
        have la := b6.lt
        go_wp2_with fail
        refine (spec_l9Twice r.fields _ _ lo hi hf6).mono ?_; rw [N3.out]; rintro e w7 ⟨rfl, rfl⟩
        go_wp2_with fail
        go_ret
        exact ⟨ret_bool HV.out.symm, hw6⟩
      | false =>
      have N3 := Lib.hid n3
      clear n3
      by_cases n4 : r.line < 0
      · have HV : Hid (validCode c = false) := HM.out (by rw [HB.out, decide_eq_false (show ¬ 0 ≤ r.line by omega)]; simp)
        clear hgo
        go_wp2_with fail
        refine (spec_IsName r.name _).mono ?_; rw [N1.out]; rintro e w5 ⟨rfl, hb5⟩
        have hw5 := hwr.trans (hb5.mono hwr.size)
        have b5 := b4.later hb5
        have hf5 := hf0.below hb5 (Nat.le_trans (Nat.le_trans hhi hw4.size) (by simp))
        clear ca la q0 q1 q2
        have ca := b5.cell
        have la := b5.lt
        go_wp2_with fail
        refine (spec_l7NamesOk r.fields 6 _ _ lo hi hf5 (Nat.le_trans hhi hw5.size)).mono ?_; rw [N2.out]; rintro e w6 ⟨rfl, hb6⟩
        have hw6 := hw5.trans (hb6.mono hw5.size)
        have b6 := b5.later hb6
        have hf6 := hf5.below hb6 (Nat.le_trans hhi hw5.size)
        clear ca la
        have ca := b6.cell
        have la := b6.lt
        go_wp2_with fail
        refine (spec_l9Twice r.fields _ _ lo hi hf6).mono ?_; rw [N3.out]; rintro e w7 ⟨rfl, rfl⟩
        go_wp2_with fail
        go_ret
        exact ⟨ret_bool HV.out.symm, hw6⟩
      have HG : Hid ((c.records.take (k + 1)).all recOk = true) := by show _ = _; rw [HS.out, hgo.out, HB.out, N1.out, decide_eq_true HN2.out.2, HN2.out.1, N3.out, decide_eq_true (show 0 ≤ r.line by omega)]; rfl
      clear hgo
      go_wp2_with fail
      refine (spec_IsName r.name _).mono ?_; rw [N1.out]; rintro e w5 ⟨rfl, hb5⟩
      have hw5 := hwr.trans (hb5.mono hwr.size)
      have b5 := b4.later hb5
      have hf5 := hf0.below hb5 (Nat.le_trans (Nat.le_trans hhi hw4.size) (by simp))
      clear ca la q0 q1 q2
      have ca := b5.cell
      have la := b5.lt
      go_wp2_with fail
      refine (spec_l7NamesOk r.fields 6 _ _ lo hi hf5 (Nat.le_trans hhi hw5.size)).mono ?_; rw [N2.out]; rintro e w6 ⟨rfl, hb6⟩
      have hw6 := hw5.trans (hb6.mono hw5.size)
      have b6 := b5.later hb6
      have hf6 := hf5.below hb6 (Nat.le_trans hhi hw5.size)
      clear ca la
      have ca := b6.cell
      have la := b6.lt
      go_wp2_with fail
      refine (spec_l9Twice r.fields _ _ lo hi hf6).mono ?_; rw [N3.out]; rintro e w7 ⟨rfl, rfl⟩
      go_wp2_with fail
      go_roundg (c.records.length - (k + 1))
      case measure => have := HGK.out; omega
      case rel => exact ⟨k + 1, by omega, by go_num, HG, ((hb.alloc hb.size _).trans (hb5.mono (Nat.le_trans hb.size (by simp)))).trans (hb6.mono (Nat.le_trans hb.size (Nat.le_trans (by simp) hb5.size))), rfl⟩
    · obtain rfl : k = c.records.length := by omega
      rw [List.take_length] at hgo
      have HRC : Hid (headOk c = true) := HHD.out (by rw [recsOk, hgo.out, decide_eq_true (show c.records.length ≤ 8 by omega)]; rfl)
      clear hgo
      go_wp2_with fail
      clear ca la
      obtain ⟨wA, rfl⟩ : ∃ wA : World, wA = wr := ⟨_, rfl⟩
      clear hb HGK
      go_loopg [5] c.routines.length (fun gk i wx => ∃ k : Nat, k ≤ c.routines.length ∧ i = .int .i64 k ∧ Hid ((c.routines.take k).all (roOk c.instrs.length) = true) ∧ Below wA.heap.size wA wx ∧ gk = c.routines.length - k)
      case atStart => exact ⟨0, Nat.zero_le _, rfl, by simp [Hid], Below.refl _ _, rfl⟩
      case round =>
        obtain ⟨k, hk, rfl, hgo, hb, hgk⟩ := hrel
        have HGK := Lib.hid hgk
        clear hgk
        have hw6 : Below w.heap.size w wr := hw4.trans (hb.mono hw4.size)
        have a6 := a4.later hb
        have ca := a6.cell
        have la := a6.lt
        by_cases hlt : k < c.routines.length
        · obtain ⟨r, hrk⟩ : ∃ r, c.routines[k]? = some r := ⟨_, List.getElem?_eq_getElem hlt⟩
          obtain ⟨g, off, hA, hg1, hg2, hmem, -, q0, q1, q2, q3⟩ := CRoT.at_ (hr.below hw6 hhi) hrk
          injection hA with hA
          injection hA with hA1 hA2
          subst hA1 hA2
          have HS := Lib.hid (all_snoc (q := roOk c.instrs.length) hrk)
          have HM : Hid (roOk c.instrs.length r = false → validCode c = false) := fun e => valid_ro (all_no hmem e)
          have HB : Hid (roOk c.instrs.length r = (isNameB r.name && inB r.slots 0 24 && inB r.params 0 r.slots && inB r.entry 0 ((c.instrs.length : Int) - 1))) := by show _ = _; rw [in_lt]; unfold roOk inB; simp only [Bool.and_assoc]
          have hwr : Below w.heap.size w (wr.alloc (.cells #[.string r.name, .int .i64 r.params, .int .i64 r.slots, .int .i64 r.entry] 76)) := hw6.alloc hw6.size _
          have b6 := Blk.new wr 76 #[.string r.name, .int .i64 r.params, .int .i64 r.slots, .int .i64 r.entry]
          have a7 := a6.alloc (.cells #[.string r.name, .int .i64 r.params, .int .i64 r.slots, .int .i64 r.entry] 76)
          clear hrk hmem
          cases n1 : isNameB r.name with
          | false =>
            have HV : Hid (validCode c = false) := HM.out (by rw [HB.out, n1]; simp)
            have N1 := Lib.hid n1
            clear n1 hgo
            go_wp2_with fail
            refine (spec_IsName r.name _).mono ?_; rw [N1.out]; rintro e w8 ⟨rfl, hb8⟩
            have hw8 := hwr.trans (hb8.mono hwr.size)
            have b8 := b6.later hb8
            have a8 := a7.later hb8
            clear ca la q0 q1 q2 q3
            have ca := a8.cell
            have la := a8.lt
            have cb := b8.cell
            have lb := b8.lt
            go_wp2_with fail
            go_ret
            exact ⟨ret_bool HV.out.symm, hw8⟩
          | true =>
          have N1 := Lib.hid n1
          clear n1
          cases n2 : inB r.slots 0 24 with
          | false =>
            have HV : Hid (validCode c = false) := HM.out (by rw [HB.out, n2]; simp)
            have N2 := Lib.hid n2
            clear n2 hgo
            go_wp2_with fail
            refine (spec_IsName r.name _).mono ?_; rw [N1.out]; rintro e w8 ⟨rfl, hb8⟩
            have hw8 := hwr.trans (hb8.mono hwr.size)
            have b8 := b6.later hb8
            have a8 := a7.later hb8
            clear ca la q0 q1 q2 q3
            have ca := a8.cell
            have la := a8.lt
            have cb := b8.cell
            have lb := b8.lt
            go_wp2_with fail
            refine (spec_l1In r.slots 0 24 _).mono ?_; rw [N2.out]; rintro e w9 ⟨rfl, rfl⟩
            go_wp2_with fail
            go_ret
            exact ⟨ret_bool HV.out.symm, hw8⟩
          | true =>
          have N2 := Lib.hid n2
          clear n2
          cases n3 : inB r.params 0 r.slots with
          | false =>
            have HV : Hid (validCode c = false) := HM.out (by rw [HB.out, n3]; simp)
            have N3 := Lib.hid n3
            clear n3 hgo
            go_wp2_with fail
            refine (spec_IsName r.name _).mono ?_; rw [N1.out]; rintro e w8 ⟨rfl, hb8⟩
            have hw8 := hwr.trans (hb8.mono hwr.size)
            have b8 := b6.later hb8
            have a8 := a7.later hb8
            clear ca la q0 q1 q2 q3
            have ca := a8.cell
            have la := a8.lt
            have cb := b8.cell
            have lb := b8.lt
            go_wp2_with fail
            refine (spec_l1In r.slots 0 24 _).mono ?_; rw [N2.out]; rintro e w9 ⟨rfl, rfl⟩
            go_wp2_with fail
            refine (spec_l1In r.params 0 r.slots _).mono ?_; rw [N3.out]; rintro e w9 ⟨rfl, rfl⟩
            go_wp2_with fail
            go_ret
            exact ⟨ret_bool HV.out.symm, hw8⟩
          | true =>
          have N3 := Lib.hid n3
          clear n3
          cases n4 : inB r.entry 0 ((c.instrs.length : Int) - 1) with
          | false =>
            have HV : Hid (validCode c = false) := HM.out (by rw [HB.out, n4]; simp)
            have N4 := Lib.hid n4
            clear n4 hgo
            go_wp2_with fail
            refine (spec_IsName r.name _).mono ?_; rw [N1.out]; rintro e w8 ⟨rfl, hb8⟩
            have hw8 := hwr.trans (hb8.mono hwr.size)
            have b8 := b6.later hb8
            have a8 := a7.later hb8
            clear ca la q0 q1 q2 q3
            have ca := a8.cell
            have la := a8.lt
            have cb := b8.cell
            have lb := b8.lt
            go_wp2_with fail
            refine (spec_l1In r.slots 0 24 _).mono ?_; rw [N2.out]; rintro e w9 ⟨rfl, rfl⟩
            go_wp2_with fail
            refine (spec_l1In r.params 0 r.slots _).mono ?_; rw [N3.out]; rintro e w9 ⟨rfl, rfl⟩
            go_wp2_with fail
            refine (spec_l1In r.entry 0 ((c.instrs.length : Int) - 1) _).mono ?_; rw [N4.out]; rintro e w9 ⟨rfl, rfl⟩
            go_wp2_with fail
            go_ret
            exact ⟨ret_bool HV.out.symm, hw8⟩
          | true =>
          have N4 := Lib.hid n4
          clear n4
          have HG : Hid ((c.routines.take (k + 1)).all (roOk c.instrs.length) = true) := by show _ = _; rw [HS.out, hgo.out, HB.out, N1.out, N2.out, N3.out, N4.out]; rfl
          clear hgo
          go_wp2_with fail
          refine (spec_IsName r.name _).mono ?_; rw [N1.out]; rintro e w8 ⟨rfl, hb8⟩
          have hw8 := hwr.trans (hb8.mono hwr.size)
          have b8 := b6.later hb8
          have a8 := a7.later hb8
          clear ca la q0 q1 q2 q3
          have ca := a8.cell
          have la := a8.lt
          have cb := b8.cell
          have lb := b8.lt
          go_wp2_with fail
          refine (spec_l1In r.slots 0 24 _).mono ?_; rw [N2.out]; rintro e w9 ⟨rfl, rfl⟩
          go_wp2_with fail
          refine (spec_l1In r.params 0 r.slots _).mono ?_; rw [N3.out]; rintro e w9 ⟨rfl, rfl⟩
          go_wp2_with fail
          refine (spec_l1In r.entry 0 ((c.instrs.length : Int) - 1) _).mono ?_; rw [N4.out]; rintro e w9 ⟨rfl, rfl⟩
          go_wp2_with fail
          go_roundg (c.routines.length - (k + 1))
          case measure => have := HGK.out; omega
          case rel => exact ⟨k + 1, by omega, by go_num, HG, (hb.alloc hb.size _).trans (hb8.mono (Nat.le_trans hb.size (by simp))), rfl⟩
        · obtain rfl : k = c.routines.length := by omega
          rw [List.take_length] at hgo
          have HRO := hgo
          clear hgo
          go_wp2_with fail
          clear ca la
          obtain ⟨wB, rfl⟩ : ∃ wB : World, wB = wr := ⟨_, rfl⟩
          clear hb HGK
          go_loopg [7] c.instrs.length (fun gk i wx => ∃ k : Nat, k ≤ c.instrs.length ∧ i = .int .i64 k ∧ Hid ((c.instrs.take k).all (insOk (codeD c) c.instrs.length) = true) ∧ Below wB.heap.size wB wx ∧ gk = c.instrs.length - k)
          case atStart => exact ⟨0, Nat.zero_le _, rfl, by simp [Hid], Below.refl _ _, rfl⟩
          case round =>
            obtain ⟨j, hj, rfl, hgo, hb6, hgk⟩ := hrel
            have HGK := Lib.hid hgk
            clear hgk
            have hw7 : Below w.heap.size w wr := hw6.trans (hb6.mono hw6.size)
            have a7 := a6.later hb6
            have ca := a7.cell
            have la := a7.lt
            by_cases hlt : j < c.instrs.length
            · obtain ⟨x, hx⟩ : ∃ x, c.instrs[j]? = some x := ⟨_, List.getElem?_eq_getElem hlt⟩
              obtain ⟨gI, oI, hA, hgI1, hgI2, hmem, -, q0, q1, q2, q3, q4⟩ := InsT.at_ (hi1.below hw7 hhi) hx
              subst hA
              have hxt := HTX.out x hmem
              have HS := Lib.hid (all_snoc (q := insOk (codeD c) c.instrs.length) hx)
              have HM : Hid (insOk (codeD c) c.instrs.length x = false → validCode c = false) := fun e => valid_ins (all_no hmem e)
              have hsc : SRep w lo hi CodeT.dats (.agg #[.slice (some ⟨g0, off0, none⟩) c.routines.length nroutines, .slice Arecords c.records.length nrecords, .slice Aglobals c.globals.length nglobals, .int .i64 c.main, .slice (some ⟨gI, oI, none⟩) c.instrs.length ninstrs]) c := CodeT.mk_ hr hd hg hi1
              have HC := Lib.hid (spec_l28Instr c x (.agg #[.slice (some ⟨g0, off0, none⟩) c.routines.length nroutines, .slice Arecords c.records.length nrecords, .slice Aglobals c.globals.length nglobals, .int .i64 c.main, .slice (some ⟨gI, oI, none⟩) c.instrs.length ninstrs]) (.agg #[.int .i64 x.op, .int .i64 x.a, .int .i64 x.b, .int .i64 x.line, .string x.text]) wr.drew lo hi 0 0 (hsc.below hw7.drew hhi) InsT.mk_ hxt)
              clear hx hmem hsc
              cases hv : insOk (codeD c) c.instrs.length x with
              | false =>
                have HV : Hid (validCode c = false) := HM.out hv
                have HN := Lib.hid hv
                clear hv hgo
                go_wp2_with fail
                go_still_tail 6, (by kernel_rfl)
                change wpList _ _ _ _ _ wr.drew
                go_wp2_with fail
                refine HC.out.mono ?_; rw [HN.out]; rintro e w9 ⟨rfl, hb9⟩
                have hw9 := hw7.drew.trans (hb9.mono hw7.size)
                go_wp2_with fail
                go_ret
                exact ⟨ret_bool HV.out.symm, hw9⟩
              | true =>
                have HG : Hid ((c.instrs.take (j + 1)).all (insOk (codeD c) c.instrs.length) = true) := by show _ = _; rw [HS.out, hgo.out, hv]; rfl
                have HN := Lib.hid hv
                clear hv hgo
                go_wp2_with fail
                go_still_tail 6, (by kernel_rfl)
                change wpList _ _ _ _ _ wr.drew
                go_wp2_with fail
                refine HC.out.mono ?_; rw [HN.out]; rintro e w9 ⟨rfl, hb9⟩
                have hb10 := hb6.drew.trans (hb9.mono hb6.size)
                clear hb9 q0 q1 q2 q3 q4 HC ca la
                go_wp2_with fail
                go_roundg (c.instrs.length - (j + 1))
                case measure => have := HGK.out; omega
                case rel => exact ⟨j + 1, by omega, by go_num, HG, hb10, rfl⟩
            · obtain rfl : j = c.instrs.length := by omega
              rw [List.take_length] at hgo
              have HV : Hid (validCode c = true) := valid_yes HRC.out HRO.out HMO.out hgo.out
              clear hgo
              go_wp2_with fail
              go_ret
              exact ⟨ret_bool HV.out.symm, hw7⟩
theorem spec_IsValidCode (c : CodeT) : VcOkS 46 c := by
  by_cases h0 : c.routines.length < 1
  · exact ivS_r1 c h0
  by_cases h1 : 12 < c.routines.length
  · exact ivS_r12 c h0 h1
  by_cases h2 : 8 < c.records.length
  · exact ivS_rec c h0 h1 h2
  cases h3 : (c.globals.all isNameB && decide (c.globals.length ≤ 12)) with
  | false => exact ivS_names c h0 h1 h2 h3
  | true =>
    cases h4 : inB c.main 0 ((c.routines.length : Int) - 1) with
    | false => exact ivS_main c h0 h1 h2 h3 h4
    | true =>
      unfold inB at h4
      simp only [Bool.and_eq_true, decide_eq_true_eq] at h4
      obtain ⟨mn, hmn⟩ : ∃ mn : Nat, c.main = mn := ⟨c.main.toNat, by omega⟩
      have hml : mn < c.routines.length := by omega
      obtain ⟨r0, hr0⟩ : ∃ r0, c.routines[mn]? = some r0 := ⟨_, List.getElem?_eq_getElem hml⟩
      by_cases hp : r0.params = 0
      · by_cases h5 : c.instrs.length < 1
        · exact ivS_n1 c h0 h1 h2 h3 mn hmn hml r0 hr0 hp h5
        by_cases h6 : 60000 < c.instrs.length
        · exact ivS_n2 c h0 h1 h2 h3 mn hmn hml r0 hr0 hp h5 h6
        exact ivS_ok c h0 h1 h2 h3 mn hmn hml r0 hr0 hp h5 h6
      · exact ivS_par c h0 h1 h2 h3 mn hmn hml r0 hr0 hp
end Go.Proofs.YtekobbeoaalibaaGreatDoor
