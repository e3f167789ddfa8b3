/- IsValidCode of the program. -/
import Derived.Test.YtekobbeoaalibaaGreatDoorCodeDefs
import Derived.Test.YtekobbeoaalibaaGreatDoorInsI
import Derived.Deep.LoopGhost
namespace Go.Proofs.YtekobbeoaalibaaGreatDoor
open Go.RowKit
set_option linter.unusedVariables false

def VcOk (F : Nat) (c : CodeT) : Prop := ∀ (vc : Value) (w : World) (lo hi : Nat), SRep w lo hi CodeT.dats vc c → hi ≤ w.heap.size → SpaceTab w → (∀ x ∈ c.instrs, x.text.size ≤ 1048576) →
  Calls Tryz.prog F #[vc] w fun e w' => e = .returned (.bool (validCode c)) ∧ Below w.heap.size w w'
set_option maxRecDepth 100000 in
set_option maxHeartbeats 4000000 in
theorem ivI_r1 (c : CodeT) (h : c.routines.length < 1) : VcOk 50 c := by
  intro vc w lo hi hc hhi hst htx
  obtain ⟨Aroutines, nroutines, Arecords, nrecords, Aglobals, nglobals, Ainstrs, ninstrs, rfl, hr, ur, mr, hd, ud, md, hg, ug, mg, hi1, ui, mi⟩ := CodeT.form hc
  unfold maxLen at mr md mg mi
  have HTX := Lib.hid htx
  have hwa : Below w.heap.size w (w.alloc (.cells #[.slice Aroutines c.routines.length nroutines, .slice Arecords c.records.length nrecords, .slice Aglobals c.globals.length nglobals, .int .i64 c.main, .slice Ainstrs c.instrs.length ninstrs] 34)) := (Below.refl _ _).alloc (Nat.le_refl _) _
  have a1 := Blk.new w 34 #[.slice Aroutines c.routines.length nroutines, .slice Arecords c.records.length nrecords, .slice Aglobals c.globals.length nglobals, .int .i64 c.main, .slice Ainstrs c.instrs.length ninstrs]
  clear hc htx
  have HV : Hid (validCode c = false) := by
    show _ = _
    apply valid_head
    unfold headOk
    rw [decide_eq_false (show ¬ 1 ≤ c.routines.length by omega)]
    simp
  go_enter Tryz.func50, Tryz.ntmps50
  go_wp2_with fail
  go_ret
  exact ⟨ret_bool HV.out.symm, hwa⟩
set_option maxRecDepth 100000 in
set_option maxHeartbeats 4000000 in
theorem ivI_r12 (c : CodeT) (h0 : ¬ c.routines.length < 1) (h : 12 < c.routines.length) : VcOk 50 c := by
  intro vc w lo hi hc hhi hst htx
  obtain ⟨Aroutines, nroutines, Arecords, nrecords, Aglobals, nglobals, Ainstrs, ninstrs, rfl, hr, ur, mr, hd, ud, md, hg, ug, mg, hi1, ui, mi⟩ := CodeT.form hc
  unfold maxLen at mr md mg mi
  have HTX := Lib.hid htx
  have hwa : Below w.heap.size w (w.alloc (.cells #[.slice Aroutines c.routines.length nroutines, .slice Arecords c.records.length nrecords, .slice Aglobals c.globals.length nglobals, .int .i64 c.main, .slice Ainstrs c.instrs.length ninstrs] 34)) := (Below.refl _ _).alloc (Nat.le_refl _) _
  have a1 := Blk.new w 34 #[.slice Aroutines c.routines.length nroutines, .slice Arecords c.records.length nrecords, .slice Aglobals c.globals.length nglobals, .int .i64 c.main, .slice Ainstrs c.instrs.length ninstrs]
  clear hc htx
  have HV : Hid (validCode c = false) := by
    show _ = _
    apply valid_head
    unfold headOk
    rw [decide_eq_false (show ¬ c.routines.length ≤ 12 by omega)]
    simp
  go_enter Tryz.func50, Tryz.ntmps50
  go_wp2_with fail
  go_ret
  exact ⟨ret_bool HV.out.symm, hwa⟩
set_option maxRecDepth 100000 in
set_option maxHeartbeats 4000000 in
theorem ivI_recs (c : CodeT) (h0 : ¬ c.routines.length < 1) (h1 : ¬ 12 < c.routines.length) (h : recsOk c.records = false) : VcOk 50 c := by
  intro vc w lo hi hc hhi hst htx
  obtain ⟨Aroutines, nroutines, Arecords, nrecords, Aglobals, nglobals, Ainstrs, ninstrs, rfl, hr, ur, mr, hd, ud, md, hg, ug, mg, hi1, ui, mi⟩ := CodeT.form hc
  unfold maxLen at mr md mg mi
  have HTX := Lib.hid htx
  have hwa : Below w.heap.size w (w.alloc (.cells #[.slice Aroutines c.routines.length nroutines, .slice Arecords c.records.length nrecords, .slice Aglobals c.globals.length nglobals, .int .i64 c.main, .slice Ainstrs c.instrs.length ninstrs] 34)) := (Below.refl _ _).alloc (Nat.le_refl _) _
  have a1 := Blk.new w 34 #[.slice Aroutines c.routines.length nroutines, .slice Arecords c.records.length nrecords, .slice Aglobals c.globals.length nglobals, .int .i64 c.main, .slice Ainstrs c.instrs.length ninstrs]
  clear hc htx
  have HV : Hid (validCode c = false) := by
    show _ = _
    apply valid_head
    unfold headOk
    rw [h]
    simp
  have HRC := Lib.hid h
  clear h
  go_enter Tryz.func50, Tryz.ntmps50
  go_wp2_with fail
  refine (impl_validRecords c.records _ _ lo hi (hd.below hwa hhi) (Nat.le_trans hhi hwa.size) (hst.below hwa hst.2)).mono ?_; rw [HRC.out]; rintro e w2 ⟨rfl, hb2⟩
  have hw2 := hwa.trans (hb2.mono hwa.size)
  have a2 := a1.later hb2
  have ca := a2.cell
  have la := a2.lt
  clear hb2
  go_wp2_with fail
  go_ret
  exact ⟨ret_bool HV.out.symm, hw2⟩
set_option maxRecDepth 100000 in
set_option maxHeartbeats 4000000 in
theorem ivI_gl (c : CodeT) (h0 : ¬ c.routines.length < 1) (h1 : ¬ 12 < c.routines.length) (h2 : recsOk c.records = true) (h : 12 < c.globals.length) : VcOk 50 c := by
  intro vc w lo hi hc hhi hst htx
  obtain ⟨Aroutines, nroutines, Arecords, nrecords, Aglobals, nglobals, Ainstrs, ninstrs, rfl, hr, ur, mr, hd, ud, md, hg, ug, mg, hi1, ui, mi⟩ := CodeT.form hc
  unfold maxLen at mr md mg mi
  have HTX := Lib.hid htx
  have hwa : Below w.heap.size w (w.alloc (.cells #[.slice Aroutines c.routines.length nroutines, .slice Arecords c.records.length nrecords, .slice Aglobals c.globals.length nglobals, .int .i64 c.main, .slice Ainstrs c.instrs.length ninstrs] 34)) := (Below.refl _ _).alloc (Nat.le_refl _) _
  have a1 := Blk.new w 34 #[.slice Aroutines c.routines.length nroutines, .slice Arecords c.records.length nrecords, .slice Aglobals c.globals.length nglobals, .int .i64 c.main, .slice Ainstrs c.instrs.length ninstrs]
  clear hc htx
  have HV : Hid (validCode c = false) := by
    show _ = _
    apply valid_head
    unfold headOk
    rw [decide_eq_false (show ¬ c.globals.length ≤ 12 by omega)]
    simp
  have HRC := Lib.hid h2
  clear h2
  go_enter Tryz.func50, Tryz.ntmps50
  go_wp2_with fail
  refine (impl_validRecords c.records _ _ lo hi (hd.below hwa hhi) (Nat.le_trans hhi hwa.size) (hst.below hwa hst.2)).mono ?_; rw [HRC.out]; rintro e w2 ⟨rfl, hb2⟩
  have hw2 := hwa.trans (hb2.mono hwa.size)
  have a2 := a1.later hb2
  have ca := a2.cell
  have la := a2.lt
  clear hb2
  go_wp2_with fail
  go_ret
  exact ⟨ret_bool HV.out.symm, hw2⟩
set_option maxRecDepth 100000 in
set_option maxHeartbeats 4000000 in
theorem ivI_ga (c : CodeT) (h0 : ¬ c.routines.length < 1) (h1 : ¬ 12 < c.routines.length) (h2 : recsOk c.records = true) (h3 : ¬ 12 < c.globals.length) (h : c.globals.all isNameB = false) : VcOk 50 c := by
  intro vc w lo hi hc hhi hst htx
  obtain ⟨Aroutines, nroutines, Arecords, nrecords, Aglobals, nglobals, Ainstrs, ninstrs, rfl, hr, ur, mr, hd, ud, md, hg, ug, mg, hi1, ui, mi⟩ := CodeT.form hc
  unfold maxLen at mr md mg mi
  have HTX := Lib.hid htx
  have hwa : Below w.heap.size w (w.alloc (.cells #[.slice Aroutines c.routines.length nroutines, .slice Arecords c.records.length nrecords, .slice Aglobals c.globals.length nglobals, .int .i64 c.main, .slice Ainstrs c.instrs.length ninstrs] 34)) := (Below.refl _ _).alloc (Nat.le_refl _) _
  have a1 := Blk.new w 34 #[.slice Aroutines c.routines.length nroutines, .slice Arecords c.records.length nrecords, .slice Aglobals c.globals.length nglobals, .int .i64 c.main, .slice Ainstrs c.instrs.length ninstrs]
  clear hc htx
  have HV : Hid (validCode c = false) := by
    show _ = _
    apply valid_head
    unfold headOk
    rw [h]
    simp
  have HRC := Lib.hid h2
  clear h2
  have HGA := Lib.hid h
  clear h
  go_enter Tryz.func50, Tryz.ntmps50
  go_wp2_with fail
  refine (impl_validRecords c.records _ _ lo hi (hd.below hwa hhi) (Nat.le_trans hhi hwa.size) (hst.below hwa hst.2)).mono ?_; rw [HRC.out]; rintro e w2 ⟨rfl, hb2⟩
  have hw2 := hwa.trans (hb2.mono hwa.size)
  have a2 := a1.later hb2
  have ca := a2.cell
  have la := a2.lt
  clear hb2
  go_wp2_with fail
  refine (impl_allNames c.globals _ _ lo hi (hg.below hw2 hhi) (Nat.le_trans hhi hw2.size) (hst.below hw2 hst.2)).mono ?_; rw [HGA.out]; rintro e w3 ⟨rfl, hb3⟩
  have hw3 := hw2.trans (hb3.mono hw2.size)
  have a3 := a2.later hb3
  clear ca la hb3
  have ca := a3.cell
  have la := a3.lt
  go_wp2_with fail
  go_ret
  exact ⟨ret_bool HV.out.symm, hw3⟩
set_option maxRecDepth 100000 in
set_option maxHeartbeats 4000000 in
theorem ivI_n1 (c : CodeT) (h0 : ¬ c.routines.length < 1) (h1 : ¬ 12 < c.routines.length) (h2 : recsOk c.records = true) (h3 : ¬ 12 < c.globals.length) (h4 : c.globals.all isNameB = true) (h : c.instrs.length < 1) : VcOk 50 c := by
  intro vc w lo hi hc hhi hst htx
  obtain ⟨Aroutines, nroutines, Arecords, nrecords, Aglobals, nglobals, Ainstrs, ninstrs, rfl, hr, ur, mr, hd, ud, md, hg, ug, mg, hi1, ui, mi⟩ := CodeT.form hc
  unfold maxLen at mr md mg mi
  have HTX := Lib.hid htx
  have hwa : Below w.heap.size w (w.alloc (.cells #[.slice Aroutines c.routines.length nroutines, .slice Arecords c.records.length nrecords, .slice Aglobals c.globals.length nglobals, .int .i64 c.main, .slice Ainstrs c.instrs.length ninstrs] 34)) := (Below.refl _ _).alloc (Nat.le_refl _) _
  have a1 := Blk.new w 34 #[.slice Aroutines c.routines.length nroutines, .slice Arecords c.records.length nrecords, .slice Aglobals c.globals.length nglobals, .int .i64 c.main, .slice Ainstrs c.instrs.length ninstrs]
  clear hc htx
  have HV : Hid (validCode c = false) := by
    show _ = _
    apply valid_head
    unfold headOk
    rw [decide_eq_false (show ¬ 1 ≤ c.instrs.length by omega)]
    simp
  have HRC := Lib.hid h2
  clear h2
  have HGA := Lib.hid h4
  clear h4
  go_enter Tryz.func50, Tryz.ntmps50
  go_wp2_with fail
  refine (impl_validRecords c.records _ _ lo hi (hd.below hwa hhi) (Nat.le_trans hhi hwa.size) (hst.below hwa hst.2)).mono ?_; rw [HRC.out]; rintro e w2 ⟨rfl, hb2⟩
  have hw2 := hwa.trans (hb2.mono hwa.size)
  have a2 := a1.later hb2
  have ca := a2.cell
  have la := a2.lt
  clear hb2
  go_wp2_with fail
  refine (impl_allNames c.globals _ _ lo hi (hg.below hw2 hhi) (Nat.le_trans hhi hw2.size) (hst.below hw2 hst.2)).mono ?_; rw [HGA.out]; rintro e w3 ⟨rfl, hb3⟩
  have hw3 := hw2.trans (hb3.mono hw2.size)
  have a3 := a2.later hb3
  clear ca la hb3
  have ca := a3.cell
  have la := a3.lt
  go_wp2_with fail
  go_ret
  exact ⟨ret_bool HV.out.symm, hw3⟩
set_option maxRecDepth 100000 in
set_option maxHeartbeats 4000000 in
theorem ivI_n2 (c : CodeT) (h0 : ¬ c.routines.length < 1) (h1 : ¬ 12 < c.routines.length) (h2 : recsOk c.records = true) (h3 : ¬ 12 < c.globals.length) (h4 : c.globals.all isNameB = true) (h5 : ¬ c.instrs.length < 1) (h : 60000 < c.instrs.length) : VcOk 50 c := by
  intro vc w lo hi hc hhi hst htx
  obtain ⟨Aroutines, nroutines, Arecords, nrecords, Aglobals, nglobals, Ainstrs, ninstrs, rfl, hr, ur, mr, hd, ud, md, hg, ug, mg, hi1, ui, mi⟩ := CodeT.form hc
  unfold maxLen at mr md mg mi
  have HTX := Lib.hid htx
  have hwa : Below w.heap.size w (w.alloc (.cells #[.slice Aroutines c.routines.length nroutines, .slice Arecords c.records.length nrecords, .slice Aglobals c.globals.length nglobals, .int .i64 c.main, .slice Ainstrs c.instrs.length ninstrs] 34)) := (Below.refl _ _).alloc (Nat.le_refl _) _
  have a1 := Blk.new w 34 #[.slice Aroutines c.routines.length nroutines, .slice Arecords c.records.length nrecords, .slice Aglobals c.globals.length nglobals, .int .i64 c.main, .slice Ainstrs c.instrs.length ninstrs]
  clear hc htx
  have HV : Hid (validCode c = false) := by
    show _ = _
    apply valid_head
    unfold headOk
    rw [decide_eq_false (show ¬ c.instrs.length ≤ 60000 by omega)]
    simp
  have HRC := Lib.hid h2
  clear h2
  have HGA := Lib.hid h4
  clear h4
  go_enter Tryz.func50, Tryz.ntmps50
  go_wp2_with fail
  refine (impl_validRecords c.records _ _ lo hi (hd.below hwa hhi) (Nat.le_trans hhi hwa.size) (hst.below hwa hst.2)).mono ?_; rw [HRC.out]; rintro e w2 ⟨rfl, hb2⟩
  have hw2 := hwa.trans (hb2.mono hwa.size)
  have a2 := a1.later hb2
  have ca := a2.cell
  have la := a2.lt
  clear hb2
  go_wp2_with fail
  refine (impl_allNames c.globals _ _ lo hi (hg.below hw2 hhi) (Nat.le_trans hhi hw2.size) (hst.below hw2 hst.2)).mono ?_; rw [HGA.out]; rintro e w3 ⟨rfl, hb3⟩
  have hw3 := hw2.trans (hb3.mono hw2.size)
  have a3 := a2.later hb3
  clear ca la hb3
  have ca := a3.cell
  have la := a3.lt
  go_wp2_with fail
  go_ret
  exact ⟨ret_bool HV.out.symm, hw3⟩
set_option maxRecDepth 100000 in
set_option maxHeartbeats 4000000 in
theorem ivI_ok (c : CodeT) (h0 : ¬ c.routines.length < 1) (h1 : ¬ 12 < c.routines.length) (h2 : recsOk c.records = true) (h3 : ¬ 12 < c.globals.length) (h4 : c.globals.all isNameB = true) (h5 : ¬ c.instrs.length < 1) (h6 : ¬ 60000 < c.instrs.length) : VcOk 50 c := by
  intro vc w lo hi hc hhi hst htx
  obtain ⟨Aroutines, nroutines, Arecords, nrecords, Aglobals, nglobals, Ainstrs, ninstrs, rfl, hr, ur, mr, hd, ud, md, hg, ug, mg, hi1, ui, mi⟩ := CodeT.form hc
  unfold maxLen at mr md mg mi
  have HTX := Lib.hid htx
  have hwa : Below w.heap.size w (w.alloc (.cells #[.slice Aroutines c.routines.length nroutines, .slice Arecords c.records.length nrecords, .slice Aglobals c.globals.length nglobals, .int .i64 c.main, .slice Ainstrs c.instrs.length ninstrs] 34)) := (Below.refl _ _).alloc (Nat.le_refl _) _
  have a1 := Blk.new w 34 #[.slice Aroutines c.routines.length nroutines, .slice Arecords c.records.length nrecords, .slice Aglobals c.globals.length nglobals, .int .i64 c.main, .slice Ainstrs c.instrs.length ninstrs]
  clear hc htx
  have HH : Hid (headOk c = true) := by
    show _ = _
    unfold headOk
    rw [decide_eq_true (show 1 ≤ c.routines.length by omega), decide_eq_true (show c.routines.length ≤ 12 by omega), h2, decide_eq_true (show c.globals.length ≤ 12 by omega), h4, decide_eq_true (show 1 ≤ c.instrs.length by omega), decide_eq_true (show c.instrs.length ≤ 60000 by omega)]
    rfl
  have HRC := Lib.hid h2
  have HGA := Lib.hid h4
  clear h2 h4
  have d1 : decide ((c.routines.length : Int) < 1) = false := decide_eq_false (by omega)
  have d2 : decide ((12 : Int) < (c.routines.length : Int)) = false := decide_eq_false (by omega)
  have d3 : decide ((12 : Int) < (c.globals.length : Int)) = false := decide_eq_false (by omega)
  have d4 : decide ((c.instrs.length : Int) < 1) = false := decide_eq_false (by omega)
  have d5 : decide ((60000 : Int) < (c.instrs.length : Int)) = false := decide_eq_false (by omega)
  go_enter Tryz.func50, Tryz.ntmps50
  go_wp2_with fail
  refine (impl_validRecords c.records _ _ lo hi (hd.below hwa hhi) (Nat.le_trans hhi hwa.size) (hst.below hwa hst.2)).mono ?_; rw [HRC.out]; rintro e w2 ⟨rfl, hb2⟩
  have hw2 := hwa.trans (hb2.mono hwa.size)
  have a2 := a1.later hb2
  have ca := a2.cell
  have la := a2.lt
  clear hb2
  go_wp2_with fail
  refine (impl_allNames c.globals _ _ lo hi (hg.below hw2 hhi) (Nat.le_trans hhi hw2.size) (hst.below hw2 hst.2)).mono ?_; rw [HGA.out]; rintro e w3 ⟨rfl, hb3⟩
  have hw3 := hw2.trans (hb3.mono hw2.size)
  have a3 := a2.later hb3
  clear ca la hb3
  have ca := a3.cell
  have la := a3.lt
  go_wp2_with fail
  clear ca la a1 a2 hwa hw2
  have hlt0 := a3.lt
  go_loopw [50] (fun i wr => ∃ k : Nat, k ≤ c.routines.length ∧ i = .int .i64 k ∧ Hid ((c.routines.take k).all (roOk c.instrs.length) = true) ∧ Below w3.heap.size w3 wr) (fun i _ => c.routines.length - (intOf i).toNat)
  case atStart => exact ⟨0, Nat.zero_le _, rfl, by simp [Hid], Below.refl _ _⟩
  case round =>
    obtain ⟨k, hk, rfl, hgo, hb⟩ := hrel
    have hw4 : Below w.heap.size w wr := hw3.trans (hb.mono hw3.size)
    have a4 := a3.later hb
    by_cases hlt : k < c.routines.length
    · obtain ⟨r, hrk⟩ : ∃ r, c.routines[k]? = some r := ⟨_, List.getElem?_eq_getElem hlt⟩
      obtain ⟨g, off, hA, hg1, hg2, hmem, -, q0, q1, q2, q3⟩ := CRoT.at_ (hr.below hw4 hhi) hrk
      subst hA
      have HS := Lib.hid (all_snoc (q := roOk c.instrs.length) hrk)
      have HM : Hid (roOk c.instrs.length r = false → validCode c = false) := fun e => valid_ro (all_no hmem e)
      have hwr : Below w.heap.size w (wr.alloc (.cells #[.string r.name, .int .i64 r.params, .int .i64 r.slots, .int .i64 r.entry] 76)) := hw4.alloc hw4.size _
      have b4 := Blk.new wr 76 #[.string r.name, .int .i64 r.params, .int .i64 r.slots, .int .i64 r.entry]
      have a5 := a4.alloc (.cells #[.string r.name, .int .i64 r.params, .int .i64 r.slots, .int .i64 r.entry] 76)
      clear hrk hmem
      cases hn : isNameB r.name with
      | false =>
        have HV : Hid (validCode c = false) := HM.out (by rw [roOk, hn]; rfl)
        have HN := Lib.hid hn
        clear hn hgo
        go_wp2_with fail
        refine (impl_IsName r.name _ (hst.below hwr hst.2)).mono ?_; rw [HN.out]; rintro e w5 ⟨rfl, hb5⟩
        have hw5 := hwr.trans (hb5.mono hwr.size)
        go_wp2_with fail
        go_ret
        exact ⟨ret_bool HV.out.symm, hw5⟩
      | true =>
        have HN := Lib.hid hn
        have HB : Hid (roOk c.instrs.length r = (decide (0 ≤ r.slots) && decide (r.slots ≤ 24) && decide (0 ≤ r.params) && decide (r.params ≤ r.slots) && decide (0 ≤ r.entry) && decide (r.entry < c.instrs.length))) := by show _ = _; rw [roOk, hn, Bool.true_and]
        clear hn
        by_cases z_s0 : ¬ (0 ≤ r.slots)
        · have HV : Hid (validCode c = false) := HM.out (by rw [HB.out, decide_eq_false z_s0]; simp)
          clear hgo
          go_wp2_with fail
          refine (impl_IsName r.name _ (hst.below hwr hst.2)).mono ?_; rw [HN.out]; rintro e w5 ⟨rfl, hb5⟩
          have hw5 := hwr.trans (hb5.mono hwr.size)
          have b5 := b4.later hb5
          have cb := b5.cell
          have lb := b5.lt
          have a6 := a5.later hb5
          have ca := a6.cell
          have la := a6.lt
          clear q0 q1 q2 q3
          go_wp2_with fail
          go_ret
          exact ⟨ret_bool HV.out.symm, hw5⟩
        have s0 : 0 ≤ r.slots := by omega
        clear z_s0
        by_cases z_s1 : ¬ (r.slots ≤ 24)
        · have HV : Hid (validCode c = false) := HM.out (by rw [HB.out, decide_eq_false z_s1]; simp)
          clear hgo
          go_wp2_with fail
          refine (impl_IsName r.name _ (hst.below hwr hst.2)).mono ?_; rw [HN.out]; rintro e w5 ⟨rfl, hb5⟩
          have hw5 := hwr.trans (hb5.mono hwr.size)
          have b5 := b4.later hb5
          have cb := b5.cell
          have lb := b5.lt
          have a6 := a5.later hb5
          have ca := a6.cell
          have la := a6.lt
          clear q0 q1 q2 q3
          go_wp2_with fail
          go_ret
          exact ⟨ret_bool HV.out.symm, hw5⟩
        have s1 : r.slots ≤ 24 := by omega
        clear z_s1
        by_cases z_p0 : ¬ (0 ≤ r.params)
        · have HV : Hid (validCode c = false) := HM.out (by rw [HB.out, decide_eq_false z_p0]; simp)
          clear hgo
          go_wp2_with fail
          refine (impl_IsName r.name _ (hst.below hwr hst.2)).mono ?_; rw [HN.out]; rintro e w5 ⟨rfl, hb5⟩
          have hw5 := hwr.trans (hb5.mono hwr.size)
          have b5 := b4.later hb5
          have cb := b5.cell
          have lb := b5.lt
          have a6 := a5.later hb5
          have ca := a6.cell
          have la := a6.lt
          clear q0 q1 q2 q3
          go_wp2_with fail
          go_ret
          exact ⟨ret_bool HV.out.symm, hw5⟩
        have p0 : 0 ≤ r.params := by omega
        clear z_p0
        by_cases z_p1 : ¬ (r.params ≤ r.slots)
        · have HV : Hid (validCode c = false) := HM.out (by rw [HB.out, decide_eq_false z_p1]; simp)
          clear hgo
          go_wp2_with fail
          refine (impl_IsName r.name _ (hst.below hwr hst.2)).mono ?_; rw [HN.out]; rintro e w5 ⟨rfl, hb5⟩
          have hw5 := hwr.trans (hb5.mono hwr.size)
          have b5 := b4.later hb5
          have cb := b5.cell
          have lb := b5.lt
          have a6 := a5.later hb5
          have ca := a6.cell
          have la := a6.lt
          clear q0 q1 q2 q3
          go_wp2_with fail
          go_ret
          exact ⟨ret_bool HV.out.symm, hw5⟩
        have p1 : r.params ≤ r.slots := by omega
        clear z_p1
        by_cases z_e0 : ¬ (0 ≤ r.entry)
        · have HV : Hid (validCode c = false) := HM.out (by rw [HB.out, decide_eq_false z_e0]; simp)
          clear hgo
          go_wp2_with fail
          refine (impl_IsName r.name _ (hst.below hwr hst.2)).mono ?_; rw [HN.out]; rintro e w5 ⟨rfl, hb5⟩
          have hw5 := hwr.trans (hb5.mono hwr.size)
          have b5 := b4.later hb5
          have cb := b5.cell
          have lb := b5.lt
          have a6 := a5.later hb5
          have ca := a6.cell
          have la := a6.lt
          clear q0 q1 q2 q3
          go_wp2_with fail
          go_ret
          exact ⟨ret_bool HV.out.symm, hw5⟩
        have e0 : 0 ≤ r.entry := by omega
        clear z_e0
        by_cases z_e1 : ¬ (r.entry < c.instrs.length)
        · have HV : Hid (validCode c = false) := HM.out (by rw [HB.out, decide_eq_false z_e1]; simp)
          clear hgo
          go_wp2_with fail
          refine (impl_IsName r.name _ (hst.below hwr hst.2)).mono ?_; rw [HN.out]; rintro e w5 ⟨rfl, hb5⟩
          have hw5 := hwr.trans (hb5.mono hwr.size)
          have b5 := b4.later hb5
          have cb := b5.cell
          have lb := b5.lt
          have a6 := a5.later hb5
          have ca := a6.cell
          have la := a6.lt
          clear q0 q1 q2 q3
          go_wp2_with fail
          go_ret
          exact ⟨ret_bool HV.out.symm, hw5⟩
        have e1 : r.entry < c.instrs.length := by omega
        clear z_e1
        have HG : Hid ((c.routines.take (k + 1)).all (roOk c.instrs.length) = true) := by show _ = _; rw [HS.out, hgo.out, HB.out, decide_eq_true s0, decide_eq_true s1, decide_eq_true p0, decide_eq_true p1, decide_eq_true e0, decide_eq_true e1]; rfl
        clear hgo
        go_wp2_with fail
        refine (impl_IsName r.name _ (hst.below hwr hst.2)).mono ?_; rw [HN.out]; rintro e w5 ⟨rfl, hb5⟩
        have hw5 := hwr.trans (hb5.mono hwr.size)
        have b5 := b4.later hb5
        have cb := b5.cell
        have lb := b5.lt
        have a6 := a5.later hb5
        have ca := a6.cell
        have la := a6.lt
        clear q0 q1 q2 q3
        go_wp2_with fail
        go_roundw
        case rel => exact ⟨k + 1, by omega, by go_num, HG, ((hb.alloc hb.size _).trans (hb5.mono (Nat.le_trans hb.size (by simp))))⟩
        case measure => simp [intOf]; omega
    · obtain rfl : k = c.routines.length := by omega
      rw [List.take_length] at hgo
      have ca := a4.cell
      have la := a4.lt
      have h0' : 0 < c.routines.length := by omega
      by_cases m0 : c.main < 0
      · have HV : Hid (validCode c = false) := valid_main (by rw [mainOk, decide_eq_false (by omega)]; rfl)
        clear hgo
        go_wp2_with fail
        go_ret
        exact ⟨ret_bool HV.out.symm, hw4⟩
      by_cases m1' : ¬ (c.main < c.routines.length)
      · have HV : Hid (validCode c = false) := valid_main (by rw [mainOk, decide_eq_false m1', Bool.and_false]; rfl)
        have m2 : (c.routines.length : Int) ≤ c.main := by omega
        clear hgo
        go_wp2_with fail
        go_ret
        exact ⟨ret_bool HV.out.symm, hw4⟩
      have m1 : c.main < c.routines.length := by omega
      clear m1'
      obtain ⟨mn, hmn⟩ : ∃ mn : Nat, c.main = mn := ⟨c.main.toNat, by omega⟩
      obtain ⟨r0, hr0⟩ : ∃ r0, c.routines[mn]? = some r0 := ⟨_, List.getElem?_eq_getElem (by omega)⟩
      obtain ⟨g, off, hA, hg1, hg2, -, -, -, q1, -, -⟩ := CRoT.at_ (hr.below hw4 hhi) hr0
      subst hA
      have HMN : Hid (mainOk c = decide (r0.params = 0)) := by
        show _ = _
        unfold mainOk
        rw [decide_eq_true (show 0 ≤ c.main by omega), decide_eq_true m1, hmn, Int.toNat_natCast, hr0]
        rfl
      have hml : mn < c.routines.length := by omega
      rw [hmn] at ca
      clear hmn m0 m1 hr0
      by_cases hp' : ¬ r0.params = 0
      · have HV : Hid (validCode c = false) := valid_main (by rw [HMN.out, decide_eq_false hp'])
        have f0 : (r0.params != 0) = true := by simpa using hp'
        clear hgo hp'
        go_wp2_with fail
        go_ret
        exact ⟨ret_bool HV.out.symm, hw4⟩
      have hp : r0.params = 0 := by omega
      clear hp'
      have HMO : Hid (mainOk c = true) := by show _ = _; rw [HMN.out, decide_eq_true hp]
      have d9 : decide ((mn : Int) < 0) = false := decide_eq_false (by omega)
      have d10 : decide ((c.routines.length : Int) ≤ (mn : Int)) = false := decide_eq_false (by omega)
      have d11 : decide (c.routines.length ≤ mn) = false := decide_eq_false (by omega)
      have f0 : (r0.params != 0) = false := by simp [hp]
      clear hp HMN
      go_wp2_with fail
      clear ca la q1
      obtain ⟨w6, rfl⟩ : ∃ w6 : World, w6 = wr := ⟨_, rfl⟩
      have HRO := hgo
      clear hgo hb
      go_loopg [118] c.instrs.length (fun gk i wx => ∃ k : Nat, k ≤ c.instrs.length ∧ i = .int .i64 k ∧ Hid ((c.instrs.take k).all (insOk (codeD c) c.instrs.length) = true) ∧ Below w6.heap.size w6 wx ∧ gk = c.instrs.length - k)
      case atStart => exact ⟨0, Nat.zero_le _, rfl, by simp [Hid], Below.refl _ _, rfl⟩
      case round =>
        obtain ⟨j, hj, rfl, hgo, hb6, hgk⟩ := hrel
        have HGK := Lib.hid hgk
        clear hgk
        have hw7 : Below w.heap.size w wr := hw4.trans (hb6.mono hw4.size)
        have a7 := a4.later hb6
        have ca := a7.cell
        have la := a7.lt
        by_cases hlt : j < c.instrs.length
        · obtain ⟨x, hx⟩ : ∃ x, c.instrs[j]? = some x := ⟨_, List.getElem?_eq_getElem hlt⟩
          obtain ⟨gI, oI, hA, hgI1, hgI2, hmem, -, q0, q1, q2, q3, q4⟩ := InsT.at_ (hi1.below hw7 hhi) hx
          subst hA
          have hxt := HTX.out x hmem
          have HS := Lib.hid (all_snoc (q := insOk (codeD c) c.instrs.length) hx)
          have HM : Hid (insOk (codeD c) c.instrs.length x = false → validCode c = false) := fun e => valid_ins (all_no hmem e)
          have hw8 : Below w.heap.size w (wr.alloc (.cells #[.int .i64 x.op, .int .i64 x.a, .int .i64 x.b, .int .i64 x.line, .string x.text] 79)) := hw7.alloc hw7.size _
          have hsc : SRep w lo hi CodeT.dats (.agg #[.slice (some ⟨g, off, none⟩) c.routines.length nroutines, .slice Arecords c.records.length nrecords, .slice Aglobals c.globals.length nglobals, .int .i64 c.main, .slice (some ⟨gI, oI, none⟩) c.instrs.length ninstrs]) c := CodeT.mk_ hr hd hg hi1
          have HC := Lib.hid (impl_validInstr c x (.agg #[.slice (some ⟨g, off, none⟩) c.routines.length nroutines, .slice Arecords c.records.length nrecords, .slice Aglobals c.globals.length nglobals, .int .i64 c.main, .slice (some ⟨gI, oI, none⟩) c.instrs.length ninstrs]) (.agg #[.int .i64 x.op, .int .i64 x.a, .int .i64 x.b, .int .i64 x.line, .string x.text]) (wr.alloc (.cells #[.int .i64 x.op, .int .i64 x.a, .int .i64 x.b, .int .i64 x.line, .string x.text] 79)) lo hi 0 0 (hsc.below hw8 hhi) InsT.mk_ hxt (hst.below hw8 hst.2))
          clear hx hmem hsc
          cases hv : insOk (codeD c) c.instrs.length x with
          | false =>
            have HV : Hid (validCode c = false) := HM.out hv
            have HN := Lib.hid hv
            clear hv hgo
            go_wp2_with fail
            refine HC.out.mono ?_; rw [HN.out]; rintro e w9 ⟨rfl, hb9⟩
            have hw9 := hw8.trans (hb9.mono hw8.size)
            go_wp2_with fail
            go_ret
            exact ⟨ret_bool HV.out.symm, hw9⟩
          | true =>
            have HG : Hid ((c.instrs.take (j + 1)).all (insOk (codeD c) c.instrs.length) = true) := by show _ = _; rw [HS.out, hgo.out, hv]; rfl
            have HN := Lib.hid hv
            clear hv hgo
            go_wp2_with fail
            refine HC.out.mono ?_; rw [HN.out]; rintro e w9 ⟨rfl, hb9⟩
            have hb10 := (hb6.alloc hb6.size _).trans (hb9.mono (Nat.le_trans hb6.size (by simp)))
            clear hb9 q0 q1 q2 q3 q4 HC ca la
            go_wp2_with fail
            go_roundg (c.instrs.length - (j + 1))
            case measure => have := HGK.out; omega
            case rel => exact ⟨j + 1, by omega, by go_num, HG, hb10, rfl⟩
        · obtain rfl : j = c.instrs.length := by omega
          rw [List.take_length] at hgo
          have HV : Hid (validCode c = true) := valid_yes HH.out HRO.out HMO.out hgo.out
          clear hgo
          go_wp2_with fail
          go_ret
          exact ⟨ret_bool HV.out.symm, hw7⟩
theorem impl_IsValidCode (c : CodeT) : VcOk 50 c := by
  by_cases h0 : c.routines.length < 1
  · exact ivI_r1 c h0
  by_cases h1 : 12 < c.routines.length
  · exact ivI_r12 c h0 h1
  cases h2 : recsOk c.records with
  | false => exact ivI_recs c h0 h1 h2
  | true =>
    by_cases h3 : 12 < c.globals.length
    · exact ivI_gl c h0 h1 h2 h3
    cases h4 : c.globals.all isNameB with
    | false => exact ivI_ga c h0 h1 h2 h3 h4
    | true =>
      by_cases h5 : c.instrs.length < 1
      · exact ivI_n1 c h0 h1 h2 h3 h4 h5
      by_cases h6 : 60000 < c.instrs.length
      · exact ivI_n2 c h0 h1 h2 h3 h4 h5 h6
      exact ivI_ok c h0 h1 h2 h3 h4 h5 h6
end Go.Proofs.YtekobbeoaalibaaGreatDoor
