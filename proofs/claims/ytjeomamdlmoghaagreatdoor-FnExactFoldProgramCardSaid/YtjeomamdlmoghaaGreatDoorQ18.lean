/- IsValidProgram of the reference. -/
import Derived.Test.YtjeomamdlmoghaaGreatDoorQ00
import Derived.Test.YtjeomamdlmoghaaGreatDoorQ07
import Derived.Test.YtjeomamdlmoghaaGreatDoorQ17
import Derived.Deep.LoopGhost
import Derived.StillTailTactics
set_option maxRecDepth 100000
set_option maxHeartbeats 8000000
set_option linter.unusedVariables false
set_option linter.unusedSimpArgs false
section
namespace Go.Proofs.YtjeomamdlmoghaaGreatDoor
open Go.RowKit
def VpOkS (F : Nat) (c : ProgT) : Prop := ∀ (vc : Value) (w : World) (lo hi : Nat), SRep w lo hi ProgT.dats vc c → hi ≤ w.heap.size → c.bulk ≤ 1048576 →
 Calls Tryz.prog F #[vc] w fun e w' => e = .returned (.bool (validProg c)) ∧ Below w.heap.size w w'
theorem vpS_r1 (c : ProgT) (h : c.routines.length < 1) : VpOkS 14 c := by
 intro vc w lo hi hc hhi hbk
 obtain ⟨Aroutines, nroutines, Arecords, nrecords, Aglobals, nglobals, rfl, hr, ur, mr, hd, ud, md, hg, ug, mg⟩ := ProgT.form hc
 unfold maxLen at mr md mg
 have hwa : Below w.heap.size w (w.alloc (.cells #[.slice Aroutines c.routines.length nroutines, .slice Arecords c.records.length nrecords, .slice Aglobals c.globals.length nglobals, .int .i64 c.main] 31)) := (Below.refl _ _).alloc (Nat.le_refl _) _
 have a1 := Blk.new w 31 #[.slice Aroutines c.routines.length nroutines, .slice Arecords c.records.length nrecords, .slice Aglobals c.globals.length nglobals, .int .i64 c.main]
 clear hc
 have HV : Hid (validProg c = false) := by
  show _ = _
  apply vp_head
  unfold pheadOk
  rw [decide_eq_false (show ¬ 1 ≤ c.routines.length by omega)]
  simp
 go_enter Tryz.func14, Tryz.ntmps14
 go_wp2_with fail
 go_ret
 exact ⟨ret_bool HV.out.symm, hwa⟩
theorem vpS_r12 (c : ProgT) (h0 : ¬ c.routines.length < 1) (h : 12 < c.routines.length) : VpOkS 14 c := by
 intro vc w lo hi hc hhi hbk
 obtain ⟨Aroutines, nroutines, Arecords, nrecords, Aglobals, nglobals, rfl, hr, ur, mr, hd, ud, md, hg, ug, mg⟩ := ProgT.form hc
 unfold maxLen at mr md mg
 have hwa : Below w.heap.size w (w.alloc (.cells #[.slice Aroutines c.routines.length nroutines, .slice Arecords c.records.length nrecords, .slice Aglobals c.globals.length nglobals, .int .i64 c.main] 31)) := (Below.refl _ _).alloc (Nat.le_refl _) _
 have a1 := Blk.new w 31 #[.slice Aroutines c.routines.length nroutines, .slice Arecords c.records.length nrecords, .slice Aglobals c.globals.length nglobals, .int .i64 c.main]
 clear hc
 have HV : Hid (validProg c = false) := by
  show _ = _
  apply vp_head
  unfold pheadOk
  rw [decide_eq_false (show ¬ c.routines.length ≤ 12 by omega)]
  simp
 go_enter Tryz.func14, Tryz.ntmps14
 go_wp2_with fail
 go_ret
 exact ⟨ret_bool HV.out.symm, hwa⟩
theorem vpS_rec (c : ProgT) (h0 : ¬ c.routines.length < 1) (h1 : ¬ 12 < c.routines.length) (h : 8 < c.records.length) : VpOkS 14 c := by
 intro vc w lo hi hc hhi hbk
 obtain ⟨Aroutines, nroutines, Arecords, nrecords, Aglobals, nglobals, rfl, hr, ur, mr, hd, ud, md, hg, ug, mg⟩ := ProgT.form hc
 unfold maxLen at mr md mg
 have hwa : Below w.heap.size w (w.alloc (.cells #[.slice Aroutines c.routines.length nroutines, .slice Arecords c.records.length nrecords, .slice Aglobals c.globals.length nglobals, .int .i64 c.main] 31)) := (Below.refl _ _).alloc (Nat.le_refl _) _
 have a1 := Blk.new w 31 #[.slice Aroutines c.routines.length nroutines, .slice Arecords c.records.length nrecords, .slice Aglobals c.globals.length nglobals, .int .i64 c.main]
 clear hc
 have HV : Hid (validProg c = false) := vp_recs (recs_big h)
 go_enter Tryz.func14, Tryz.ntmps14
 go_wp2_with fail
 go_ret
 exact ⟨ret_bool HV.out.symm, hwa⟩
theorem vpS_names (c : ProgT) (h0 : ¬ c.routines.length < 1) (h1 : ¬ 12 < c.routines.length) (h2 : ¬ 8 < c.records.length) (h : (c.globals.all isNameB && decide (c.globals.length ≤ 12)) = false) : VpOkS 14 c := by
 intro vc w lo hi hc hhi hbk
 obtain ⟨Aroutines, nroutines, Arecords, nrecords, Aglobals, nglobals, rfl, hr, ur, mr, hd, ud, md, hg, ug, mg⟩ := ProgT.form hc
 unfold maxLen at mr md mg
 have hwa : Below w.heap.size w (w.alloc (.cells #[.slice Aroutines c.routines.length nroutines, .slice Arecords c.records.length nrecords, .slice Aglobals c.globals.length nglobals, .int .i64 c.main] 31)) := (Below.refl _ _).alloc (Nat.le_refl _) _
 have a1 := Blk.new w 31 #[.slice Aroutines c.routines.length nroutines, .slice Arecords c.records.length nrecords, .slice Aglobals c.globals.length nglobals, .int .i64 c.main]
 clear hc
 have HV : Hid (validProg c = false) := by
  show _ = _
  apply vp_head
  unfold pheadOk
  cases hq : c.globals.all isNameB with
  | false => simp
  | true => rw [hq, Bool.true_and] at h; rw [h]; simp
 have HGN := Lib.hid h
 clear h
 go_enter Tryz.func14, Tryz.ntmps14
 go_wp2_with fail
 refine (spec_l7NamesOk c.globals 12 _ _ lo hi (hg.below hwa hhi) (Nat.le_trans hhi hwa.size)).mono ?_; rw [HGN.out]; rintro e w2 ⟨rfl, hb2⟩
 have hw2 := hwa.trans (hb2.mono hwa.size)
 have a2 := a1.later hb2
 have ca := a2.cell
 have la := a2.lt
 clear hb2
 go_wp2_with fail
 go_ret
 exact ⟨ret_bool HV.out.symm, hw2⟩
theorem vpS_main (c : ProgT) (h0 : ¬ c.routines.length < 1) (h1 : ¬ 12 < c.routines.length) (h2 : ¬ 8 < c.records.length) (h3 : (c.globals.all isNameB && decide (c.globals.length ≤ 12)) = true) (h : inB c.main 0 ((c.routines.length : Int) - 1) = false) : VpOkS 14 c := by
 intro vc w lo hi hc hhi hbk
 obtain ⟨Aroutines, nroutines, Arecords, nrecords, Aglobals, nglobals, rfl, hr, ur, mr, hd, ud, md, hg, ug, mg⟩ := ProgT.form hc
 unfold maxLen at mr md mg
 have hwa : Below w.heap.size w (w.alloc (.cells #[.slice Aroutines c.routines.length nroutines, .slice Arecords c.records.length nrecords, .slice Aglobals c.globals.length nglobals, .int .i64 c.main] 31)) := (Below.refl _ _).alloc (Nat.le_refl _) _
 have a1 := Blk.new w 31 #[.slice Aroutines c.routines.length nroutines, .slice Arecords c.records.length nrecords, .slice Aglobals c.globals.length nglobals, .int .i64 c.main]
 clear hc
 have HV : Hid (validProg c = false) := vp_main (by rw [in_lt] at h; rw [pmainOk, h]; rfl)
 have HGN := Lib.hid h3
 have HIN := Lib.hid h
 clear h h3
 go_enter Tryz.func14, Tryz.ntmps14
 go_wp2_with fail
 refine (spec_l7NamesOk c.globals 12 _ _ lo hi (hg.below hwa hhi) (Nat.le_trans hhi hwa.size)).mono ?_; rw [HGN.out]; rintro e w2 ⟨rfl, hb2⟩
 have hw2 := hwa.trans (hb2.mono hwa.size)
 have a2 := a1.later hb2
 have ca := a2.cell
 have la := a2.lt
 clear hb2
 go_wp2_with fail
 refine (spec_l1In c.main 0 ((c.routines.length : Int) - 1) _).mono ?_; rw [HIN.out]; rintro e w3 ⟨rfl, rfl⟩
 go_wp2_with fail
 go_ret
 exact ⟨ret_bool HV.out.symm, hw2⟩
theorem vpS_par (c : ProgT) (h0 : ¬ c.routines.length < 1) (h1 : ¬ 12 < c.routines.length) (h2 : ¬ 8 < c.records.length) (h3 : (c.globals.all isNameB && decide (c.globals.length ≤ 12)) = true) (mn : Nat) (hmn : c.main = mn) (hml : mn < c.routines.length) (r0 : RouT) (hr0 : c.routines[mn]? = some r0) (h : ¬ r0.params = 0) : VpOkS 14 c := by
 intro vc w lo hi hc hhi hbk
 obtain ⟨Aroutines, nroutines, Arecords, nrecords, Aglobals, nglobals, rfl, hr, ur, mr, hd, ud, md, hg, ug, mg⟩ := ProgT.form hc
 unfold maxLen at mr md mg
 have hwa : Below w.heap.size w (w.alloc (.cells #[.slice Aroutines c.routines.length nroutines, .slice Arecords c.records.length nrecords, .slice Aglobals c.globals.length nglobals, .int .i64 c.main] 31)) := (Below.refl _ _).alloc (Nat.le_refl _) _
 have a1 := Blk.new w 31 #[.slice Aroutines c.routines.length nroutines, .slice Arecords c.records.length nrecords, .slice Aglobals c.globals.length nglobals, .int .i64 c.main]
 clear hc
 obtain ⟨g0, off0, As0, ns0, Ak0, nk0, hA0, hg01, hg02, -, -, -, q1, -, -, -, -, -, -, -⟩ := RouT.at_ hr hr0
 subst hA0
 have HMN : Hid (pmainOk c = decide (r0.params = 0)) := by
  show _ = _
  unfold pmainOk
  rw [hmn, decide_eq_true (show (0 : Int) ≤ (mn : Int) by omega), decide_eq_true (show (mn : Int) < (c.routines.length : Int) by omega), Int.toNat_natCast, hr0]
  rfl
 have HIN : Hid (inB (mn : Int) 0 ((c.routines.length : Int) - 1) = true) := by show _ = _; rw [in_lt, decide_eq_true (show (0 : Int) ≤ (mn : Int) by omega), decide_eq_true (show (mn : Int) < (c.routines.length : Int) by omega)]; rfl
 have HGN := Lib.hid h3
 have HMNE := Lib.hid hmn
 clear h3 hr0 hmn
 have HV : Hid (validProg c = false) := vp_main (by rw [HMN.out, decide_eq_false h])
 have f0 : (r0.params != 0) = true := by simpa using h
 have d9 : decide ((c.routines.length : Int) < 1) = false := decide_eq_false (by omega)
 have d10 : decide ((12 : Int) < (c.routines.length : Int)) = false := decide_eq_false (by omega)
 have d11 : decide ((8 : Int) < (c.records.length : Int)) = false := decide_eq_false (by omega)
 go_enter Tryz.func14, Tryz.ntmps14
 go_wp2_with fail
 refine (spec_l7NamesOk c.globals 12 _ _ lo hi (hg.below hwa hhi) (Nat.le_trans hhi hwa.size)).mono ?_; rw [HGN.out]; rintro e w2 ⟨rfl, hb2⟩
 have hw2 := hwa.trans (hb2.mono hwa.size)
 have a2 := a1.later hb2
 have ca := a2.cell
 have la := a2.lt
 clear hb2
 rw [HMNE.out] at ca
 have q1' := (hw2.cell (p := ⟨g0, off0 + mn * 9 + 1, none⟩) (by show g0 < _; omega)).trans q1
 go_wp2_with fail
 refine (spec_l1In (mn : Int) 0 ((c.routines.length : Int) - 1) _).mono ?_; rw [HIN.out]; rintro e w3 ⟨rfl, rfl⟩
 go_wp2_with fail
 go_ret
 exact ⟨ret_bool HV.out.symm, hw2⟩
theorem vpS_ok (c : ProgT) (h0 : ¬ c.routines.length < 1) (h1 : ¬ 12 < c.routines.length) (h2 : ¬ 8 < c.records.length) (h3 : (c.globals.all isNameB && decide (c.globals.length ≤ 12)) = true) (mn : Nat) (hmn : c.main = mn) (hml : mn < c.routines.length) (r0 : RouT) (hr0 : c.routines[mn]? = some r0) (hp : r0.params = 0) : VpOkS 14 c := by
 intro vc w lo hi hc hhi hbk
 obtain ⟨Aroutines, nroutines, Arecords, nrecords, Aglobals, nglobals, rfl, hr, ur, mr, hd, ud, md, hg, ug, mg⟩ := ProgT.form hc
 unfold maxLen at mr md mg
 have hwa : Below w.heap.size w (w.alloc (.cells #[.slice Aroutines c.routines.length nroutines, .slice Arecords c.records.length nrecords, .slice Aglobals c.globals.length nglobals, .int .i64 c.main] 31)) := (Below.refl _ _).alloc (Nat.le_refl _) _
 have a1 := Blk.new w 31 #[.slice Aroutines c.routines.length nroutines, .slice Arecords c.records.length nrecords, .slice Aglobals c.globals.length nglobals, .int .i64 c.main]
 clear hc
 have HHD : Hid (recsOk c.records = true → pheadOk c = true) := fun e => by
  simp only [Bool.and_eq_true, decide_eq_true_eq] at h3
  unfold pheadOk
  rw [decide_eq_true (show 1 ≤ c.routines.length by omega), decide_eq_true (show c.routines.length ≤ 12 by omega), e, decide_eq_true h3.2, h3.1]
  rfl
 have hgl : c.globals.length ≤ 12 := by simp only [Bool.and_eq_true, decide_eq_true_eq] at h3; exact h3.2
 obtain ⟨g0, off0, As0, ns0, Ak0, nk0, hA0, hg01, hg02, -, -, -, q1, -, -, -, -, -, -, -⟩ := RouT.at_ hr hr0
 subst hA0
 have HMN : Hid (pmainOk c = decide (r0.params = 0)) := by
  show _ = _
  unfold pmainOk
  rw [hmn, decide_eq_true (show (0 : Int) ≤ (mn : Int) by omega), decide_eq_true (show (mn : Int) < (c.routines.length : Int) by omega), Int.toNat_natCast, hr0]
  rfl
 have HIN : Hid (inB (mn : Int) 0 ((c.routines.length : Int) - 1) = true) := by show _ = _; rw [in_lt, decide_eq_true (show (0 : Int) ≤ (mn : Int) by omega), decide_eq_true (show (mn : Int) < (c.routines.length : Int) by omega)]; rfl
 have HGN := Lib.hid h3
 have HMNE := Lib.hid hmn
 clear h3 hr0 hmn
 have HMO : Hid (pmainOk c = true) := by show _ = _; rw [HMN.out, decide_eq_true hp]
 have f0 : (r0.params != 0) = false := by simp [hp]
 clear hp
 have d9 : decide ((c.routines.length : Int) < 1) = false := decide_eq_false (by omega)
 have d10 : decide ((12 : Int) < (c.routines.length : Int)) = false := decide_eq_false (by omega)
 have d11 : decide ((8 : Int) < (c.records.length : Int)) = false := decide_eq_false (by omega)
 go_enter Tryz.func14, Tryz.ntmps14
 go_wp2_with fail
 refine (spec_l7NamesOk c.globals 12 _ _ lo hi (hg.below hwa hhi) (Nat.le_trans hhi hwa.size)).mono ?_; rw [HGN.out]; rintro e w2 ⟨rfl, hb2⟩
 have hw2 := hwa.trans (hb2.mono hwa.size)
 have a2 := a1.later hb2
 have ca := a2.cell
 have la := a2.lt
 clear hb2
 rw [HMNE.out] at ca
 have q1' := (hw2.cell (p := ⟨g0, off0 + mn * 9 + 1, none⟩) (by show g0 < _; omega)).trans q1
 go_wp2_with fail
 refine (spec_l1In (mn : Int) 0 ((c.routines.length : Int) - 1) _).mono ?_; rw [HIN.out]; rintro e w3 ⟨rfl, rfl⟩
 go_wp2_with fail
 clear ca la q1 q1'
 go_loopg [3] c.records.length (fun gk i wx => ∃ k : Nat, k ≤ c.records.length ∧ i = .int .i64 k ∧ Hid ((c.records.take k).all recOk = true) ∧ Below w2.heap.size w2 wx ∧ gk = c.records.length - k)
 case atStart => exact ⟨0, Nat.zero_le _, rfl, by simp [Hid], Below.refl _ _, rfl⟩
 case round =>
  obtain ⟨k, hk, rfl, hgo, hb, hgk⟩ := hrel
  have HGK := Lib.hid hgk
  clear hgk
  have hw4 : Below w.heap.size w wr := hw2.trans (hb.mono hw2.size)
  have a4 := a2.later hb
  have ca := a4.cell
  have la := a4.lt
  by_cases hlt : k < c.records.length
  ·obtain ⟨r, hrk⟩ : ∃ r, c.records[k]? = some r := ⟨_, List.getElem?_eq_getElem hlt⟩
   obtain ⟨g, off, Af, nf, hA, hg1, hg2, hmem, hcr, q0, q1, q2⟩ := RecT.at_ (hd.below hw4 hhi) hrk
   subst hA
   have hfl := RecT.rows hcr
   have HB : Hid (recOk r = (isNameB r.name && decide (r.fields.length ≤ 6) && r.fields.all isNameB && !twiceB r.fields && decide (0 ≤ r.line))) := rfl
   have HS := Lib.hid (all_snoc (q := recOk) hrk)
   have HM : Hid (recOk r = false → validProg c = false) := fun e => vp_recs (recs_no (all_no hmem e))
   have hwr : Below w.heap.size w (wr.alloc (.cells #[Value.string r.name, .slice Af r.fields.length nf, .int .i64 r.line] 68)) := hw4.alloc hw4.size _
   have b4 := Blk.new wr 68 #[Value.string r.name, .slice Af r.fields.length nf, .int .i64 r.line]
   have hf0 := hfl.alloc (Nat.le_trans hhi hw4.size) (.cells #[Value.string r.name, .slice Af r.fields.length nf, .int .i64 r.line] 68)
   clear hrk hmem hcr hfl
   cases n1 : isNameB r.name with
   | false =>
     have HV : Hid (validProg c = false) := HM.out (by rw [HB.out, n1]; simp)
     have N1 := Lib.hid n1
     clear n1 hgo
     go_wp2_with fail
     refine (spec_IsName r.name _).mono ?_; rw [N1.out]; rintro e w5 ⟨rfl, hb5⟩
     have hw5 := hwr.trans (hb5.mono hwr.size)
     have b5 := b4.later hb5
     have hf5 := hf0.below hb5 (Nat.le_trans (Nat.le_trans hhi hw4.size) (by simp))
     clear ca la q0 q1 q2
     have ca := b5.cell
     have la := b5.lt
     go_wp2_with fail
     go_ret
     exact ⟨ret_bool HV.out.symm, hw5⟩
   | true =>
   have N1 := Lib.hid n1
   clear n1
   cases n2 : (r.fields.all isNameB && decide (r.fields.length ≤ 6)) with
   | false =>
     have HV : Hid (validProg c = false) := HM.out (by rw [HB.out]; cases hq : r.fields.all isNameB with | false => simp | true => (rw [hq, Bool.true_and] at n2; rw [n2]; simp))
     have N2 := Lib.hid n2
     clear n2 hgo
     go_wp2_with fail
     refine (spec_IsName r.name _).mono ?_; rw [N1.out]; rintro e w5 ⟨rfl, hb5⟩
     have hw5 := hwr.trans (hb5.mono hwr.size)
     have b5 := b4.later hb5
     have hf5 := hf0.below hb5 (Nat.le_trans (Nat.le_trans hhi hw4.size) (by simp))
     clear ca la q0 q1 q2
     have ca := b5.cell
     have la := b5.lt
     go_wp2_with fail
     refine (spec_l7NamesOk r.fields 6 _ _ lo hi hf5 (Nat.le_trans hhi hw5.size)).mono ?_; rw [N2.out]; rintro e w6 ⟨rfl, hb6⟩
     have hw6 := hw5.trans (hb6.mono hw5.size)
     have b6 := b5.later hb6
     have hf6 := hf5.below hb6 (Nat.le_trans hhi hw5.size)
     clear ca la
     have ca := b6.cell
     have la := b6.lt
     go_wp2_with fail
     go_ret
     exact ⟨ret_bool HV.out.symm, hw6⟩
   | true =>
   have N2 := Lib.hid n2
   have n2' : r.fields.all isNameB = true ∧ r.fields.length ≤ 6 := by simpa using n2
   have HN2 := Lib.hid n2'
   clear n2 n2'
   cases n3 : twiceB r.fields with
   | true =>
     have HV : Hid (validProg c = false) := HM.out (by rw [HB.out, n3]; simp)
     have N3 := Lib.hid n3
     clear n3 hgo
     go_wp2_with fail
     refine (spec_IsName r.name _).mono ?_; rw [N1.out]; rintro e w5 ⟨rfl, hb5⟩
     have hw5 := hwr.trans (hb5.mono hwr.size)
     have b5 := b4.later hb5
     have hf5 := hf0.below hb5 (Nat.le_trans (Nat.le_trans hhi hw4.size) (by simp))
     clear ca la q0 q1 q2
     have ca := b5.cell
     have la := b5.lt
     go_wp2_with fail
     refine (spec_l7NamesOk r.fields 6 _ _ lo hi hf5 (Nat.le_trans hhi hw5.size)).mono ?_; rw [N2.out]; rintro e w6 ⟨rfl, hb6⟩
     have hw6 := hw5.trans (hb6.mono hw5.size)
     have b6 := b5.later hb6
     have hf6 := hf5.below hb6 (Nat.le_trans hhi hw5.size)
     clear ca la
     have ca := b6.cell
     have la := b6.lt
     go_wp2_with fail
     refine (spec_l9Twice r.fields _ _ lo hi hf6).mono ?_; rw [N3.out]; rintro e w7 ⟨rfl, rfl⟩
     go_wp2_with fail
     go_ret
     exact ⟨ret_bool HV.out.symm, hw6⟩
   | false =>
   have N3 := Lib.hid n3
   clear n3
   by_cases n4 : r.line < 0
   ·have HV : Hid (validProg c = false) := HM.out (by rw [HB.out, decide_eq_false (show ¬ 0 ≤ r.line by omega)]; simp)
    clear hgo
    go_wp2_with fail
    refine (spec_IsName r.name _).mono ?_; rw [N1.out]; rintro e w5 ⟨rfl, hb5⟩
    have hw5 := hwr.trans (hb5.mono hwr.size)
    have b5 := b4.later hb5
    have hf5 := hf0.below hb5 (Nat.le_trans (Nat.le_trans hhi hw4.size) (by simp))
    clear ca la q0 q1 q2
    have ca := b5.cell
    have la := b5.lt
    go_wp2_with fail
    refine (spec_l7NamesOk r.fields 6 _ _ lo hi hf5 (Nat.le_trans hhi hw5.size)).mono ?_; rw [N2.out]; rintro e w6 ⟨rfl, hb6⟩
    have hw6 := hw5.trans (hb6.mono hw5.size)
    have b6 := b5.later hb6
    have hf6 := hf5.below hb6 (Nat.le_trans hhi hw5.size)
    clear ca la
    have ca := b6.cell
    have la := b6.lt
    go_wp2_with fail
    refine (spec_l9Twice r.fields _ _ lo hi hf6).mono ?_; rw [N3.out]; rintro e w7 ⟨rfl, rfl⟩
    go_wp2_with fail
    go_ret
    exact ⟨ret_bool HV.out.symm, hw6⟩
   have HG : Hid ((c.records.take (k + 1)).all recOk = true) := by show _ = _; rw [HS.out, hgo.out, HB.out, N1.out, decide_eq_true HN2.out.2, HN2.out.1, N3.out, decide_eq_true (show 0 ≤ r.line by omega)]; rfl
   clear hgo
   go_wp2_with fail
   refine (spec_IsName r.name _).mono ?_; rw [N1.out]; rintro e w5 ⟨rfl, hb5⟩
   have hw5 := hwr.trans (hb5.mono hwr.size)
   have b5 := b4.later hb5
   have hf5 := hf0.below hb5 (Nat.le_trans (Nat.le_trans hhi hw4.size) (by simp))
   clear ca la q0 q1 q2
   have ca := b5.cell
   have la := b5.lt
   go_wp2_with fail
   refine (spec_l7NamesOk r.fields 6 _ _ lo hi hf5 (Nat.le_trans hhi hw5.size)).mono ?_; rw [N2.out]; rintro e w6 ⟨rfl, hb6⟩
   have hw6 := hw5.trans (hb6.mono hw5.size)
   have b6 := b5.later hb6
   have hf6 := hf5.below hb6 (Nat.le_trans hhi hw5.size)
   clear ca la
   have ca := b6.cell
   have la := b6.lt
   go_wp2_with fail
   refine (spec_l9Twice r.fields _ _ lo hi hf6).mono ?_; rw [N3.out]; rintro e w7 ⟨rfl, rfl⟩
   go_wp2_with fail
   go_roundg (c.records.length - (k + 1))
   case measure => have := HGK.out; omega
   case rel => exact ⟨k + 1, by omega, by go_num, HG, ((hb.alloc hb.size _).trans (hb5.mono (Nat.le_trans hb.size (by simp)))).trans (hb6.mono (Nat.le_trans hb.size (Nat.le_trans (by simp) hb5.size))), rfl⟩
  ·obtain rfl : k = c.records.length := by omega
   rw [List.take_length] at hgo
   have HRC : Hid (pheadOk c = true) := HHD.out (by rw [recsOk, hgo.out, decide_eq_true (show c.records.length ≤ 8 by omega)]; rfl)
   clear hgo
   go_wp2_with fail
   clear ca la
   obtain ⟨wA, rfl⟩ : ∃ wA : World, wA = wr := ⟨_, rfl⟩
   clear hb HGK
   go_loopg [5, 6] c.routines.length (fun gk n i wx => ∃ k : Nat, k ≤ c.routines.length ∧ i = .int .i64 k ∧ n = .int .i64 (sumOf bodyNodes (c.routines.take k) : Nat) ∧ Hid ((c.routines.take k).all (routOk c) = true) ∧ Below wA.heap.size wA wx ∧ gk = c.routines.length - k)
   case atStart => exact ⟨0, Nat.zero_le _, rfl, by simp [sumOf], by simp [Hid], Below.refl _ _, rfl⟩
   case round =>
    obtain ⟨k, hk, rfl, rfl, hgo, hb, hgk⟩ := hrel
    have HGK := Lib.hid hgk
    clear hgk
    have hw6 : Below w.heap.size w wr := hw4.trans (hb.mono hw4.size)
    have a6 := a4.later hb
    have ca := a6.cell
    have la := a6.lt
    by_cases hlt : k < c.routines.length
    ·obtain ⟨r, hrk⟩ : ∃ r, c.routines[k]? = some r := ⟨_, List.getElem?_eq_getElem hlt⟩
     obtain ⟨g, off, As, ns, Ak, nk, hA, hg1, hg2, hmem, hcr, q0, q1, q2, q3, q4, q5, q6, q7, q8⟩ := RouT.at_ (hr.below hw6 hhi) hrk
     injection hA with hA
     injection hA with hA1 hA2
     subst hA1 hA2
     obtain ⟨hsl, hkd⟩ := RouT.rows hcr
     have HS := Lib.hid (all_snoc (q := routOk c) hrk)
     have HSN := Lib.hid (sumOf_snoc (b := bodyNodes) hrk)
     have HM : Hid (routOk c r = false → validProg c = false) := fun e => vp_rout (all_no hmem e)
     have HB : Hid (routOk c r = (isNameB r.name && decide (r.slots.length ≤ 24) && decide (0 ≤ r.params) && decide (r.params ≤ r.slots.length) && r.slots.all slotOk && decide (r.body.depth ≤ 400) && validT (progD c r) r.body false false)) := rfl
     have hrb : r.bulk ≤ 1048576 := by have h1 := sumOf_mem (b := RouT.bulk) hmem; unfold ProgT.bulk at hbk; omega
     have hbb : r.body.bulk ≤ 1048576 := by unfold RouT.bulk at hrb; omega
     have hsz : sumOf bodyNodes (c.routines.take (k + 1)) ≤ 20000000 := by
      have h1 := rout_big (c.routines.take (k + 1)) (fun y hy => by have h2 := sumOf_mem (b := RouT.bulk) (List.mem_of_mem_take hy); unfold ProgT.bulk at hbk; have h3 : y.body.bulk ≤ y.bulk := (by unfold RouT.bulk; omega); omega)
      have h4 : (c.routines.take (k + 1)).length ≤ 12 := by rw [List.length_take]; omega
      omega
     have hwr : Below w.heap.size w (wr.alloc (.cells #[Value.string r.name, .int .i64 r.params, .slice As r.slots.length ns, .int .i64 r.body.kind, .int .i64 r.body.op, .int .i64 r.body.number, .int .i64 r.body.line, .string r.body.text, .slice Ak r.body.kids.length nk] 47)) := hw6.alloc hw6.size _
     have b6 := Blk.new wr 47 #[Value.string r.name, .int .i64 r.params, .slice As r.slots.length ns, .int .i64 r.body.kind, .int .i64 r.body.op, .int .i64 r.body.number, .int .i64 r.body.line, .string r.body.text, .slice Ak r.body.kids.length nk]
     have a7 := a6.alloc (.cells #[Value.string r.name, .int .i64 r.params, .slice As r.slots.length ns, .int .i64 r.body.kind, .int .i64 r.body.op, .int .i64 r.body.number, .int .i64 r.body.line, .string r.body.text, .slice Ak r.body.kids.length nk] 47)
     have hsl0 := hsl.alloc (Nat.le_trans hhi hw6.size) (.cells #[Value.string r.name, .int .i64 r.params, .slice As r.slots.length ns, .int .i64 r.body.kind, .int .i64 r.body.op, .int .i64 r.body.number, .int .i64 r.body.line, .string r.body.text, .slice Ak r.body.kids.length nk] 47)
     have hkd0 := hkd.alloc (Nat.le_trans hhi hw6.size) (.cells #[Value.string r.name, .int .i64 r.params, .slice As r.slots.length ns, .int .i64 r.body.kind, .int .i64 r.body.op, .int .i64 r.body.number, .int .i64 r.body.line, .string r.body.text, .slice Ak r.body.kids.length nk] 47)
     clear hrk hmem hcr hsl hkd
     cases n1 : isNameB r.name with
     | false =>
       have HV : Hid (validProg c = false) := HM.out (by rw [HB.out, n1]; simp)
       have N1 := Lib.hid n1
       clear n1 hgo
       go_wp2_with fail
       refine (spec_IsName r.name _).mono ?_; rw [N1.out]; rintro e w8 ⟨rfl, hb8⟩
       have hw8 := hwr.trans (hb8.mono hwr.size)
       have b8 := b6.later hb8
       have a8 := a7.later hb8
       have hsl8 := hsl0.below hb8 (Nat.le_trans (Nat.le_trans hhi hw6.size) (by simp))
       have hkd8 := hkd0.below hb8 (Nat.le_trans (Nat.le_trans hhi hw6.size) (by simp))
       have bt8 : Below wA.heap.size wA w8 := (hb.alloc hb.size _).trans (hb8.mono (Nat.le_trans hb.size (by simp)))
       clear ca la q0 q1 q2 q3 q4 q5 q6 q7 q8
       have ca := a8.cell
       have la := a8.lt
       have cb := b8.cell
       have lb := b8.lt
       go_wp2_with fail
       go_ret
       exact ⟨ret_bool HV.out.symm, hw8⟩
     | true =>
     have N1 := Lib.hid n1
     clear n1
     by_cases n2 : 24 < r.slots.length
     ·have HV : Hid (validProg c = false) := HM.out (by rw [HB.out, decide_eq_false (show ¬ r.slots.length ≤ 24 by omega)]; simp)
      clear hgo
      go_wp2_with fail
      refine (spec_IsName r.name _).mono ?_; rw [N1.out]; rintro e w8 ⟨rfl, hb8⟩
      have hw8 := hwr.trans (hb8.mono hwr.size)
      have b8 := b6.later hb8
      have a8 := a7.later hb8
      have hsl8 := hsl0.below hb8 (Nat.le_trans (Nat.le_trans hhi hw6.size) (by simp))
      have hkd8 := hkd0.below hb8 (Nat.le_trans (Nat.le_trans hhi hw6.size) (by simp))
      have bt8 : Below wA.heap.size wA w8 := (hb.alloc hb.size _).trans (hb8.mono (Nat.le_trans hb.size (by simp)))
      clear ca la q0 q1 q2 q3 q4 q5 q6 q7 q8
      have ca := a8.cell
      have la := a8.lt
      have cb := b8.cell
      have lb := b8.lt
      go_wp2_with fail
      go_ret
      exact ⟨ret_bool HV.out.symm, hw8⟩
     cases n3 : inB r.params 0 (r.slots.length : Int) with
     | false =>
       have HV : Hid (validProg c = false) := HM.out (by rw [HB.out, Bool.and_assoc (isNameB r.name && decide (r.slots.length ≤ 24))]; unfold inB at n3; rw [n3]; simp)
       have N3 := Lib.hid n3
       clear n3 hgo
       go_wp2_with fail
       refine (spec_IsName r.name _).mono ?_; rw [N1.out]; rintro e w8 ⟨rfl, hb8⟩
       have hw8 := hwr.trans (hb8.mono hwr.size)
       have b8 := b6.later hb8
       have a8 := a7.later hb8
       have hsl8 := hsl0.below hb8 (Nat.le_trans (Nat.le_trans hhi hw6.size) (by simp))
       have hkd8 := hkd0.below hb8 (Nat.le_trans (Nat.le_trans hhi hw6.size) (by simp))
       have bt8 : Below wA.heap.size wA w8 := (hb.alloc hb.size _).trans (hb8.mono (Nat.le_trans hb.size (by simp)))
       clear ca la q0 q1 q2 q3 q4 q5 q6 q7 q8
       have ca := a8.cell
       have la := a8.lt
       have cb := b8.cell
       have lb := b8.lt
       go_wp2_with fail
       refine (spec_l1In r.params 0 (r.slots.length : Int) _).mono ?_; rw [N3.out]; rintro e w9 ⟨rfl, rfl⟩
       go_wp2_with fail
       go_ret
       exact ⟨ret_bool HV.out.symm, hw8⟩
     | true =>
     have n3' : 0 ≤ r.params ∧ r.params ≤ r.slots.length := by unfold inB at n3; simpa using n3
     have HN3 := Lib.hid n3'
     have N3 := Lib.hid n3
     clear n3 n3'
     go_wp2_with fail
     refine (spec_IsName r.name _).mono ?_; rw [N1.out]; rintro e w8 ⟨rfl, hb8⟩
     have hw8 := hwr.trans (hb8.mono hwr.size)
     have b8 := b6.later hb8
     have a8 := a7.later hb8
     have hsl8 := hsl0.below hb8 (Nat.le_trans (Nat.le_trans hhi hw6.size) (by simp))
     have hkd8 := hkd0.below hb8 (Nat.le_trans (Nat.le_trans hhi hw6.size) (by simp))
     have bt8 : Below wA.heap.size wA w8 := (hb.alloc hb.size _).trans (hb8.mono (Nat.le_trans hb.size (by simp)))
     clear ca la q0 q1 q2 q3 q4 q5 q6 q7 q8
     have ca := a8.cell
     have la := a8.lt
     have cb := b8.cell
     have lb := b8.lt
     go_wp2_with fail
     refine (spec_l1In r.params 0 (r.slots.length : Int) _).mono ?_; rw [N3.out]; rintro e w9 ⟨rfl, rfl⟩
     go_wp2_with fail
     clear ca la cb lb
     go_loopg [8] r.slots.length (fun gk i wx => ∃ j : Nat, j ≤ r.slots.length ∧ i = .int .i64 j ∧ Hid ((r.slots.take j).all slotOk = true) ∧ Below w8.heap.size w8 wx ∧ gk = r.slots.length - j)
     case atStart => exact ⟨0, Nat.zero_le _, rfl, by simp [Hid], Below.refl _ _, rfl⟩
     case round =>
      obtain ⟨j, hj, rfl, hgs, hbs, hgk⟩ := hrel
      have HGJ := Lib.hid hgk
      clear hgk
      have hw9 : Below w.heap.size w wr := hw8.trans (hbs.mono hw8.size)
      have b9 := b8.later hbs
      have a9 := a8.later hbs
      have cb := b9.cell
      have lb := b9.lt
      have ca := a9.cell
      have la := a9.lt
      by_cases hlj : j < r.slots.length
      ·obtain ⟨s, hs⟩ : ∃ s, r.slots[j]? = some s := ⟨_, List.getElem?_eq_getElem hlj⟩
       obtain ⟨gs, os, rfl, hgs1, hgs2, t0⟩ := LRep.text (hsl8.below hbs (Nat.le_trans hhi hw8.size)) hs
       have HSS := Lib.hid (all_snoc (q := slotOk) hs)
       have HMS : Hid (slotOk s = false → validProg c = false) := fun e => HM.out (by rw [HB.out, all_no (List.mem_of_getElem? hs) e]; simp)
       have HSO : Hid (slotOk s = (s.toList.isEmpty || isNameB s)) := rfl
       clear hs
       cases e1 : s.toList.isEmpty with
       | true =>
         have h1 : s.toList = [] := by simpa using e1
         have HG : Hid ((r.slots.take (j + 1)).all slotOk = true) := by show _ = _; rw [HSS.out, hgs.out, HSO.out, e1]; rfl
         clear hgs e1
         go_wp2_with fail
         go_roundg (r.slots.length - (j + 1))
         case measure => have := HGJ.out; omega
         case rel => exact ⟨j + 1, by omega, by go_num, HG, hbs, rfl⟩
       | false =>
         have h1 : ¬ s.toList = [] := by intro h; rw [h] at e1; cases e1
         have e3 : (!s.toList.isEmpty) = true := by rw [e1]; rfl
         cases e2 : isNameB s with
         | false =>
           have HV : Hid (validProg c = false) := HMS.out (by rw [HSO.out, e1, e2]; rfl)
           have N4 := Lib.hid e2
           clear e1 e2 hgs hgo
           go_wp2_with fail
           refine (spec_IsName s _).mono ?_; rw [N4.out]; rintro e wx ⟨rfl, hbx⟩
           have hwx := hw9.trans (hbx.mono hw9.size)
           go_wp2_with fail
           go_ret
           exact ⟨ret_bool HV.out.symm, hwx⟩
         | true =>
           have HG : Hid ((r.slots.take (j + 1)).all slotOk = true) := by show _ = _; rw [HSS.out, hgs.out, HSO.out, e1, e2]; rfl
           have N4 := Lib.hid e2
           clear e1 e2 hgs
           go_wp2_with fail
           refine (spec_IsName s _).mono ?_; rw [N4.out]; rintro e wx ⟨rfl, hbx⟩
           have hbs2 := hbs.trans (hbx.mono hbs.size)
           clear t0 ca la cb lb
           go_wp2_with fail
           go_roundg (r.slots.length - (j + 1))
           case measure => have := HGJ.out; omega
           case rel => exact ⟨j + 1, by omega, by go_num, HG, hbs2, rfl⟩
      ·obtain rfl : j = r.slots.length := by omega
       rw [List.take_length] at hgs
       have HBB : Hid (routOk c r = (decide (r.body.depth ≤ 400) && validT (progD c r) r.body false false)) := by show _ = _; rw [HB.out, N1.out, decide_eq_true (show r.slots.length ≤ 24 by omega), decide_eq_true HN3.out.1, decide_eq_true HN3.out.2, hgs.out]; rfl
       clear hgs
       have hkd9 := hkd8.below hbs (Nat.le_trans hhi hw8.size)
       have HVS : Hid (validS (progD c r) r.body false false 1 = routOk c r) := by show _ = _; rw [HBB.out, validS, Bool.and_comm]; congr 1; rw [Bool.eq_iff_iff]; simp only [decide_eq_true_eq]; omega
       have hz9 : hi ≤ wr.heap.size := Nat.le_trans hhi hw9.size
       have HC := Lib.hid (spec_l10Valid (progD c r) (by show r.slots.length ≤ 1048576; omega) (by show c.globals.length ≤ 1048576; omega) (by show c.routines.length ≤ 1048576; omega) (by show c.records.length ≤ 1048576; omega) r.body (some ⟨g0, off0, none⟩) Arecords Aglobals nroutines nrecords nglobals c.main (.agg #[.int .i64 r.body.kind, .int .i64 r.body.op, .int .i64 r.body.number, .int .i64 r.body.line, .string r.body.text, .slice Ak r.body.kids.length nk]) false false 1 wr lo hi (CoreT.mk_ hkd9) hz9 hbb (by decide) (by decide))
       cases hv : routOk c r with
       | false =>
         have HV : Hid (validProg c = false) := HM.out hv
         rw [hv] at HVS
         clear hv hgo
         go_wp2_with fail
         refine HC.out.mono ?_; rw [HVS.out]; rintro e wx ⟨rfl, hbx⟩
         have hwx := hw9.trans (hbx.mono hw9.size)
         go_wp2_with fail
         go_ret
         exact ⟨ret_bool HV.out.symm, hwx⟩
       | true =>
         have HG : Hid ((c.routines.take (k + 1)).all (routOk c) = true) := by show _ = _; rw [HS.out, hgo.out, hv]; rfl
         rw [hv] at HVS
         clear hv hgo
         go_wp2_with fail
         refine HC.out.mono ?_; rw [HVS.out]; rintro e wx ⟨rfl, hbx⟩
         have hwx := hw9.trans (hbx.mono hw9.size)
         have bx := b9.later hbx
         have hkx := hkd9.below hbx hz9
         clear ca la cb lb HC
         have cb := bx.cell
         have lb := bx.lt
         have HNC := Lib.hid (spec_CountCore r.body (.agg #[.int .i64 r.body.kind, .int .i64 r.body.op, .int .i64 r.body.number, .int .i64 r.body.line, .string r.body.text, .slice Ak r.body.kids.length nk]) wx lo hi (CoreT.mk_ hkx) (Nat.le_trans hhi hwx.size) hbb)
         have hsum : sumOf bodyNodes (c.routines.take k) + r.body.nodes ≤ 20000000 := by rw [HSN.out] at hsz; exact hsz
         go_wp2_with fail
         refine HNC.out.mono ?_; rintro e wy ⟨rfl, hby⟩
         have bty := (bt8.trans (hbs.mono bt8.size)).trans ((hbx.trans (hby.mono hbx.size)).mono (Nat.le_trans bt8.size hbs.size))
         clear cb lb HNC
         go_wp2_with fail
         go_roundg (c.routines.length - (k + 1))
         case measure => have := HGK.out; omega
         case rel => exact ⟨k + 1, by omega, by go_num, by rw [HSN.out]; show _ = Value.int .i64 ((sumOf bodyNodes (c.routines.take k) + r.body.nodes : Nat) : Int); go_num, HG, bty, rfl⟩
    ·obtain rfl : k = c.routines.length := by omega
     rw [List.take_length] at hgo ⊢
     have HV := Lib.hid (vp_yes HRC.out HMO.out hgo.out)
     clear hgo
     go_wp2_with fail
     go_ret
     exact ⟨ret_bool (by rw [HV.out, Bool.eq_iff_iff, decide_eq_true_eq, decide_eq_true_eq]; omega), hw6⟩
theorem spec_IsValidProgram (c : ProgT) : VpOkS 14 c := by
 by_cases h0 : c.routines.length < 1
 ·exact vpS_r1 c h0
 by_cases h1 : 12 < c.routines.length
 ·exact vpS_r12 c h0 h1
 by_cases h2 : 8 < c.records.length
 ·exact vpS_rec c h0 h1 h2
 cases h3 : (c.globals.all isNameB && decide (c.globals.length ≤ 12)) with
 | false => exact vpS_names c h0 h1 h2 h3
 | true =>
   cases h4 : inB c.main 0 ((c.routines.length : Int) - 1) with
   | false => exact vpS_main c h0 h1 h2 h3 h4
   | true =>
     unfold inB at h4
     simp only [Bool.and_eq_true, decide_eq_true_eq] at h4
     obtain ⟨mn, hmn⟩ : ∃ mn : Nat, c.main = mn := ⟨c.main.toNat, by omega⟩
     have hml : mn < c.routines.length := by omega
     obtain ⟨r0, hr0⟩ : ∃ r0, c.routines[mn]? = some r0 := ⟨_, List.getElem?_eq_getElem hml⟩
     by_cases hp : r0.params = 0
     ·exact vpS_ok c h0 h1 h2 h3 mn hmn hml r0 hr0 hp
     ·exact vpS_par c h0 h1 h2 h3 mn hmn hml r0 hr0 hp
end Go.Proofs.YtjeomamdlmoghaaGreatDoor
end
