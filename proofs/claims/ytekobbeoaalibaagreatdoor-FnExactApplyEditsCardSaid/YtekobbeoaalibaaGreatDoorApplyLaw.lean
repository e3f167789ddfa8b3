/- The law FnExactApplyEdits: it returns true and writes nothing that was there. -/
import Derived.Test.YtekobbeoaalibaaGreatDoorApAll
import Derived.Test.YtekobbeoaalibaaGreatDoorMarkAll
import Derived.Test.YtekobbeoaalibaaGreatDoorLawsAll
import Derived.Deep.RegionHeld3
namespace Go.Proofs.YtekobbeoaalibaaGreatDoor
open Go.RowKit
set_option linter.unusedVariables false

set_option maxRecDepth 100000 in
set_option maxHeartbeats 8000000 in
theorem law_ApplyEdits (x0 v0 : Value) (c : CodeT) (es : List EditT) (w : World) (lo hi : Nat) (h : SRep w lo hi CodeT.dats x0 c) (he : LRep w lo hi 2 EditT.dats v0 es) (hhi : hi ≤ w.heap.size) (hf : c.Fits) (hst : SpaceTab w) :
    Calls Tryz.prog 7 #[x0, v0] w fun e w' => e = .returned (.bool true) ∧ Below w.heap.size w w' := by
  obtain ⟨Aroutines, nroutines, Arecords, nrecords, Aglobals, nglobals, Ainstrs, ninstrs, rfl, -⟩ := CodeT.form h
  obtain ⟨Ae, ce, rfl, hce, hcm⟩ := he.shape
  unfold maxLen at hcm
  have hw : Below w.heap.size w (w.alloc (.cells #[Value.slice Aroutines c.routines.length nroutines, .slice Arecords c.records.length nrecords, .slice Aglobals c.globals.length nglobals, .int .i64 c.main, .slice Ainstrs c.instrs.length ninstrs] 27)) := (Below.refl _ _).alloc (Nat.le_refl _) _
  obtain ⟨vb, hvb⟩ : ∃ b, applyB c es = b := ⟨_, rfl⟩
  have hrr : (vb != vb) = false := by cases vb <;> rfl
  have HV := Lib.hid hvb
  clear hvb
  have hcnt := apply_cnt c es
  generalize hl0 : applyC c es = cc at hcnt
  have HL := Lib.hid hl0
  clear hl0
  go_enter Tryz.func7, Tryz.ntmps7
  go_wp2_with fail
  refine (szCode_any c _ _ _ _ _ (h.below hw hhi) (by simp; omega) (by omega) (by omega) hf).mono ?_; rintro e w1 ⟨rfl, hb⟩
  have z1 : w.heap.size < w1.heap.size := by have hh := hb.size; simp at hh; omega
  have ba := (Blk.new w 27 #[Value.slice Aroutines c.routines.length nroutines, .slice Arecords c.records.length nrecords, .slice Aglobals c.globals.length nglobals, .int .i64 c.main, .slice Ainstrs c.instrs.length ninstrs]).later hb
  replace hw := hw.trans (hb.mono hw.size)
  clear hb
  have cba := ba.cell
  have lba := ba.lt
  by_cases hk1 : (1048576 : Int) < c.bulk
  · rw [leftOf_no hk1]
    go_wp2_with fail
    go_ret
    exact ⟨rfl, hw⟩
  rw [leftOf_yes hk1]
  have hbk : c.bulk ≤ 1048576 := by omega
  have htx : ∀ y ∈ c.instrs, y.text.size ≤ 1048576 := fun y hy => by have h1 : y.text.size ≤ sumOf InsT.bulk c.instrs := sumOf_mem (b := InsT.bulk) hy; unfold CodeT.bulk at hbk; omega
  have HTX := Lib.hid htx
  clear htx
  have hcc := CodeT.cnt_le c
  go_wp2_with fail
  refine (szEditS_any es _ _ _ _ _ (he.below hw hhi) (by omega) (by omega)).mono ?_; rintro e wz ⟨rfl, hwz⟩; have hwz := hwz.symm; subst hwz
  by_cases hk2 : (1048576 : Int) - (c.bulk : Nat) < es.length
  · rw [leftOf_no hk2]
    go_wp2_with fail
    go_ret
    exact ⟨rfl, hw⟩
  rw [leftOf_yes hk2]
  have hel : es.length ≤ 1048576 := by omega
  have hec := edits_cnt es
  clear cba lba
  have cba := ba.cell
  have lba := ba.lt
  go_wp2_with fail
  refine (toCode_any c _ _ _ _ (h.below hw hhi) (Nat.le_trans hhi hw.size) hbk).mono ?_; rintro e w2 ⟨x1, rfl, hx, hb⟩
  have z2 : w1.heap.size ≤ w2.heap.size := by have hh := hb.size; first | exact hh | (simp at hh; omega)
  clear cba lba
  replace ba := ba.later hb
  replace hw := hw.trans (hb.mono hw.size)
  clear hb
  have yhx : w2.heap.size ≤ w2.heap.size := Nat.le_refl _
  have cba := ba.cell
  have lba := ba.lt
  go_wp2_with fail
  refine (toEditS_any es _ _ _ _ (he.below hw hhi) (Nat.le_trans hhi hw.size) (by rw [sumEdit0]; omega)).mono ?_; rintro e w3 ⟨v1, rfl, hv, hb⟩
  have z3 : w2.heap.size ≤ w3.heap.size := by have hh := hb.size; first | exact hh | (simp at hh; omega)
  clear cba lba
  replace ba := ba.later hb
  replace hx := hx.below hb yhx
  replace yhx := Nat.le_trans yhx hb.size
  replace hw := hw.trans (hb.mono hw.size)
  clear hb
  have yhv : w3.heap.size ≤ w3.heap.size := Nat.le_refl _
  have cba := ba.cell
  have lba := ba.lt
  go_wp2_with fail
  refine (spec_ApplyEdits c _ _ es _ 0 _ (hx.wide (Nat.zero_le _) yhx) (hv.wide (Nat.zero_le _) yhv) (Nat.le_refl _) HTX.out hbk).mono ?_; rintro e w4 ⟨cs, rfl, gs, hb⟩
  have z4 : w3.heap.size ≤ w4.heap.size := by have hh := hb.size; first | exact hh | (simp at hh; omega)
  clear cba lba
  replace ba := ba.later hb
  replace hx := hx.below hb yhx
  replace yhx := Nat.le_trans yhx hb.size
  replace hv := hv.below hb yhv
  replace yhv := Nat.le_trans yhv hb.size
  replace hw := hw.trans (hb.mono hw.size)
  clear hb
  clear hx yhx
  clear hv yhv
  rw [HV.out]
  rw [HL.out] at gs
  obtain ⟨Sroutines, sroutines, Srecords, srecords, Sglobals, sglobals, Sinstrs, sinstrs, hcs, -⟩ := CodeT.form ⟨cs, rfl, gs.rep⟩
  obtain rfl : cs = [Value.slice Sroutines cc.routines.length sroutines, .slice Srecords cc.records.length srecords, .slice Sglobals cc.globals.length sglobals, .int .i64 cc.main, .slice Sinstrs cc.instrs.length sinstrs] := congrArg Array.toList (Value.agg.inj hcs)
  clear hcs
  replace gs : SRep w4 _ _ CodeT.dats (.agg #[Value.slice Sroutines cc.routines.length sroutines, .slice Srecords cc.records.length srecords, .slice Sglobals cc.globals.length sglobals, .int .i64 cc.main, .slice Sinstrs cc.instrs.length sinstrs]) cc := ⟨_, rfl, gs.rep⟩
  have ygs : w4.heap.size ≤ w4.heap.size := Nat.le_refl _
  have cba := ba.cell
  have lba := ba.lt
  go_wp2_with fail
  clear cba lba
  have kbw : Below w4.heap.size w4 (w4.alloc (.cells #[Value.slice Sroutines cc.routines.length sroutines, .slice Srecords cc.records.length srecords, .slice Sglobals cc.globals.length sglobals, .int .i64 cc.main, .slice Sinstrs cc.instrs.length sinstrs] 34)) := (Below.refl _ _).alloc (Nat.le_refl _) _
  replace ba := ba.later kbw
  replace gs := gs.below kbw ygs
  replace ygs := Nat.le_trans ygs kbw.size
  replace hw := hw.trans (kbw.mono hw.size)
  clear kbw
  have bw := Blk.new w4 34 #[Value.slice Sroutines cc.routines.length sroutines, .slice Srecords cc.records.length srecords, .slice Sglobals cc.globals.length sglobals, .int .i64 cc.main, .slice Sinstrs cc.instrs.length sinstrs]
  have s5 : (w4.alloc (.cells #[Value.slice Sroutines cc.routines.length sroutines, .slice Srecords cc.records.length srecords, .slice Sglobals cc.globals.length sglobals, .int .i64 cc.main, .slice Sinstrs cc.instrs.length sinstrs] 34)).heap.size = w4.heap.size + 1 := by simp
  obtain ⟨w5, hV⟩ : ∃ V, w4.alloc (.cells #[Value.slice Sroutines cc.routines.length sroutines, .slice Srecords cc.records.length srecords, .slice Sglobals cc.globals.length sglobals, .int .i64 cc.main, .slice Sinstrs cc.instrs.length sinstrs] 34) = V := ⟨_, rfl⟩
  rw [hV] at ba bw gs ygs hw s5 ⊢
  clear hV
  have cba := ba.cell
  have lba := ba.lt
  have cbw := bw.cell
  have lbw := bw.lt
  go_wp2_with fail
  refine (toCode_made c _ _ _ _ (h.below hw hhi) (Nat.le_trans hhi hw.size) hbk).mono ?_; rintro e w6 ⟨cs, rfl, hx, hb⟩
  have z6 : w5.heap.size ≤ w6.heap.size := by have hh := hb.size; first | exact hh | (simp at hh; omega)
  clear cba lba cbw lbw
  replace ba := ba.later hb
  replace bw := bw.later hb
  replace gs := gs.below hb ygs
  replace ygs := Nat.le_trans ygs hb.size
  replace hw := hw.trans (hb.mono hw.size)
  clear hb
  obtain ⟨Fx, ox, nx, box⟩ := hx
  obtain ⟨B0, m0, B1, m1, B2, m2, B3, m3, hcs, -⟩ := CodeT.form ⟨cs, rfl, ox.rep (lo := 0) (hi := w6.heap.size) (fun g hg => ⟨Nat.zero_le _, ox.lt g hg⟩)⟩
  obtain rfl : cs = [Value.slice B0 c.routines.length m0, .slice B1 c.records.length m1, .slice B2 c.globals.length m2, .int .i64 c.main, .slice B3 c.instrs.length m3] := congrArg Array.toList (Value.agg.inj hcs)
  clear hcs
  have cba := ba.cell
  have lba := ba.lt
  have cbw := bw.cell
  have lbw := bw.lt
  go_wp2_with fail
  clear cba lba cbw lbw
  have kbx : Below w6.heap.size w6 (w6.alloc (.cells #[Value.slice B0 c.routines.length m0, .slice B1 c.records.length m1, .slice B2 c.globals.length m2, .int .i64 c.main, .slice B3 c.instrs.length m3] 34)) := (Below.refl _ _).alloc (Nat.le_refl _) _
  replace ba := ba.later kbx
  replace bw := bw.later kbx
  replace gs := gs.below kbx ygs
  replace ygs := Nat.le_trans ygs kbx.size
  replace ox := ox.fr (Fr.of_below (F := []) kbx) (fun b hb => by simp)
  replace hw := hw.trans (kbx.mono hw.size)
  clear kbx
  have bx := Blk.new w6 34 #[Value.slice B0 c.routines.length m0, .slice B1 c.records.length m1, .slice B2 c.globals.length m2, .int .i64 c.main, .slice B3 c.instrs.length m3]
  have s7 : (w6.alloc (.cells #[Value.slice B0 c.routines.length m0, .slice B1 c.records.length m1, .slice B2 c.globals.length m2, .int .i64 c.main, .slice B3 c.instrs.length m3] 34)).heap.size = w6.heap.size + 1 := by simp
  obtain ⟨w7, hV⟩ : ∃ V, w6.alloc (.cells #[Value.slice B0 c.routines.length m0, .slice B1 c.records.length m1, .slice B2 c.globals.length m2, .int .i64 c.main, .slice B3 c.instrs.length m3] 34) = V := ⟨_, rfl⟩
  rw [hV] at ba bw bx gs ygs ox hw s7 ⊢
  clear hV
  have cba := ba.cell
  have lba := ba.lt
  have cbw := bw.cell
  have lbw := bw.lt
  have cbx := bx.cell
  have lbx := bx.lt
  go_wp2_with fail
  refine (toEditS_made es _ _ _ _ (he.below hw hhi) (Nat.le_trans hhi hw.size) (by rw [sumEdit0]; omega)).mono ?_; rintro e w8 ⟨v1, rfl, hx, hb⟩
  have z8 : w7.heap.size ≤ w8.heap.size := by have hh := hb.size; first | exact hh | (simp at hh; omega)
  clear cba lba cbw lbw cbx lbx
  replace ba := ba.later hb
  replace bw := bw.later hb
  replace bx := bx.later hb
  replace gs := gs.below hb ygs
  replace ygs := Nat.le_trans ygs hb.size
  replace ox := ox.fr (Fr.of_below (F := []) hb) (fun b hb => by simp)
  replace hw := hw.trans (hb.mono hw.size)
  clear hb
  obtain ⟨Fe, oe, ne, boe⟩ := hx
  have cba := ba.cell
  have lba := ba.lt
  have cbw := bw.cell
  have lbw := bw.lt
  have cbx := bx.cell
  have lbx := bx.lt
  go_wp2_with fail
  have hx : SRep w8 0 w8.heap.size CodeT.dats (.agg #[Value.slice B0 c.routines.length m0, .slice B1 c.records.length m1, .slice B2 c.globals.length m2, .int .i64 c.main, .slice B3 c.instrs.length m3]) c := ⟨_, rfl, ox.rep (fun g hg => ⟨Nat.zero_le _, ox.lt g hg⟩)⟩
  have hv : LRep w8 0 w8.heap.size 2 EditT.dats v1 es := oe.rep (fun g hg => ⟨Nat.zero_le _, oe.lt g hg⟩)
  refine (impl_ApplyEdits c _ _ es _ 0 _ hx hv (Nat.le_refl _) (hst.below hw hst.2) HTX.out hbk).mono ?_; rintro e w9 ⟨cs, rfl, gi, hb⟩
  have z9 : w8.heap.size ≤ w9.heap.size := by have hh := hb.size; first | exact hh | (simp at hh; omega)
  clear cba lba cbw lbw cbx lbx
  replace ba := ba.later hb
  replace bw := bw.later hb
  replace bx := bx.later hb
  replace gs := gs.below hb ygs
  replace ygs := Nat.le_trans ygs hb.size
  replace ox := ox.fr (Fr.of_below (F := []) hb) (fun b hb => by simp)
  replace oe := oe.fr (Fr.of_below (F := []) hb) (fun b hb => by simp)
  replace hw := hw.trans (hb.mono hw.size)
  clear hb
  clear hx hv
  rw [HV.out]
  rw [HL.out] at gi
  obtain ⟨Fg, og, ng, bog⟩ := gi
  obtain ⟨Groutines, groutines, Grecords, grecords, Gglobals, gglobals, Ginstrs, ginstrs, hcs, -⟩ := CodeT.form ⟨cs, rfl, og.rep (lo := 0) (hi := w9.heap.size) (fun g hg => ⟨Nat.zero_le _, og.lt g hg⟩)⟩
  obtain rfl : cs = [Value.slice Groutines cc.routines.length groutines, .slice Grecords cc.records.length grecords, .slice Gglobals cc.globals.length gglobals, .int .i64 cc.main, .slice Ginstrs cc.instrs.length ginstrs] := congrArg Array.toList (Value.agg.inj hcs)
  clear hcs
  have cba := ba.cell
  have lba := ba.lt
  have cbw := bw.cell
  have lbw := bw.lt
  have cbx := bx.cell
  have lbx := bx.lt
  go_wp2_with fail
  clear cba lba cbw lbw cbx lbx
  have kbg : Below w9.heap.size w9 (w9.alloc (.cells #[Value.slice Groutines cc.routines.length groutines, .slice Grecords cc.records.length grecords, .slice Gglobals cc.globals.length gglobals, .int .i64 cc.main, .slice Ginstrs cc.instrs.length ginstrs] 34)) := (Below.refl _ _).alloc (Nat.le_refl _) _
  replace ba := ba.later kbg
  replace bw := bw.later kbg
  replace bx := bx.later kbg
  replace gs := gs.below kbg ygs
  replace ygs := Nat.le_trans ygs kbg.size
  replace ox := ox.fr (Fr.of_below (F := []) kbg) (fun b hb => by simp)
  replace oe := oe.fr (Fr.of_below (F := []) kbg) (fun b hb => by simp)
  replace og := og.fr (Fr.of_below (F := []) kbg) (fun b hb => by simp)
  replace hw := hw.trans (kbg.mono hw.size)
  clear kbg
  have bg := Blk.new w9 34 #[Value.slice Groutines cc.routines.length groutines, .slice Grecords cc.records.length grecords, .slice Gglobals cc.globals.length gglobals, .int .i64 cc.main, .slice Ginstrs cc.instrs.length ginstrs]
  have s10 : (w9.alloc (.cells #[Value.slice Groutines cc.routines.length groutines, .slice Grecords cc.records.length grecords, .slice Gglobals cc.globals.length gglobals, .int .i64 cc.main, .slice Ginstrs cc.instrs.length ginstrs] 34)).heap.size = w9.heap.size + 1 := by simp
  obtain ⟨w10, hV⟩ : ∃ V, w9.alloc (.cells #[Value.slice Groutines cc.routines.length groutines, .slice Grecords cc.records.length grecords, .slice Gglobals cc.globals.length gglobals, .int .i64 cc.main, .slice Ginstrs cc.instrs.length ginstrs] 34) = V := ⟨_, rfl⟩
  rw [hV] at ba bw bx bg gs ygs ox oe og hw s10 ⊢
  clear hV
  have cba := ba.cell
  have lba := ba.lt
  have cbw := bw.cell
  have lbw := bw.lt
  have cbx := bx.cell
  have lbx := bx.lt
  have cbg := bg.cell
  have lbg := bg.lt
  go_wp2_with fail
  have rg : SRep w10 0 w10.heap.size CodeT.dats (.agg #[Value.slice Groutines cc.routines.length groutines, .slice Grecords cc.records.length grecords, .slice Gglobals cc.globals.length gglobals, .int .i64 cc.main, .slice Ginstrs cc.instrs.length ginstrs]) cc := ⟨_, rfl, og.rep (fun g hg => ⟨Nat.zero_le _, og.lt g hg⟩)⟩
  refine (eqCode_any cc _ _ _ _ _ _ _ rg gs (Nat.le_refl _) ygs).mono ?_; rintro e w11 ⟨rfl, hb⟩
  have z11 : w10.heap.size ≤ w11.heap.size := by have hh := hb.size; first | exact hh | (simp at hh; omega)
  clear cba lba cbw lbw cbx lbx cbg lbg
  replace ba := ba.later hb
  replace bw := bw.later hb
  replace bx := bx.later hb
  replace bg := bg.later hb
  replace gs := gs.below hb ygs
  replace ygs := Nat.le_trans ygs hb.size
  replace ox := ox.fr (Fr.of_below (F := []) hb) (fun b hb => by simp)
  replace oe := oe.fr (Fr.of_below (F := []) hb) (fun b hb => by simp)
  replace og := og.fr (Fr.of_below (F := []) hb) (fun b hb => by simp)
  replace hw := hw.trans (hb.mono hw.size)
  clear hb
  clear rg
  have cba := ba.cell
  have lba := ba.lt
  have cbw := bw.cell
  have lbw := bw.lt
  have cbx := bx.cell
  have lbx := bx.lt
  have cbg := bg.cell
  have lbg := bg.lt
  go_wp2_with fail
  have hx : SRep w11 0 w11.heap.size CodeT.dats (.agg #[Value.slice B0 c.routines.length m0, .slice B1 c.records.length m1, .slice B2 c.globals.length m2, .int .i64 c.main, .slice B3 c.instrs.length m3]) c := ⟨_, rfl, ox.rep (fun g hg => ⟨Nat.zero_le _, ox.lt g hg⟩)⟩
  have y1 : w.heap.size ≤ w11.drew.heap.size := hw.size
  have y2 : hi ≤ w11.drew.heap.size := Nat.le_trans hhi hw.size
  go_region_held3 (fun w' => (∀ i, w'.cell? ⟨w.heap.size, i, none⟩ = #[Value.slice Aroutines c.routines.length nroutines, .slice Arecords c.records.length nrecords, .slice Aglobals c.globals.length nglobals, .int .i64 c.main, .slice Ainstrs c.instrs.length ninstrs][i]?) ∧ (∀ i, w'.cell? ⟨w6.heap.size, i, none⟩ = #[Value.slice B0 c.routines.length m0, .slice B1 c.records.length m1, .slice B2 c.globals.length m2, .int .i64 c.main, .slice B3 c.instrs.length m3][i]?))
    (first | exact ⟨cba, cbx⟩ | exact ⟨(ba.drew.later hbA).cell, (bx.drew.later hbA).cell⟩ | exact ⟨((ba.drew.later hbA).later hbB).cell, ((bx.drew.later hbA).later hbB).cell⟩)
    (first
      | (go_at_call 11; refine (toCode_any c _ _ _ _ (h.below hw.drew hhi) y2 hbk).mono ?_; rintro e wA ⟨xA, rfl, hrA, hbA⟩)
      | (go_at_call 13; refine (eqCode_any c _ _ _ _ _ _ _ (hx.below ((Below.refl w11.heap.size w11).drew.trans hbA) (Nat.le_refl _)) hrA hbA.size (Nat.le_refl _)).mono ?_; rintro e wB ⟨rfl, hbB⟩))
  have hb : Below w11.heap.size w11 wB := (((Below.refl _ _).drew).trans hbA).trans (hbB.mono hbA.size)
  clear hbA hbB hrA hx y1 y2
  clear cba lba cbw lbw cbx lbx cbg lbg
  obtain ⟨w12, rfl⟩ : ∃ w', w' = wB := ⟨_, rfl⟩
  have z12 : w11.heap.size ≤ w12.heap.size := hb.size
  replace ba := ba.later hb
  replace bw := bw.later hb
  replace bx := bx.later hb
  replace bg := bg.later hb
  replace gs := gs.below hb ygs
  replace ygs := Nat.le_trans ygs hb.size
  replace ox := ox.fr (Fr.of_below (F := []) hb) (fun b hb => by simp)
  replace oe := oe.fr (Fr.of_below (F := []) hb) (fun b hb => by simp)
  replace og := og.fr (Fr.of_below (F := []) hb) (fun b hb => by simp)
  replace hw := hw.trans (hb.mono hw.size)
  clear hb
  have cba := ba.cell
  have lba := ba.lt
  have cbw := bw.cell
  have lbw := bw.lt
  have cbx := bx.cell
  have lbx := bx.lt
  have cbg := bg.cell
  have lbg := bg.lt
  go_wp2_with fail
  refine (toEditS_any es _ _ _ _ (he.below hw hhi) (Nat.le_trans hhi hw.size) (by rw [sumEdit0]; omega)).mono ?_; rintro e w13 ⟨v2, rfl, hv, hb⟩
  have z13 : w12.heap.size ≤ w13.heap.size := by have hh := hb.size; first | exact hh | (simp at hh; omega)
  clear cba lba cbw lbw cbx lbx cbg lbg
  replace ba := ba.later hb
  replace bw := bw.later hb
  replace bx := bx.later hb
  replace bg := bg.later hb
  replace gs := gs.below hb ygs
  replace ygs := Nat.le_trans ygs hb.size
  replace ox := ox.fr (Fr.of_below (F := []) hb) (fun b hb => by simp)
  replace oe := oe.fr (Fr.of_below (F := []) hb) (fun b hb => by simp)
  replace og := og.fr (Fr.of_below (F := []) hb) (fun b hb => by simp)
  replace hw := hw.trans (hb.mono hw.size)
  clear hb
  have yhv : w13.heap.size ≤ w13.heap.size := Nat.le_refl _
  have cba := ba.cell
  have lba := ba.lt
  have cbw := bw.cell
  have lbw := bw.lt
  have cbx := bx.cell
  have lbx := bx.lt
  have cbg := bg.cell
  have lbg := bg.lt
  go_wp2_with fail
  have re : LRep w13 0 w13.heap.size 2 EditT.dats v1 es := oe.rep (fun g hg => ⟨Nat.zero_le _, oe.lt g hg⟩)
  refine (eqEditS_any es _ _ _ _ _ _ _ re hv (Nat.le_refl _) yhv).mono ?_; rintro e w14 ⟨rfl, hb⟩
  have z14 : w13.heap.size ≤ w14.heap.size := by have hh := hb.size; first | exact hh | (simp at hh; omega)
  clear cba lba cbw lbw cbx lbx cbg lbg
  replace ba := ba.later hb
  replace bw := bw.later hb
  replace bx := bx.later hb
  replace bg := bg.later hb
  replace gs := gs.below hb ygs
  replace ygs := Nat.le_trans ygs hb.size
  replace hv := hv.below hb yhv
  replace yhv := Nat.le_trans yhv hb.size
  replace ox := ox.fr (Fr.of_below (F := []) hb) (fun b hb => by simp)
  replace oe := oe.fr (Fr.of_below (F := []) hb) (fun b hb => by simp)
  replace og := og.fr (Fr.of_below (F := []) hb) (fun b hb => by simp)
  replace hw := hw.trans (hb.mono hw.size)
  clear hb
  clear re
  clear hv yhv
  have cba := ba.cell
  have lba := ba.lt
  have cbw := bw.cell
  have lbw := bw.lt
  have cbx := bx.cell
  have lbx := bx.lt
  have cbg := bg.cell
  have lbg := bg.lt
  go_wp2_with fail
  refine (markCode_any c _ Fx _ 1 _ rfl ox nx (by omega) (by omega)).mono ?_; rintro e w15 ⟨rfl, ox', hf⟩
  clear cba lba cbw lbw cbx lbx cbg lbg
  have z15 : w14.heap.size ≤ w15.heap.size := hf.size
  replace ba := ba.fr hf (fun hb => by have := box _ hb; omega)
  replace bw := bw.fr hf (fun hb => by have := box _ hb; omega)
  replace bx := bx.fr hf (fun hb => by have := box _ hb; omega)
  replace bg := bg.fr hf (fun hb => by have := box _ hb; omega)
  replace gs := gs.fr hf (fun b hb => by have := box b hb; omega) ygs
  replace ygs := Nat.le_trans ygs hf.size
  replace oe := oe.fr hf (fun b hb hb' => by have := box b hb'; have := boe b hb; omega)
  replace og := og.fr hf (fun b hb hb' => by have := box b hb'; have := bog b hb; omega)
  replace hw := hw.trans (hf.below (fun b hb => by have := box b hb; omega) hw.size)
  clear hf ox
  clear ox'
  have cba := ba.cell
  have lba := ba.lt
  have cbw := bw.cell
  have lbw := bw.lt
  have cbx := bx.cell
  have lbx := bx.lt
  have cbg := bg.cell
  have lbg := bg.lt
  go_wp2_with fail
  refine (markEditS_any es _ Fe _ (1 + c.cnt) _ rfl oe ne (by omega) (by omega)).mono ?_; rintro e w16 ⟨rfl, oe', hf⟩
  clear cba lba cbw lbw cbx lbx cbg lbg
  have z16 : w15.heap.size ≤ w16.heap.size := hf.size
  replace ba := ba.fr hf (fun hb => by have := boe _ hb; omega)
  replace bw := bw.fr hf (fun hb => by have := boe _ hb; omega)
  replace bx := bx.fr hf (fun hb => by have := boe _ hb; omega)
  replace bg := bg.fr hf (fun hb => by have := boe _ hb; omega)
  replace gs := gs.fr hf (fun b hb => by have := boe b hb; omega) ygs
  replace ygs := Nat.le_trans ygs hf.size
  replace og := og.fr hf (fun b hb hb' => by have := boe b hb'; have := bog b hb; omega)
  replace hw := hw.trans (hf.below (fun b hb => by have := boe b hb; omega) hw.size)
  clear hf oe
  clear oe'
  have cba := ba.cell
  have lba := ba.lt
  have cbw := bw.cell
  have lbw := bw.lt
  have cbx := bx.cell
  have lbx := bx.lt
  have cbg := bg.cell
  have lbg := bg.lt
  go_wp2_with fail
  have rg : SRep w16 0 w16.heap.size CodeT.dats (.agg #[Value.slice Groutines cc.routines.length groutines, .slice Grecords cc.records.length grecords, .slice Gglobals cc.globals.length gglobals, .int .i64 cc.main, .slice Ginstrs cc.instrs.length ginstrs]) cc := ⟨_, rfl, og.rep (fun g hg => ⟨Nat.zero_le _, og.lt g hg⟩)⟩
  refine (eqCode_any cc _ _ _ _ _ _ _ rg gs (Nat.le_refl _) ygs).mono ?_; rintro e w17 ⟨rfl, hb⟩
  have z17 : w16.heap.size ≤ w17.heap.size := by have hh := hb.size; first | exact hh | (simp at hh; omega)
  clear cba lba cbw lbw cbx lbx cbg lbg
  replace ba := ba.later hb
  replace bw := bw.later hb
  replace bx := bx.later hb
  replace bg := bg.later hb
  replace gs := gs.below hb ygs
  replace ygs := Nat.le_trans ygs hb.size
  replace og := og.fr (Fr.of_below (F := []) hb) (fun b hb => by simp)
  replace hw := hw.trans (hb.mono hw.size)
  clear hb
  clear rg
  have hbd : 1 + cc.cnt ≤ 1099511627776 := by omega
  have cba := ba.cell
  have lba := ba.lt
  have cbw := bw.cell
  have lbw := bw.lt
  have cbx := bx.cell
  have lbx := bx.lt
  have cbg := bg.cell
  have lbg := bg.lt
  go_wp2_with fail
  refine (markCode_any cc _ Fg _ 1 _ rfl og ng (by omega) hbd).mono ?_; rintro e w18 ⟨rfl, og', hf⟩
  clear cba lba cbw lbw cbx lbx cbg lbg
  have z18 : w17.heap.size ≤ w18.heap.size := hf.size
  replace ba := ba.fr hf (fun hb => by have := bog _ hb; omega)
  replace bw := bw.fr hf (fun hb => by have := bog _ hb; omega)
  replace bx := bx.fr hf (fun hb => by have := bog _ hb; omega)
  replace bg := bg.fr hf (fun hb => by have := bog _ hb; omega)
  replace gs := gs.fr hf (fun b hb => by have := bog b hb; omega) ygs
  replace ygs := Nat.le_trans ygs hf.size
  replace hw := hw.trans (hf.below (fun b hb => by have := bog b hb; omega) hw.size)
  clear hf og
  have og := og'
  clear og'
  have cba := ba.cell
  have lba := ba.lt
  have cbw := bw.cell
  have lbw := bw.lt
  have cbx := bx.cell
  have lbx := bx.lt
  have cbg := bg.cell
  have lbg := bg.lt
  go_wp2_with fail
  have rg : SRep w18 0 w18.heap.size CodeT.dats (.agg #[Value.slice Groutines cc.routines.length groutines, .slice Grecords cc.records.length grecords, .slice Gglobals cc.globals.length gglobals, .int .i64 cc.main, .slice Ginstrs cc.instrs.length ginstrs]) (cc.mark 1) := ⟨_, rfl, og.rep (fun g hg => ⟨Nat.zero_le _, og.lt g hg⟩)⟩
  refine (heldCode_any cc _ _ 1 _ _ _ rfl rg (Nat.le_refl _) (by omega) hbd).mono ?_; rintro e w19 ⟨rfl, hb⟩
  have z19 : w18.heap.size ≤ w19.heap.size := by have hh := hb.size; first | exact hh | (simp at hh; omega)
  clear cba lba cbw lbw cbx lbx cbg lbg
  replace ba := ba.later hb
  replace bw := bw.later hb
  replace bx := bx.later hb
  replace bg := bg.later hb
  replace gs := gs.below hb ygs
  replace ygs := Nat.le_trans ygs hb.size
  replace og := og.fr (Fr.of_below (F := []) hb) (fun b hb => by simp)
  replace hw := hw.trans (hb.mono hw.size)
  clear hb
  clear rg
  have cba := ba.cell
  have lba := ba.lt
  have cbw := bw.cell
  have lbw := bw.lt
  have cbx := bx.cell
  have lbx := bx.lt
  have cbg := bg.cell
  have lbg := bg.lt
  go_wp2_with fail
  refine (toCode_any c _ _ _ _ (h.below hw hhi) (Nat.le_trans hhi hw.size) hbk).mono ?_; rintro e w20 ⟨x2, rfl, hx, hb⟩
  have z20 : w19.heap.size ≤ w20.heap.size := by have hh := hb.size; first | exact hh | (simp at hh; omega)
  clear cba lba cbw lbw cbx lbx cbg lbg
  replace ba := ba.later hb
  replace bw := bw.later hb
  replace bx := bx.later hb
  replace bg := bg.later hb
  replace gs := gs.below hb ygs
  replace ygs := Nat.le_trans ygs hb.size
  replace og := og.fr (Fr.of_below (F := []) hb) (fun b hb => by simp)
  replace hw := hw.trans (hb.mono hw.size)
  clear hb
  have yhx : w20.heap.size ≤ w20.heap.size := Nat.le_refl _
  have cba := ba.cell
  have lba := ba.lt
  have cbw := bw.cell
  have lbw := bw.lt
  have cbx := bx.cell
  have lbx := bx.lt
  have cbg := bg.cell
  have lbg := bg.lt
  go_wp2_with fail
  refine (toEditS_any es _ _ _ _ (he.below hw hhi) (Nat.le_trans hhi hw.size) (by rw [sumEdit0]; omega)).mono ?_; rintro e w21 ⟨v2, rfl, hv, hb⟩
  have z21 : w20.heap.size ≤ w21.heap.size := by have hh := hb.size; first | exact hh | (simp at hh; omega)
  clear cba lba cbw lbw cbx lbx cbg lbg
  replace ba := ba.later hb
  replace bw := bw.later hb
  replace bx := bx.later hb
  replace bg := bg.later hb
  replace gs := gs.below hb ygs
  replace ygs := Nat.le_trans ygs hb.size
  replace hx := hx.below hb yhx
  replace yhx := Nat.le_trans yhx hb.size
  replace og := og.fr (Fr.of_below (F := []) hb) (fun b hb => by simp)
  replace hw := hw.trans (hb.mono hw.size)
  clear hb
  have yhv : w21.heap.size ≤ w21.heap.size := Nat.le_refl _
  have cba := ba.cell
  have lba := ba.lt
  have cbw := bw.cell
  have lbw := bw.lt
  have cbx := bx.cell
  have lbx := bx.lt
  have cbg := bg.cell
  have lbg := bg.lt
  go_wp2_with fail
  refine (impl_ApplyEdits c _ _ es _ 0 _ (hx.wide (Nat.zero_le _) yhx) (hv.wide (Nat.zero_le _) yhv) (Nat.le_refl _) (hst.below hw hst.2) HTX.out hbk).mono ?_; rintro e w22 ⟨cs, rfl, gh, hb⟩
  have z22 : w21.heap.size ≤ w22.heap.size := by have hh := hb.size; first | exact hh | (simp at hh; omega)
  clear cba lba cbw lbw cbx lbx cbg lbg
  replace ba := ba.later hb
  replace bw := bw.later hb
  replace bx := bx.later hb
  replace bg := bg.later hb
  replace gs := gs.below hb ygs
  replace ygs := Nat.le_trans ygs hb.size
  replace hx := hx.below hb yhx
  replace yhx := Nat.le_trans yhx hb.size
  replace hv := hv.below hb yhv
  replace yhv := Nat.le_trans yhv hb.size
  replace og := og.fr (Fr.of_below (F := []) hb) (fun b hb => by simp)
  replace hw := hw.trans (hb.mono hw.size)
  clear hb
  clear hx yhx
  clear hv yhv
  rw [HV.out]
  rw [HL.out] at gh
  obtain ⟨Hroutines, hroutines, Hrecords, hrecords, Hglobals, hglobals, Hinstrs, hinstrs, hcs, -⟩ := CodeT.form ⟨cs, rfl, gh.rep⟩
  obtain rfl : cs = [Value.slice Hroutines cc.routines.length hroutines, .slice Hrecords cc.records.length hrecords, .slice Hglobals cc.globals.length hglobals, .int .i64 cc.main, .slice Hinstrs cc.instrs.length hinstrs] := congrArg Array.toList (Value.agg.inj hcs)
  clear hcs
  replace gh : SRep w22 _ _ CodeT.dats (.agg #[Value.slice Hroutines cc.routines.length hroutines, .slice Hrecords cc.records.length hrecords, .slice Hglobals cc.globals.length hglobals, .int .i64 cc.main, .slice Hinstrs cc.instrs.length hinstrs]) cc := ⟨_, rfl, gh.rep⟩
  have ygh : w22.heap.size ≤ w22.heap.size := Nat.le_refl _
  have cba := ba.cell
  have lba := ba.lt
  have cbw := bw.cell
  have lbw := bw.lt
  have cbx := bx.cell
  have lbx := bx.lt
  have cbg := bg.cell
  have lbg := bg.lt
  go_wp2_with fail
  clear cba lba cbw lbw cbx lbx cbg lbg
  have kbh : Below w22.heap.size w22 (w22.alloc (.cells #[Value.slice Hroutines cc.routines.length hroutines, .slice Hrecords cc.records.length hrecords, .slice Hglobals cc.globals.length hglobals, .int .i64 cc.main, .slice Hinstrs cc.instrs.length hinstrs] 34)) := (Below.refl _ _).alloc (Nat.le_refl _) _
  replace ba := ba.later kbh
  replace bw := bw.later kbh
  replace bx := bx.later kbh
  replace bg := bg.later kbh
  replace gs := gs.below kbh ygs
  replace ygs := Nat.le_trans ygs kbh.size
  replace gh := gh.below kbh ygh
  replace ygh := Nat.le_trans ygh kbh.size
  replace og := og.fr (Fr.of_below (F := []) kbh) (fun b hb => by simp)
  replace hw := hw.trans (kbh.mono hw.size)
  clear kbh
  have bh := Blk.new w22 34 #[Value.slice Hroutines cc.routines.length hroutines, .slice Hrecords cc.records.length hrecords, .slice Hglobals cc.globals.length hglobals, .int .i64 cc.main, .slice Hinstrs cc.instrs.length hinstrs]
  have s23 : (w22.alloc (.cells #[Value.slice Hroutines cc.routines.length hroutines, .slice Hrecords cc.records.length hrecords, .slice Hglobals cc.globals.length hglobals, .int .i64 cc.main, .slice Hinstrs cc.instrs.length hinstrs] 34)).heap.size = w22.heap.size + 1 := by simp
  obtain ⟨w23, hV⟩ : ∃ V, w22.alloc (.cells #[Value.slice Hroutines cc.routines.length hroutines, .slice Hrecords cc.records.length hrecords, .slice Hglobals cc.globals.length hglobals, .int .i64 cc.main, .slice Hinstrs cc.instrs.length hinstrs] 34) = V := ⟨_, rfl⟩
  rw [hV] at ba bw bx bg bh gs gh ygs ygh og hw s23 ⊢
  clear hV
  have cba := ba.cell
  have lba := ba.lt
  have cbw := bw.cell
  have lbw := bw.lt
  have cbx := bx.cell
  have lbx := bx.lt
  have cbg := bg.cell
  have lbg := bg.lt
  have cbh := bh.cell
  have lbh := bh.lt
  go_wp2_with fail
  refine (eqCode_any cc _ _ _ _ _ _ _ gh gs ygh ygs).mono ?_; rintro e w24 ⟨rfl, hb⟩
  have z24 : w23.heap.size ≤ w24.heap.size := by have hh := hb.size; first | exact hh | (simp at hh; omega)
  clear cba lba cbw lbw cbx lbx cbg lbg cbh lbh
  replace ba := ba.later hb
  replace bw := bw.later hb
  replace bx := bx.later hb
  replace bg := bg.later hb
  replace bh := bh.later hb
  replace gs := gs.below hb ygs
  replace ygs := Nat.le_trans ygs hb.size
  replace gh := gh.below hb ygh
  replace ygh := Nat.le_trans ygh hb.size
  replace og := og.fr (Fr.of_below (F := []) hb) (fun b hb => by simp)
  replace hw := hw.trans (hb.mono hw.size)
  clear hb
  clear gh ygh
  have cba := ba.cell
  have lba := ba.lt
  have cbw := bw.cell
  have lbw := bw.lt
  have cbx := bx.cell
  have lbx := bx.lt
  have cbg := bg.cell
  have lbg := bg.lt
  have cbh := bh.cell
  have lbh := bh.lt
  go_wp2_with fail
  have rg : SRep w24 0 w24.heap.size CodeT.dats (.agg #[Value.slice Groutines cc.routines.length groutines, .slice Grecords cc.records.length grecords, .slice Gglobals cc.globals.length gglobals, .int .i64 cc.main, .slice Ginstrs cc.instrs.length ginstrs]) (cc.mark 1) := ⟨_, rfl, og.rep (fun g hg => ⟨Nat.zero_le _, og.lt g hg⟩)⟩
  refine (heldCode_any cc _ _ 1 _ _ _ rfl rg (Nat.le_refl _) (by omega) hbd).mono ?_; rintro e w25 ⟨rfl, hb⟩
  have z25 : w24.heap.size ≤ w25.heap.size := by have hh := hb.size; first | exact hh | (simp at hh; omega)
  clear cba lba cbw lbw cbx lbx cbg lbg cbh lbh
  replace ba := ba.later hb
  replace bw := bw.later hb
  replace bx := bx.later hb
  replace bg := bg.later hb
  replace bh := bh.later hb
  replace gs := gs.below hb ygs
  replace ygs := Nat.le_trans ygs hb.size
  replace og := og.fr (Fr.of_below (F := []) hb) (fun b hb => by simp)
  replace hw := hw.trans (hb.mono hw.size)
  clear hb
  clear rg
  have cba := ba.cell
  have lba := ba.lt
  have cbw := bw.cell
  have lbw := bw.lt
  have cbx := bx.cell
  have lbx := bx.lt
  have cbg := bg.cell
  have lbg := bg.lt
  have cbh := bh.cell
  have lbh := bh.lt
  go_wp2_with fail
  go_ret
  exact ⟨rfl, hw⟩
end Go.Proofs.YtekobbeoaalibaaGreatDoor
