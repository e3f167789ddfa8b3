/- The law FnExactOptimizeCode: it returns true and writes nothing that was there. -/
import Derived.Test.YtekobbeoaalibaaGreatDoorOptAll
import Derived.Test.YtekobbeoaalibaaGreatDoorMarkAll
import Derived.Test.YtekobbeoaalibaaGreatDoorLawsAll
import Derived.Deep.RegionHeld3
namespace Go.Proofs.YtekobbeoaalibaaGreatDoor
open Go.RowKit
set_option linter.unusedVariables false

set_option maxRecDepth 100000 in
set_option maxHeartbeats 8000000 in
theorem law_OptimizeCode (x0 : Value) (c : CodeT) (w : World) (lo hi : Nat) (h : SRep w lo hi CodeT.dats x0 c) (hhi : hi ≤ w.heap.size) (hf : c.Fits) (hst : SpaceTab w) :
    Calls Tryz.prog 8 #[x0] w fun e w' => e = .returned (.bool true) ∧ Below w.heap.size w w' := by
  obtain ⟨Aroutines, nroutines, Arecords, nrecords, Aglobals, nglobals, Ainstrs, ninstrs, rfl, -⟩ := CodeT.form h
  have hw : Below w.heap.size w (w.alloc (.cells #[Value.slice Aroutines c.routines.length nroutines, .slice Arecords c.records.length nrecords, .slice Aglobals c.globals.length nglobals, .int .i64 c.main, .slice Ainstrs c.instrs.length ninstrs] 27)) := (Below.refl _ _).alloc (Nat.le_refl _) _
  have hcnt := opt_cnt c
  generalize hl0 : optC c = cc at hcnt
  have HL := Lib.hid hl0
  clear hl0
  have hecn := optE_cnt c
  generalize hl1 : optE c = es at hecn
  have HE := Lib.hid hl1
  clear hl1
  go_enter Tryz.func8, Tryz.ntmps8
  go_wp2_with fail
  refine (szCode_any c _ _ _ _ _ (h.below hw hhi) (by simp; omega) (by omega) (by omega) hf).mono ?_; rintro e w1 ⟨rfl, hb⟩
  have z1 : w.heap.size < w1.heap.size := by have hh := hb.size; simp at hh; omega
  have ba := (Blk.new w 27 #[Value.slice Aroutines c.routines.length nroutines, .slice Arecords c.records.length nrecords, .slice Aglobals c.globals.length nglobals, .int .i64 c.main, .slice Ainstrs c.instrs.length ninstrs]).later hb
  replace hw := hw.trans (hb.mono hw.size)
  clear hb
  have cba := ba.cell
  have lba := ba.lt
  by_cases hk1 : (1048576 : Int) < c.bulk
  · rw [leftOf_no hk1]
    go_wp2_with fail
    go_ret
    exact ⟨rfl, hw⟩
  rw [leftOf_yes hk1]
  have hbk : c.bulk ≤ 1048576 := by omega
  have htx : ∀ y ∈ c.instrs, y.text.size ≤ 1048576 := fun y hy => by have h1 : y.text.size ≤ sumOf InsT.bulk c.instrs := sumOf_mem (b := InsT.bulk) hy; unfold CodeT.bulk at hbk; omega
  have HTX := Lib.hid htx
  clear htx
  have hcc := CodeT.cnt_le c
  clear cba lba
  have cba := ba.cell
  have lba := ba.lt
  go_wp2_with fail
  refine (toCode_any c _ _ _ _ (h.below hw hhi) (Nat.le_trans hhi hw.size) hbk).mono ?_; rintro e w2 ⟨x1, rfl, hx, hb⟩
  have z2 : w1.heap.size ≤ w2.heap.size := by have hh := hb.size; first | exact hh | (simp at hh; omega)
  clear cba lba
  replace ba := ba.later hb
  replace hw := hw.trans (hb.mono hw.size)
  clear hb
  have yhx : w2.heap.size ≤ w2.heap.size := Nat.le_refl _
  have cba := ba.cell
  have lba := ba.lt
  go_wp2_with fail
  refine (spec_OptimizeCode c _ _ 0 _ (hx.wide (Nat.zero_le _) yhx) (Nat.le_refl _) HTX.out hbk).mono ?_; rintro e w3 ⟨cs, vs, Fs, Gs, rfl, gs, ns, es_, bFs, bGs, ds, hb⟩
  have z3 : w2.heap.size ≤ w3.heap.size := by have hh := hb.size; first | exact hh | (simp at hh; omega)
  clear cba lba
  replace ba := ba.later hb
  replace hx := hx.below hb yhx
  replace yhx := Nat.le_trans yhx hb.size
  replace hw := hw.trans (hb.mono hw.size)
  clear hb
  clear hx yhx
  rw [HL.out] at gs
  rw [HE.out] at es_
  obtain ⟨Sroutines, sroutines, Srecords, srecords, Sglobals, sglobals, Sinstrs, sinstrs, hcs, -⟩ := CodeT.form ⟨cs, rfl, gs.rep (lo := 0) (hi := w3.heap.size) (fun g hg => ⟨Nat.zero_le _, gs.lt g hg⟩)⟩
  obtain rfl : cs = [Value.slice Sroutines cc.routines.length sroutines, .slice Srecords cc.records.length srecords, .slice Sglobals cc.globals.length sglobals, .int .i64 cc.main, .slice Sinstrs cc.instrs.length sinstrs] := congrArg Array.toList (Value.agg.inj hcs)
  clear hcs
  have rs : SRep w3 w2.heap.size w3.heap.size CodeT.dats (.agg #[Value.slice Sroutines cc.routines.length sroutines, .slice Srecords cc.records.length srecords, .slice Sglobals cc.globals.length sglobals, .int .i64 cc.main, .slice Sinstrs cc.instrs.length sinstrs]) cc := ⟨_, rfl, gs.rep (fun g hg => ⟨bFs g hg, gs.lt g hg⟩)⟩
  have re : LRep w3 w2.heap.size w3.heap.size 2 EditT.dats vs es := es_.rep (fun g hg => ⟨bGs g hg, es_.lt g hg⟩)
  clear gs es_ ns bFs bGs ds
  have yrs : w3.heap.size ≤ w3.heap.size := Nat.le_refl _
  have yre : w3.heap.size ≤ w3.heap.size := Nat.le_refl _
  have cba := ba.cell
  have lba := ba.lt
  go_wp2_with fail
  clear cba lba
  have kbw : Below w3.heap.size w3 (w3.alloc (.cells #[Value.slice Sroutines cc.routines.length sroutines, .slice Srecords cc.records.length srecords, .slice Sglobals cc.globals.length sglobals, .int .i64 cc.main, .slice Sinstrs cc.instrs.length sinstrs] 34)) := (Below.refl _ _).alloc (Nat.le_refl _) _
  replace ba := ba.later kbw
  replace rs := rs.below kbw yrs
  replace yrs := Nat.le_trans yrs kbw.size
  replace re := re.below kbw yre
  replace yre := Nat.le_trans yre kbw.size
  replace hw := hw.trans (kbw.mono hw.size)
  clear kbw
  have bw := Blk.new w3 34 #[Value.slice Sroutines cc.routines.length sroutines, .slice Srecords cc.records.length srecords, .slice Sglobals cc.globals.length sglobals, .int .i64 cc.main, .slice Sinstrs cc.instrs.length sinstrs]
  have s4 : (w3.alloc (.cells #[Value.slice Sroutines cc.routines.length sroutines, .slice Srecords cc.records.length srecords, .slice Sglobals cc.globals.length sglobals, .int .i64 cc.main, .slice Sinstrs cc.instrs.length sinstrs] 34)).heap.size = w3.heap.size + 1 := by simp
  obtain ⟨w4, hV⟩ : ∃ V, w3.alloc (.cells #[Value.slice Sroutines cc.routines.length sroutines, .slice Srecords cc.records.length srecords, .slice Sglobals cc.globals.length sglobals, .int .i64 cc.main, .slice Sinstrs cc.instrs.length sinstrs] 34) = V := ⟨_, rfl⟩
  rw [hV] at ba bw rs re yrs yre hw s4 ⊢
  clear hV
  have cba := ba.cell
  have lba := ba.lt
  have cbw := bw.cell
  have lbw := bw.lt
  go_wp2_with fail
  refine (toCode_made c _ _ _ _ (h.below hw hhi) (Nat.le_trans hhi hw.size) hbk).mono ?_; rintro e w5 ⟨cs, rfl, hx, hb⟩
  have z5 : w4.heap.size ≤ w5.heap.size := by have hh := hb.size; first | exact hh | (simp at hh; omega)
  clear cba lba cbw lbw
  replace ba := ba.later hb
  replace bw := bw.later hb
  replace rs := rs.below hb yrs
  replace yrs := Nat.le_trans yrs hb.size
  replace re := re.below hb yre
  replace yre := Nat.le_trans yre hb.size
  replace hw := hw.trans (hb.mono hw.size)
  clear hb
  obtain ⟨Fx, ox, nx, box⟩ := hx
  obtain ⟨B0, m0, B1, m1, B2, m2, B3, m3, hcs, -⟩ := CodeT.form ⟨cs, rfl, ox.rep (lo := 0) (hi := w5.heap.size) (fun g hg => ⟨Nat.zero_le _, ox.lt g hg⟩)⟩
  obtain rfl : cs = [Value.slice B0 c.routines.length m0, .slice B1 c.records.length m1, .slice B2 c.globals.length m2, .int .i64 c.main, .slice B3 c.instrs.length m3] := congrArg Array.toList (Value.agg.inj hcs)
  clear hcs
  have cba := ba.cell
  have lba := ba.lt
  have cbw := bw.cell
  have lbw := bw.lt
  go_wp2_with fail
  clear cba lba cbw lbw
  have kbx : Below w5.heap.size w5 (w5.alloc (.cells #[Value.slice B0 c.routines.length m0, .slice B1 c.records.length m1, .slice B2 c.globals.length m2, .int .i64 c.main, .slice B3 c.instrs.length m3] 34)) := (Below.refl _ _).alloc (Nat.le_refl _) _
  replace ba := ba.later kbx
  replace bw := bw.later kbx
  replace rs := rs.below kbx yrs
  replace yrs := Nat.le_trans yrs kbx.size
  replace re := re.below kbx yre
  replace yre := Nat.le_trans yre kbx.size
  replace ox := ox.fr (Fr.of_below (F := []) kbx) (fun b hb => by simp)
  replace hw := hw.trans (kbx.mono hw.size)
  clear kbx
  have bx := Blk.new w5 34 #[Value.slice B0 c.routines.length m0, .slice B1 c.records.length m1, .slice B2 c.globals.length m2, .int .i64 c.main, .slice B3 c.instrs.length m3]
  have s6 : (w5.alloc (.cells #[Value.slice B0 c.routines.length m0, .slice B1 c.records.length m1, .slice B2 c.globals.length m2, .int .i64 c.main, .slice B3 c.instrs.length m3] 34)).heap.size = w5.heap.size + 1 := by simp
  obtain ⟨w6, hV⟩ : ∃ V, w5.alloc (.cells #[Value.slice B0 c.routines.length m0, .slice B1 c.records.length m1, .slice B2 c.globals.length m2, .int .i64 c.main, .slice B3 c.instrs.length m3] 34) = V := ⟨_, rfl⟩
  rw [hV] at ba bw bx rs re yrs yre ox hw s6 ⊢
  clear hV
  have cba := ba.cell
  have lba := ba.lt
  have cbw := bw.cell
  have lbw := bw.lt
  have cbx := bx.cell
  have lbx := bx.lt
  go_wp2_with fail
  have hx : SRep w6 0 w6.heap.size CodeT.dats (.agg #[Value.slice B0 c.routines.length m0, .slice B1 c.records.length m1, .slice B2 c.globals.length m2, .int .i64 c.main, .slice B3 c.instrs.length m3]) c := ⟨_, rfl, ox.rep (fun g hg => ⟨Nat.zero_le _, ox.lt g hg⟩)⟩
  refine (impl_OptimizeCode c _ _ 0 _ hx (Nat.le_refl _) (hst.below hw hst.2) HTX.out hbk).mono ?_; rintro e w7 ⟨cs, vg, Fg, Gg, rfl, og, ng, oe, bFG, bGH, dg, hb⟩
  have z7 : w6.heap.size ≤ w7.heap.size := by have hh := hb.size; first | exact hh | (simp at hh; omega)
  clear cba lba cbw lbw cbx lbx
  replace ba := ba.later hb
  replace bw := bw.later hb
  replace bx := bx.later hb
  replace rs := rs.below hb yrs
  replace yrs := Nat.le_trans yrs hb.size
  replace re := re.below hb yre
  replace yre := Nat.le_trans yre hb.size
  replace ox := ox.fr (Fr.of_below (F := []) hb) (fun b hb => by simp)
  replace hw := hw.trans (hb.mono hw.size)
  clear hb
  clear hx
  rw [HL.out] at og
  rw [HE.out] at oe
  have bog : ∀ g ∈ Fg, w6.heap.size ≤ g ∧ g < w7.heap.size := fun g hg => ⟨bFG g hg, og.lt g hg⟩
  have boe : ∀ g ∈ Gg, w6.heap.size ≤ g ∧ g < w7.heap.size := fun g hg => ⟨bGH g hg, oe.lt g hg⟩
  clear bFG bGH
  obtain ⟨Groutines, groutines, Grecords, grecords, Gglobals, gglobals, Ginstrs, ginstrs, hcs, -⟩ := CodeT.form ⟨cs, rfl, og.rep (lo := 0) (hi := w7.heap.size) (fun g hg => ⟨Nat.zero_le _, og.lt g hg⟩)⟩
  obtain rfl : cs = [Value.slice Groutines cc.routines.length groutines, .slice Grecords cc.records.length grecords, .slice Gglobals cc.globals.length gglobals, .int .i64 cc.main, .slice Ginstrs cc.instrs.length ginstrs] := congrArg Array.toList (Value.agg.inj hcs)
  clear hcs
  have cba := ba.cell
  have lba := ba.lt
  have cbw := bw.cell
  have lbw := bw.lt
  have cbx := bx.cell
  have lbx := bx.lt
  go_wp2_with fail
  clear cba lba cbw lbw cbx lbx
  have kbg : Below w7.heap.size w7 (w7.alloc (.cells #[Value.slice Groutines cc.routines.length groutines, .slice Grecords cc.records.length grecords, .slice Gglobals cc.globals.length gglobals, .int .i64 cc.main, .slice Ginstrs cc.instrs.length ginstrs] 34)) := (Below.refl _ _).alloc (Nat.le_refl _) _
  replace ba := ba.later kbg
  replace bw := bw.later kbg
  replace bx := bx.later kbg
  replace rs := rs.below kbg yrs
  replace yrs := Nat.le_trans yrs kbg.size
  replace re := re.below kbg yre
  replace yre := Nat.le_trans yre kbg.size
  replace ox := ox.fr (Fr.of_below (F := []) kbg) (fun b hb => by simp)
  replace og := og.fr (Fr.of_below (F := []) kbg) (fun b hb => by simp)
  replace oe := oe.fr (Fr.of_below (F := []) kbg) (fun b hb => by simp)
  replace hw := hw.trans (kbg.mono hw.size)
  clear kbg
  have bg := Blk.new w7 34 #[Value.slice Groutines cc.routines.length groutines, .slice Grecords cc.records.length grecords, .slice Gglobals cc.globals.length gglobals, .int .i64 cc.main, .slice Ginstrs cc.instrs.length ginstrs]
  have s8 : (w7.alloc (.cells #[Value.slice Groutines cc.routines.length groutines, .slice Grecords cc.records.length grecords, .slice Gglobals cc.globals.length gglobals, .int .i64 cc.main, .slice Ginstrs cc.instrs.length ginstrs] 34)).heap.size = w7.heap.size + 1 := by simp
  obtain ⟨w8, hV⟩ : ∃ V, w7.alloc (.cells #[Value.slice Groutines cc.routines.length groutines, .slice Grecords cc.records.length grecords, .slice Gglobals cc.globals.length gglobals, .int .i64 cc.main, .slice Ginstrs cc.instrs.length ginstrs] 34) = V := ⟨_, rfl⟩
  rw [hV] at ba bw bx bg rs re yrs yre ox og oe hw s8 ⊢
  clear hV
  have cba := ba.cell
  have lba := ba.lt
  have cbw := bw.cell
  have lbw := bw.lt
  have cbx := bx.cell
  have lbx := bx.lt
  have cbg := bg.cell
  have lbg := bg.lt
  go_wp2_with fail
  have rg : SRep w8 0 w8.heap.size CodeT.dats (.agg #[Value.slice Groutines cc.routines.length groutines, .slice Grecords cc.records.length grecords, .slice Gglobals cc.globals.length gglobals, .int .i64 cc.main, .slice Ginstrs cc.instrs.length ginstrs]) cc := ⟨_, rfl, og.rep (fun g hg => ⟨Nat.zero_le _, og.lt g hg⟩)⟩
  refine (eqCode_any cc _ _ _ _ _ _ _ rg rs (Nat.le_refl _) yrs).mono ?_; rintro e w9 ⟨rfl, hb⟩
  have z9 : w8.heap.size ≤ w9.heap.size := by have hh := hb.size; first | exact hh | (simp at hh; omega)
  clear cba lba cbw lbw cbx lbx cbg lbg
  replace ba := ba.later hb
  replace bw := bw.later hb
  replace bx := bx.later hb
  replace bg := bg.later hb
  replace rs := rs.below hb yrs
  replace yrs := Nat.le_trans yrs hb.size
  replace re := re.below hb yre
  replace yre := Nat.le_trans yre hb.size
  replace ox := ox.fr (Fr.of_below (F := []) hb) (fun b hb => by simp)
  replace og := og.fr (Fr.of_below (F := []) hb) (fun b hb => by simp)
  replace oe := oe.fr (Fr.of_below (F := []) hb) (fun b hb => by simp)
  replace hw := hw.trans (hb.mono hw.size)
  clear hb
  clear rg
  have cba := ba.cell
  have lba := ba.lt
  have cbw := bw.cell
  have lbw := bw.lt
  have cbx := bx.cell
  have lbx := bx.lt
  have cbg := bg.cell
  have lbg := bg.lt
  go_wp2_with fail
  have rg : LRep w9 0 w9.heap.size 2 EditT.dats vg es := oe.rep (fun g hg => ⟨Nat.zero_le _, oe.lt g hg⟩)
  refine (eqEditS_any es _ _ _ _ _ _ _ rg re (Nat.le_refl _) yre).mono ?_; rintro e w10 ⟨rfl, hb⟩
  have z10 : w9.heap.size ≤ w10.heap.size := by have hh := hb.size; first | exact hh | (simp at hh; omega)
  clear cba lba cbw lbw cbx lbx cbg lbg
  replace ba := ba.later hb
  replace bw := bw.later hb
  replace bx := bx.later hb
  replace bg := bg.later hb
  replace rs := rs.below hb yrs
  replace yrs := Nat.le_trans yrs hb.size
  replace re := re.below hb yre
  replace yre := Nat.le_trans yre hb.size
  replace ox := ox.fr (Fr.of_below (F := []) hb) (fun b hb => by simp)
  replace og := og.fr (Fr.of_below (F := []) hb) (fun b hb => by simp)
  replace oe := oe.fr (Fr.of_below (F := []) hb) (fun b hb => by simp)
  replace hw := hw.trans (hb.mono hw.size)
  clear hb
  clear rg
  have cba := ba.cell
  have lba := ba.lt
  have cbw := bw.cell
  have lbw := bw.lt
  have cbx := bx.cell
  have lbx := bx.lt
  have cbg := bg.cell
  have lbg := bg.lt
  go_wp2_with fail
  have hx : SRep w10 0 w10.heap.size CodeT.dats (.agg #[Value.slice B0 c.routines.length m0, .slice B1 c.records.length m1, .slice B2 c.globals.length m2, .int .i64 c.main, .slice B3 c.instrs.length m3]) c := ⟨_, rfl, ox.rep (fun g hg => ⟨Nat.zero_le _, ox.lt g hg⟩)⟩
  have y1 : w.heap.size ≤ w10.drew.heap.size := hw.size
  have y2 : hi ≤ w10.drew.heap.size := Nat.le_trans hhi hw.size
  go_region_held3 (fun w' => (∀ i, w'.cell? ⟨w.heap.size, i, none⟩ = #[Value.slice Aroutines c.routines.length nroutines, .slice Arecords c.records.length nrecords, .slice Aglobals c.globals.length nglobals, .int .i64 c.main, .slice Ainstrs c.instrs.length ninstrs][i]?) ∧ (∀ i, w'.cell? ⟨w5.heap.size, i, none⟩ = #[Value.slice B0 c.routines.length m0, .slice B1 c.records.length m1, .slice B2 c.globals.length m2, .int .i64 c.main, .slice B3 c.instrs.length m3][i]?))
    (first | exact ⟨cba, cbx⟩ | exact ⟨(ba.drew.later hbA).cell, (bx.drew.later hbA).cell⟩ | exact ⟨((ba.drew.later hbA).later hbB).cell, ((bx.drew.later hbA).later hbB).cell⟩)
    (first
      | (go_at_call 11; refine (toCode_any c _ _ _ _ (h.below hw.drew hhi) y2 hbk).mono ?_; rintro e wA ⟨xA, rfl, hrA, hbA⟩)
      | (go_at_call 13; refine (eqCode_any c _ _ _ _ _ _ _ (hx.below ((Below.refl w10.heap.size w10).drew.trans hbA) (Nat.le_refl _)) hrA hbA.size (Nat.le_refl _)).mono ?_; rintro e wB ⟨rfl, hbB⟩))
  have hb : Below w10.heap.size w10 wB := (((Below.refl _ _).drew).trans hbA).trans (hbB.mono hbA.size)
  clear hbA hbB hrA hx y1 y2
  clear cba lba cbw lbw cbx lbx cbg lbg
  obtain ⟨w11, rfl⟩ : ∃ w', w' = wB := ⟨_, rfl⟩
  have z11 : w10.heap.size ≤ w11.heap.size := hb.size
  replace ba := ba.later hb
  replace bw := bw.later hb
  replace bx := bx.later hb
  replace bg := bg.later hb
  replace rs := rs.below hb yrs
  replace yrs := Nat.le_trans yrs hb.size
  replace re := re.below hb yre
  replace yre := Nat.le_trans yre hb.size
  replace ox := ox.fr (Fr.of_below (F := []) hb) (fun b hb => by simp)
  replace og := og.fr (Fr.of_below (F := []) hb) (fun b hb => by simp)
  replace oe := oe.fr (Fr.of_below (F := []) hb) (fun b hb => by simp)
  replace hw := hw.trans (hb.mono hw.size)
  clear hb
  have cba := ba.cell
  have lba := ba.lt
  have cbw := bw.cell
  have lbw := bw.lt
  have cbx := bx.cell
  have lbx := bx.lt
  have cbg := bg.cell
  have lbg := bg.lt
  go_wp2_with fail
  refine (markCode_any c _ Fx _ 1 _ rfl ox nx (by omega) (by omega)).mono ?_; rintro e w12 ⟨rfl, ox', hf⟩
  clear cba lba cbw lbw cbx lbx cbg lbg
  have z12 : w11.heap.size ≤ w12.heap.size := hf.size
  replace ba := ba.fr hf (fun hb => by have := box _ hb; omega)
  replace bw := bw.fr hf (fun hb => by have := box _ hb; omega)
  replace bx := bx.fr hf (fun hb => by have := box _ hb; omega)
  replace bg := bg.fr hf (fun hb => by have := box _ hb; omega)
  replace rs := rs.fr hf (fun b hb => by have := box b hb; omega) yrs
  replace yrs := Nat.le_trans yrs hf.size
  replace re := re.fr hf (fun b hb => by have := box b hb; omega) yre
  replace yre := Nat.le_trans yre hf.size
  replace og := og.fr hf (fun b hb hb' => by have := box b hb'; have := bog b hb; omega)
  replace oe := oe.fr hf (fun b hb hb' => by have := box b hb'; have := boe b hb; omega)
  replace hw := hw.trans (hf.below (fun b hb => by have := box b hb; omega) hw.size)
  clear hf ox
  clear ox'
  have cba := ba.cell
  have lba := ba.lt
  have cbw := bw.cell
  have lbw := bw.lt
  have cbx := bx.cell
  have lbx := bx.lt
  have cbg := bg.cell
  have lbg := bg.lt
  go_wp2_with fail
  have rg : SRep w12 0 w12.heap.size CodeT.dats (.agg #[Value.slice Groutines cc.routines.length groutines, .slice Grecords cc.records.length grecords, .slice Gglobals cc.globals.length gglobals, .int .i64 cc.main, .slice Ginstrs cc.instrs.length ginstrs]) cc := ⟨_, rfl, og.rep (fun g hg => ⟨Nat.zero_le _, og.lt g hg⟩)⟩
  refine (eqCode_any cc _ _ _ _ _ _ _ rg rs (Nat.le_refl _) yrs).mono ?_; rintro e w13 ⟨rfl, hb⟩
  have z13 : w12.heap.size ≤ w13.heap.size := by have hh := hb.size; first | exact hh | (simp at hh; omega)
  clear cba lba cbw lbw cbx lbx cbg lbg
  replace ba := ba.later hb
  replace bw := bw.later hb
  replace bx := bx.later hb
  replace bg := bg.later hb
  replace rs := rs.below hb yrs
  replace yrs := Nat.le_trans yrs hb.size
  replace re := re.below hb yre
  replace yre := Nat.le_trans yre hb.size
  replace og := og.fr (Fr.of_below (F := []) hb) (fun b hb => by simp)
  replace oe := oe.fr (Fr.of_below (F := []) hb) (fun b hb => by simp)
  replace hw := hw.trans (hb.mono hw.size)
  clear hb
  clear rg
  have cba := ba.cell
  have lba := ba.lt
  have cbw := bw.cell
  have lbw := bw.lt
  have cbx := bx.cell
  have lbx := bx.lt
  have cbg := bg.cell
  have lbg := bg.lt
  go_wp2_with fail
  have rg : LRep w13 0 w13.heap.size 2 EditT.dats vg es := oe.rep (fun g hg => ⟨Nat.zero_le _, oe.lt g hg⟩)
  refine (eqEditS_any es _ _ _ _ _ _ _ rg re (Nat.le_refl _) yre).mono ?_; rintro e w14 ⟨rfl, hb⟩
  have z14 : w13.heap.size ≤ w14.heap.size := by have hh := hb.size; first | exact hh | (simp at hh; omega)
  clear cba lba cbw lbw cbx lbx cbg lbg
  replace ba := ba.later hb
  replace bw := bw.later hb
  replace bx := bx.later hb
  replace bg := bg.later hb
  replace rs := rs.below hb yrs
  replace yrs := Nat.le_trans yrs hb.size
  replace re := re.below hb yre
  replace yre := Nat.le_trans yre hb.size
  replace og := og.fr (Fr.of_below (F := []) hb) (fun b hb => by simp)
  replace oe := oe.fr (Fr.of_below (F := []) hb) (fun b hb => by simp)
  replace hw := hw.trans (hb.mono hw.size)
  clear hb
  clear rg
  have hbd : 1 + cc.cnt ≤ 1099511627776 := by omega
  have hbe : 1 + cc.cnt + sumOf EditT.cnt es ≤ 1099511627776 := by omega
  have cba := ba.cell
  have lba := ba.lt
  have cbw := bw.cell
  have lbw := bw.lt
  have cbx := bx.cell
  have lbx := bx.lt
  have cbg := bg.cell
  have lbg := bg.lt
  go_wp2_with fail
  refine (markCode_any cc _ Fg _ 1 _ rfl og ng (by omega) hbd).mono ?_; rintro e w15 ⟨rfl, og', hf⟩
  clear cba lba cbw lbw cbx lbx cbg lbg
  have z15 : w14.heap.size ≤ w15.heap.size := hf.size
  replace ba := ba.fr hf (fun hb => by have := bog _ hb; omega)
  replace bw := bw.fr hf (fun hb => by have := bog _ hb; omega)
  replace bx := bx.fr hf (fun hb => by have := bog _ hb; omega)
  replace bg := bg.fr hf (fun hb => by have := bog _ hb; omega)
  replace rs := rs.fr hf (fun b hb => by have := bog b hb; omega) yrs
  replace yrs := Nat.le_trans yrs hf.size
  replace re := re.fr hf (fun b hb => by have := bog b hb; omega) yre
  replace yre := Nat.le_trans yre hf.size
  replace oe := oe.fr hf (fun b hb hb2 => dg b hb2 hb)
  replace hw := hw.trans (hf.below (fun b hb => by have := bog b hb; omega) hw.size)
  clear hf og
  have og := og'
  clear og'
  have cba := ba.cell
  have lba := ba.lt
  have cbw := bw.cell
  have lbw := bw.lt
  have cbx := bx.cell
  have lbx := bx.lt
  have cbg := bg.cell
  have lbg := bg.lt
  go_wp2_with fail
  refine (markEditS_clip es _ Gg _ (1 + cc.cnt) _ rfl oe (by omega) hbe).mono ?_; rintro e w16 ⟨rfl, oe', hf⟩
  clear cba lba cbw lbw cbx lbx cbg lbg
  have z16 : w15.heap.size ≤ w16.heap.size := hf.size
  replace ba := ba.fr hf (fun hb => by have := boe _ hb; omega)
  replace bw := bw.fr hf (fun hb => by have := boe _ hb; omega)
  replace bx := bx.fr hf (fun hb => by have := boe _ hb; omega)
  replace bg := bg.fr hf (fun hb => by have := boe _ hb; omega)
  replace rs := rs.fr hf (fun b hb => by have := boe b hb; omega) yrs
  replace yrs := Nat.le_trans yrs hf.size
  replace re := re.fr hf (fun b hb => by have := boe b hb; omega) yre
  replace yre := Nat.le_trans yre hf.size
  replace og := og.fr hf (fun b hb hb2 => dg b hb hb2)
  replace hw := hw.trans (hf.below (fun b hb => by have := boe b hb; omega) hw.size)
  clear hf oe
  have oe := oe'
  clear oe'
  have cba := ba.cell
  have lba := ba.lt
  have cbw := bw.cell
  have lbw := bw.lt
  have cbx := bx.cell
  have lbx := bx.lt
  have cbg := bg.cell
  have lbg := bg.lt
  go_wp2_with fail
  have rg : SRep w16 0 w16.heap.size CodeT.dats (.agg #[Value.slice Groutines cc.routines.length groutines, .slice Grecords cc.records.length grecords, .slice Gglobals cc.globals.length gglobals, .int .i64 cc.main, .slice Ginstrs cc.instrs.length ginstrs]) (cc.mark 1) := ⟨_, rfl, og.rep (fun g hg => ⟨Nat.zero_le _, og.lt g hg⟩)⟩
  refine (heldCode_any cc _ _ 1 _ _ _ rfl rg (Nat.le_refl _) (by omega) hbd).mono ?_; rintro e w17 ⟨rfl, hb⟩
  have z17 : w16.heap.size ≤ w17.heap.size := by have hh := hb.size; first | exact hh | (simp at hh; omega)
  clear cba lba cbw lbw cbx lbx cbg lbg
  replace ba := ba.later hb
  replace bw := bw.later hb
  replace bx := bx.later hb
  replace bg := bg.later hb
  replace rs := rs.below hb yrs
  replace yrs := Nat.le_trans yrs hb.size
  replace re := re.below hb yre
  replace yre := Nat.le_trans yre hb.size
  replace og := og.fr (Fr.of_below (F := []) hb) (fun b hb => by simp)
  replace oe := oe.fr (Fr.of_below (F := []) hb) (fun b hb => by simp)
  replace hw := hw.trans (hb.mono hw.size)
  clear hb
  clear rg
  have cba := ba.cell
  have lba := ba.lt
  have cbw := bw.cell
  have lbw := bw.lt
  have cbx := bx.cell
  have lbx := bx.lt
  have cbg := bg.cell
  have lbg := bg.lt
  go_wp2_with fail
  have rg : LRep w17 0 w17.heap.size 2 EditT.dats vg (markL EditT.mark EditT.cnt (1 + cc.cnt) es) := oe.rep (fun g hg => ⟨Nat.zero_le _, oe.lt g hg⟩)
  refine (heldEditS_any es _ _ (1 + cc.cnt) _ _ _ rfl rg (Nat.le_refl _) (by omega) hbe).mono ?_; rintro e w18 ⟨rfl, hb⟩
  have z18 : w17.heap.size ≤ w18.heap.size := by have hh := hb.size; first | exact hh | (simp at hh; omega)
  clear cba lba cbw lbw cbx lbx cbg lbg
  replace ba := ba.later hb
  replace bw := bw.later hb
  replace bx := bx.later hb
  replace bg := bg.later hb
  replace rs := rs.below hb yrs
  replace yrs := Nat.le_trans yrs hb.size
  replace re := re.below hb yre
  replace yre := Nat.le_trans yre hb.size
  replace og := og.fr (Fr.of_below (F := []) hb) (fun b hb => by simp)
  replace oe := oe.fr (Fr.of_below (F := []) hb) (fun b hb => by simp)
  replace hw := hw.trans (hb.mono hw.size)
  clear hb
  clear rg
  have cba := ba.cell
  have lba := ba.lt
  have cbw := bw.cell
  have lbw := bw.lt
  have cbx := bx.cell
  have lbx := bx.lt
  have cbg := bg.cell
  have lbg := bg.lt
  go_wp2_with fail
  refine (toCode_any c _ _ _ _ (h.below hw hhi) (Nat.le_trans hhi hw.size) hbk).mono ?_; rintro e w19 ⟨x2, rfl, hx, hb⟩
  have z19 : w18.heap.size ≤ w19.heap.size := by have hh := hb.size; first | exact hh | (simp at hh; omega)
  clear cba lba cbw lbw cbx lbx cbg lbg
  replace ba := ba.later hb
  replace bw := bw.later hb
  replace bx := bx.later hb
  replace bg := bg.later hb
  replace rs := rs.below hb yrs
  replace yrs := Nat.le_trans yrs hb.size
  replace re := re.below hb yre
  replace yre := Nat.le_trans yre hb.size
  replace og := og.fr (Fr.of_below (F := []) hb) (fun b hb => by simp)
  replace oe := oe.fr (Fr.of_below (F := []) hb) (fun b hb => by simp)
  replace hw := hw.trans (hb.mono hw.size)
  clear hb
  have yhx : w19.heap.size ≤ w19.heap.size := Nat.le_refl _
  have cba := ba.cell
  have lba := ba.lt
  have cbw := bw.cell
  have lbw := bw.lt
  have cbx := bx.cell
  have lbx := bx.lt
  have cbg := bg.cell
  have lbg := bg.lt
  go_wp2_with fail
  refine (impl_OptimizeCode c _ _ 0 _ (hx.wide (Nat.zero_le _) yhx) (Nat.le_refl _) (hst.below hw hst.2) HTX.out hbk).mono ?_; rintro e w20 ⟨cs, vh, Fh, Gh, rfl, gh, nh, eh, bFh, bGh, dh, hb⟩
  have z20 : w19.heap.size ≤ w20.heap.size := by have hh := hb.size; first | exact hh | (simp at hh; omega)
  clear cba lba cbw lbw cbx lbx cbg lbg
  replace ba := ba.later hb
  replace bw := bw.later hb
  replace bx := bx.later hb
  replace bg := bg.later hb
  replace rs := rs.below hb yrs
  replace yrs := Nat.le_trans yrs hb.size
  replace re := re.below hb yre
  replace yre := Nat.le_trans yre hb.size
  replace hx := hx.below hb yhx
  replace yhx := Nat.le_trans yhx hb.size
  replace og := og.fr (Fr.of_below (F := []) hb) (fun b hb => by simp)
  replace oe := oe.fr (Fr.of_below (F := []) hb) (fun b hb => by simp)
  replace hw := hw.trans (hb.mono hw.size)
  clear hb
  clear hx yhx
  rw [HL.out] at gh
  rw [HE.out] at eh
  obtain ⟨Hroutines, hroutines, Hrecords, hrecords, Hglobals, hglobals, Hinstrs, hinstrs, hcs, -⟩ := CodeT.form ⟨cs, rfl, gh.rep (lo := 0) (hi := w20.heap.size) (fun g hg => ⟨Nat.zero_le _, gh.lt g hg⟩)⟩
  obtain rfl : cs = [Value.slice Hroutines cc.routines.length hroutines, .slice Hrecords cc.records.length hrecords, .slice Hglobals cc.globals.length hglobals, .int .i64 cc.main, .slice Hinstrs cc.instrs.length hinstrs] := congrArg Array.toList (Value.agg.inj hcs)
  clear hcs
  have rh : SRep w20 w19.heap.size w20.heap.size CodeT.dats (.agg #[Value.slice Hroutines cc.routines.length hroutines, .slice Hrecords cc.records.length hrecords, .slice Hglobals cc.globals.length hglobals, .int .i64 cc.main, .slice Hinstrs cc.instrs.length hinstrs]) cc := ⟨_, rfl, gh.rep (fun g hg => ⟨bFh g hg, gh.lt g hg⟩)⟩
  have rk : LRep w20 w19.heap.size w20.heap.size 2 EditT.dats vh es := eh.rep (fun g hg => ⟨bGh g hg, eh.lt g hg⟩)
  clear gh eh nh bFh bGh dh
  have yrh : w20.heap.size ≤ w20.heap.size := Nat.le_refl _
  have yrk : w20.heap.size ≤ w20.heap.size := Nat.le_refl _
  have cba := ba.cell
  have lba := ba.lt
  have cbw := bw.cell
  have lbw := bw.lt
  have cbx := bx.cell
  have lbx := bx.lt
  have cbg := bg.cell
  have lbg := bg.lt
  go_wp2_with fail
  clear cba lba cbw lbw cbx lbx cbg lbg
  have kbh : Below w20.heap.size w20 (w20.alloc (.cells #[Value.slice Hroutines cc.routines.length hroutines, .slice Hrecords cc.records.length hrecords, .slice Hglobals cc.globals.length hglobals, .int .i64 cc.main, .slice Hinstrs cc.instrs.length hinstrs] 34)) := (Below.refl _ _).alloc (Nat.le_refl _) _
  replace ba := ba.later kbh
  replace bw := bw.later kbh
  replace bx := bx.later kbh
  replace bg := bg.later kbh
  replace rs := rs.below kbh yrs
  replace yrs := Nat.le_trans yrs kbh.size
  replace re := re.below kbh yre
  replace yre := Nat.le_trans yre kbh.size
  replace rh := rh.below kbh yrh
  replace yrh := Nat.le_trans yrh kbh.size
  replace rk := rk.below kbh yrk
  replace yrk := Nat.le_trans yrk kbh.size
  replace og := og.fr (Fr.of_below (F := []) kbh) (fun b hb => by simp)
  replace oe := oe.fr (Fr.of_below (F := []) kbh) (fun b hb => by simp)
  replace hw := hw.trans (kbh.mono hw.size)
  clear kbh
  have bh := Blk.new w20 34 #[Value.slice Hroutines cc.routines.length hroutines, .slice Hrecords cc.records.length hrecords, .slice Hglobals cc.globals.length hglobals, .int .i64 cc.main, .slice Hinstrs cc.instrs.length hinstrs]
  have s21 : (w20.alloc (.cells #[Value.slice Hroutines cc.routines.length hroutines, .slice Hrecords cc.records.length hrecords, .slice Hglobals cc.globals.length hglobals, .int .i64 cc.main, .slice Hinstrs cc.instrs.length hinstrs] 34)).heap.size = w20.heap.size + 1 := by simp
  obtain ⟨w21, hV⟩ : ∃ V, w20.alloc (.cells #[Value.slice Hroutines cc.routines.length hroutines, .slice Hrecords cc.records.length hrecords, .slice Hglobals cc.globals.length hglobals, .int .i64 cc.main, .slice Hinstrs cc.instrs.length hinstrs] 34) = V := ⟨_, rfl⟩
  rw [hV] at ba bw bx bg bh rs re rh rk yrs yre yrh yrk og oe hw s21 ⊢
  clear hV
  have cba := ba.cell
  have lba := ba.lt
  have cbw := bw.cell
  have lbw := bw.lt
  have cbx := bx.cell
  have lbx := bx.lt
  have cbg := bg.cell
  have lbg := bg.lt
  have cbh := bh.cell
  have lbh := bh.lt
  go_wp2_with fail
  refine (eqCode_any cc _ _ _ _ _ _ _ rh rs yrh yrs).mono ?_; rintro e w22 ⟨rfl, hb⟩
  have z22 : w21.heap.size ≤ w22.heap.size := by have hh := hb.size; first | exact hh | (simp at hh; omega)
  clear cba lba cbw lbw cbx lbx cbg lbg cbh lbh
  replace ba := ba.later hb
  replace bw := bw.later hb
  replace bx := bx.later hb
  replace bg := bg.later hb
  replace bh := bh.later hb
  replace rs := rs.below hb yrs
  replace yrs := Nat.le_trans yrs hb.size
  replace re := re.below hb yre
  replace yre := Nat.le_trans yre hb.size
  replace rh := rh.below hb yrh
  replace yrh := Nat.le_trans yrh hb.size
  replace rk := rk.below hb yrk
  replace yrk := Nat.le_trans yrk hb.size
  replace og := og.fr (Fr.of_below (F := []) hb) (fun b hb => by simp)
  replace oe := oe.fr (Fr.of_below (F := []) hb) (fun b hb => by simp)
  replace hw := hw.trans (hb.mono hw.size)
  clear hb
  have cba := ba.cell
  have lba := ba.lt
  have cbw := bw.cell
  have lbw := bw.lt
  have cbx := bx.cell
  have lbx := bx.lt
  have cbg := bg.cell
  have lbg := bg.lt
  have cbh := bh.cell
  have lbh := bh.lt
  go_wp2_with fail
  refine (eqEditS_any es _ _ _ _ _ _ _ rk re yrk yre).mono ?_; rintro e w23 ⟨rfl, hb⟩
  have z23 : w22.heap.size ≤ w23.heap.size := by have hh := hb.size; first | exact hh | (simp at hh; omega)
  clear cba lba cbw lbw cbx lbx cbg lbg cbh lbh
  replace ba := ba.later hb
  replace bw := bw.later hb
  replace bx := bx.later hb
  replace bg := bg.later hb
  replace bh := bh.later hb
  replace rs := rs.below hb yrs
  replace yrs := Nat.le_trans yrs hb.size
  replace re := re.below hb yre
  replace yre := Nat.le_trans yre hb.size
  replace rh := rh.below hb yrh
  replace yrh := Nat.le_trans yrh hb.size
  replace rk := rk.below hb yrk
  replace yrk := Nat.le_trans yrk hb.size
  replace og := og.fr (Fr.of_below (F := []) hb) (fun b hb => by simp)
  replace oe := oe.fr (Fr.of_below (F := []) hb) (fun b hb => by simp)
  replace hw := hw.trans (hb.mono hw.size)
  clear hb
  clear rh yrh
  clear rk yrk
  have cba := ba.cell
  have lba := ba.lt
  have cbw := bw.cell
  have lbw := bw.lt
  have cbx := bx.cell
  have lbx := bx.lt
  have cbg := bg.cell
  have lbg := bg.lt
  have cbh := bh.cell
  have lbh := bh.lt
  go_wp2_with fail
  have rg : SRep w23 0 w23.heap.size CodeT.dats (.agg #[Value.slice Groutines cc.routines.length groutines, .slice Grecords cc.records.length grecords, .slice Gglobals cc.globals.length gglobals, .int .i64 cc.main, .slice Ginstrs cc.instrs.length ginstrs]) (cc.mark 1) := ⟨_, rfl, og.rep (fun g hg => ⟨Nat.zero_le _, og.lt g hg⟩)⟩
  refine (heldCode_any cc _ _ 1 _ _ _ rfl rg (Nat.le_refl _) (by omega) hbd).mono ?_; rintro e w24 ⟨rfl, hb⟩
  have z24 : w23.heap.size ≤ w24.heap.size := by have hh := hb.size; first | exact hh | (simp at hh; omega)
  clear cba lba cbw lbw cbx lbx cbg lbg cbh lbh
  replace ba := ba.later hb
  replace bw := bw.later hb
  replace bx := bx.later hb
  replace bg := bg.later hb
  replace bh := bh.later hb
  replace rs := rs.below hb yrs
  replace yrs := Nat.le_trans yrs hb.size
  replace re := re.below hb yre
  replace yre := Nat.le_trans yre hb.size
  replace og := og.fr (Fr.of_below (F := []) hb) (fun b hb => by simp)
  replace oe := oe.fr (Fr.of_below (F := []) hb) (fun b hb => by simp)
  replace hw := hw.trans (hb.mono hw.size)
  clear hb
  clear rg
  have cba := ba.cell
  have lba := ba.lt
  have cbw := bw.cell
  have lbw := bw.lt
  have cbx := bx.cell
  have lbx := bx.lt
  have cbg := bg.cell
  have lbg := bg.lt
  have cbh := bh.cell
  have lbh := bh.lt
  go_wp2_with fail
  have rg : LRep w24 0 w24.heap.size 2 EditT.dats vg (markL EditT.mark EditT.cnt (1 + cc.cnt) es) := oe.rep (fun g hg => ⟨Nat.zero_le _, oe.lt g hg⟩)
  refine (heldEditS_any es _ _ (1 + cc.cnt) _ _ _ rfl rg (Nat.le_refl _) (by omega) hbe).mono ?_; rintro e w25 ⟨rfl, hb⟩
  have z25 : w24.heap.size ≤ w25.heap.size := by have hh := hb.size; first | exact hh | (simp at hh; omega)
  clear cba lba cbw lbw cbx lbx cbg lbg cbh lbh
  replace ba := ba.later hb
  replace bw := bw.later hb
  replace bx := bx.later hb
  replace bg := bg.later hb
  replace bh := bh.later hb
  replace rs := rs.below hb yrs
  replace yrs := Nat.le_trans yrs hb.size
  replace re := re.below hb yre
  replace yre := Nat.le_trans yre hb.size
  replace og := og.fr (Fr.of_below (F := []) hb) (fun b hb => by simp)
  replace oe := oe.fr (Fr.of_below (F := []) hb) (fun b hb => by simp)
  replace hw := hw.trans (hb.mono hw.size)
  clear hb
  clear rg
  have cba := ba.cell
  have lba := ba.lt
  have cbw := bw.cell
  have lbw := bw.lt
  have cbx := bx.cell
  have lbx := bx.lt
  have cbg := bg.cell
  have lbg := bg.lt
  have cbh := bh.cell
  have lbh := bh.lt
  go_wp2_with fail
  go_ret
  exact ⟨rfl, hw⟩
end Go.Proofs.YtekobbeoaalibaaGreatDoor
