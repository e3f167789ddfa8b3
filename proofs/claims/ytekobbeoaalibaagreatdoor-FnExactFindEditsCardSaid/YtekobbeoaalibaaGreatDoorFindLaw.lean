/- The law FnExactFindEdits: it returns true and writes nothing that was there. -/
import Derived.Test.YtekobbeoaalibaaGreatDoorFind
import Derived.Test.YtekobbeoaalibaaGreatDoorMarkAll
import Derived.Test.YtekobbeoaalibaaGreatDoorLawsAll
import Derived.Deep.RegionHeld3
namespace Go.Proofs.YtekobbeoaalibaaGreatDoor
open Go.RowKit
set_option linter.unusedVariables false

set_option maxRecDepth 100000 in
set_option maxHeartbeats 4000000 in
theorem law_FindEdits (x0 : Value) (c : CodeT) (kd : Int) (w : World) (lo hi : Nat) (h : SRep w lo hi CodeT.dats x0 c) (hhi : hi ≤ w.heap.size) (hf : c.Fits) (hst : SpaceTab w) :
    Calls Tryz.prog 6 #[x0, .int .i64 kd] w fun e w' => e = .returned (.bool true) ∧ Below w.heap.size w w' := by
  obtain ⟨Aroutines, nroutines, Arecords, nrecords, Aglobals, nglobals, Ainstrs, ninstrs, rfl, -⟩ := CodeT.form h
  have hw : Below w.heap.size w (w.alloc (.cells #[Value.slice Aroutines c.routines.length nroutines, .slice Arecords c.records.length nrecords, .slice Aglobals c.globals.length nglobals, .int .i64 c.main, .slice Ainstrs c.instrs.length ninstrs] 27)) := (Below.refl _ _).alloc (Nat.le_refl _) _
  have hcnt := findL_len c kd
  generalize hl0 : findL c kd = l0 at hcnt
  have HL0 := Lib.hid hl0
  clear hl0
  go_enter Tryz.func6, Tryz.ntmps6
  go_wp2_with fail
  refine (szCode_any c _ _ _ _ _ (h.below hw hhi) (by simp; omega) (by omega) (by omega) hf).mono ?_; rintro e w1 ⟨rfl, hb⟩
  have z1 : w.heap.size < w1.heap.size := by have hh := hb.size; simp at hh; omega
  have ba := (Blk.new w 27 #[Value.slice Aroutines c.routines.length nroutines, .slice Arecords c.records.length nrecords, .slice Aglobals c.globals.length nglobals, .int .i64 c.main, .slice Ainstrs c.instrs.length ninstrs]).later hb
  replace hw := hw.trans (hb.mono hw.size)
  clear hb
  have cba := ba.cell
  have lba := ba.lt
  by_cases hk1 : (1048576 : Int) < c.bulk
  · rw [leftOf_no hk1]
    go_wp2_with fail
    go_ret
    exact ⟨rfl, hw⟩
  rw [leftOf_yes hk1]
  have hbk : c.bulk ≤ 1048576 := by omega
  have htx : ∀ y ∈ c.instrs, y.text.size ≤ 1048576 := fun y hy => by have h1 : y.text.size ≤ sumOf InsT.bulk c.instrs := sumOf_mem (b := InsT.bulk) hy; unfold CodeT.bulk at hbk; omega
  have hci : c.instrs.length ≤ 1048576 := by unfold CodeT.bulk at hbk; omega
  have hcc := CodeT.cnt_le c
  go_wp2_with fail
  refine (toCode_any c _ _ _ _ (h.below hw hhi) (Nat.le_trans hhi hw.size) hbk).mono ?_; rintro e w2 ⟨x1, rfl, hx, hb⟩
  have z2 : w1.heap.size ≤ w2.heap.size := by have hh := hb.size; first | exact hh | (simp at hh; omega)
  clear cba lba
  replace ba := ba.later hb
  replace hw := hw.trans (hb.mono hw.size)
  clear hb
  have yhx : w2.heap.size ≤ w2.heap.size := Nat.le_refl _
  have cba := ba.cell
  have lba := ba.lt
  go_wp2_with fail
  refine (spec_FindEdits c _ kd _ _ _ hx yhx htx).mono ?_; rintro e w3 ⟨vs, rfl, gs, hb⟩
  have z3 : w2.heap.size ≤ w3.heap.size := by have hh := hb.size; first | exact hh | (simp at hh; omega)
  clear cba lba
  replace ba := ba.later hb
  replace hw := hw.trans (hb.mono hw.size)
  clear hb
  rw [HL0.out] at gs
  replace gs := gs.rep
  clear hx yhx
  have ygs : w3.heap.size ≤ w3.heap.size := Nat.le_refl _
  have cba := ba.cell
  have lba := ba.lt
  go_wp2_with fail
  refine (toCode_made c _ _ _ _ (h.below hw hhi) (Nat.le_trans hhi hw.size) hbk).mono ?_; rintro e w4 ⟨cs, rfl, hx, hb⟩
  have z4 : w3.heap.size ≤ w4.heap.size := by have hh := hb.size; first | exact hh | (simp at hh; omega)
  clear cba lba
  replace ba := ba.later hb
  replace gs := gs.below hb ygs
  replace ygs := Nat.le_trans ygs hb.size
  replace hw := hw.trans (hb.mono hw.size)
  clear hb
  obtain ⟨Fx, ox, nx, bx⟩ := hx
  have box := bx
  clear bx
  obtain ⟨B0, m0, B1, m1, B2, m2, B3, m3, hcs, -⟩ := CodeT.form ⟨cs, rfl, ox.rep (lo := 0) (hi := w4.heap.size) (fun g hg => ⟨Nat.zero_le _, ox.lt g hg⟩)⟩
  obtain rfl : cs = [Value.slice B0 c.routines.length m0, .slice B1 c.records.length m1, .slice B2 c.globals.length m2, .int .i64 c.main, .slice B3 c.instrs.length m3] := congrArg Array.toList (Value.agg.inj hcs)
  clear hcs
  have cba := ba.cell
  have lba := ba.lt
  go_wp2_with fail
  clear cba lba
  have kbe : Below w4.heap.size w4 (w4.alloc (.cells #[Value.slice B0 c.routines.length m0, .slice B1 c.records.length m1, .slice B2 c.globals.length m2, .int .i64 c.main, .slice B3 c.instrs.length m3] 34)) := (Below.refl _ _).alloc (Nat.le_refl _) _
  replace ba := ba.later kbe
  replace gs := gs.below kbe ygs
  replace ygs := Nat.le_trans ygs kbe.size
  replace ox := ox.fr (Fr.of_below (F := []) kbe) (fun b hb => by simp)
  replace hw := hw.trans (kbe.mono hw.size)
  clear kbe
  have be := Blk.new w4 34 #[Value.slice B0 c.routines.length m0, .slice B1 c.records.length m1, .slice B2 c.globals.length m2, .int .i64 c.main, .slice B3 c.instrs.length m3]
  have hx : SRep (w4.alloc (.cells #[Value.slice B0 c.routines.length m0, .slice B1 c.records.length m1, .slice B2 c.globals.length m2, .int .i64 c.main, .slice B3 c.instrs.length m3] 34)) 0 w4.heap.size CodeT.dats (.agg #[Value.slice B0 c.routines.length m0, .slice B1 c.records.length m1, .slice B2 c.globals.length m2, .int .i64 c.main, .slice B3 c.instrs.length m3]) c := ⟨_, rfl, ox.rep (fun g hg => ⟨Nat.zero_le _, (box g hg).2⟩)⟩
  have cba := ba.cell
  have lba := ba.lt
  have cbe := be.cell
  have lbe := be.lt
  refine (impl_FindEdits c _ kd _ _ _ hx (by simp) (hst.below hw hst.2) htx).mono ?_; rintro e w5 ⟨vi, rfl, gi, hb⟩
  have z5 : w4.heap.size ≤ w5.heap.size := by have hh := hb.size; first | exact hh | (simp at hh; omega)
  clear cba lba cbe lbe
  replace ba := ba.later hb
  replace be := be.later hb
  replace gs := gs.below hb ygs
  replace ygs := Nat.le_trans ygs hb.size
  replace ox := ox.fr (Fr.of_below (F := []) hb) (fun b hb => by simp)
  replace hw := hw.trans (hb.mono hw.size)
  clear hb
  clear hx
  rw [HL0.out] at gi
  obtain ⟨Fg, og, ng, bog⟩ := gi
  replace bog : ∀ g ∈ Fg, w4.heap.size + 1 ≤ g ∧ g < w5.heap.size := fun g hg => ⟨by simpa using (bog g hg).1, (bog g hg).2⟩
  have rg : LRep w5 0 w5.heap.size 2 EditT.dats vi l0 := og.rep (fun g hg => ⟨Nat.zero_le _, og.lt g hg⟩)
  have cba := ba.cell
  have lba := ba.lt
  have cbe := be.cell
  have lbe := be.lt
  go_wp2_with fail
  refine (eqEditS_any l0 _ _ _ _ _ _ _ rg gs (Nat.le_refl _) ygs).mono ?_; rintro e w6 ⟨rfl, hb⟩
  have z6 : w5.heap.size ≤ w6.heap.size := by have hh := hb.size; first | exact hh | (simp at hh; omega)
  clear cba lba cbe lbe
  replace ba := ba.later hb
  replace be := be.later hb
  replace gs := gs.below hb ygs
  replace ygs := Nat.le_trans ygs hb.size
  replace ox := ox.fr (Fr.of_below (F := []) hb) (fun b hb => by simp)
  replace og := og.fr (Fr.of_below (F := []) hb) (fun b hb => by simp)
  replace hw := hw.trans (hb.mono hw.size)
  clear hb
  clear rg
  have cba := ba.cell
  have lba := ba.lt
  have cbe := be.cell
  have lbe := be.lt
  go_wp2_with fail
  have hx : SRep w6 0 w6.heap.size CodeT.dats (.agg #[Value.slice B0 c.routines.length m0, .slice B1 c.records.length m1, .slice B2 c.globals.length m2, .int .i64 c.main, .slice B3 c.instrs.length m3]) c := ⟨_, rfl, ox.rep (fun g hg => ⟨Nat.zero_le _, ox.lt g hg⟩)⟩
  have y1 : w.heap.size ≤ w6.drew.heap.size := hw.size
  have y2 : hi ≤ w6.drew.heap.size := Nat.le_trans hhi hw.size
  go_region_held3 (fun w' => (∀ i, w'.cell? ⟨w.heap.size, i, none⟩ = #[Value.slice Aroutines c.routines.length nroutines, .slice Arecords c.records.length nrecords, .slice Aglobals c.globals.length nglobals, .int .i64 c.main, .slice Ainstrs c.instrs.length ninstrs][i]?) ∧ (∀ i, w'.cell? ⟨w4.heap.size, i, none⟩ = #[Value.slice B0 c.routines.length m0, .slice B1 c.records.length m1, .slice B2 c.globals.length m2, .int .i64 c.main, .slice B3 c.instrs.length m3][i]?))
    (first | exact ⟨cba, cbe⟩ | exact ⟨(ba.drew.later hbA).cell, (be.drew.later hbA).cell⟩ | exact ⟨((ba.drew.later hbA).later hbB).cell, ((be.drew.later hbA).later hbB).cell⟩)
    (first
      | (go_at_call 11; refine (toCode_any c _ _ _ _ (h.below hw.drew hhi) y2 hbk).mono ?_; rintro e wA ⟨xA, rfl, hrA, hbA⟩)
      | (go_at_call 13; refine (eqCode_any c _ _ _ _ _ _ _ (hx.below ((Below.refl w6.heap.size w6).drew.trans hbA) (Nat.le_refl _)) hrA hbA.size (Nat.le_refl _)).mono ?_; rintro e wB ⟨rfl, hbB⟩))
  have hb : Below w6.heap.size w6 wB := (((Below.refl _ _).drew).trans hbA).trans (hbB.mono hbA.size)
  clear hbA hbB hrA hx y1 y2
  clear cba lba cbe lbe
  obtain ⟨w7, rfl⟩ : ∃ w', w' = wB := ⟨_, rfl⟩
  have z7 : w6.heap.size ≤ w7.heap.size := hb.size
  replace ba := ba.later hb
  replace be := be.later hb
  replace gs := gs.below hb ygs
  replace ygs := Nat.le_trans ygs hb.size
  replace ox := ox.fr (Fr.of_below (F := []) hb) (fun b hb => by simp)
  replace og := og.fr (Fr.of_below (F := []) hb) (fun b hb => by simp)
  replace hw := hw.trans (hb.mono hw.size)
  clear hb
  have cba := ba.cell
  have lba := ba.lt
  have cbe := be.cell
  have lbe := be.lt
  go_wp2_with fail
  refine (markCode_any c _ Fx _ 1 _ rfl ox nx (by omega) (by omega)).mono ?_; rintro e w8 ⟨rfl, ox', hf⟩
  clear cba lba cbe lbe
  have z8 : w7.heap.size ≤ w8.heap.size := hf.size
  replace ba := ba.fr hf (fun hb => by have := box _ hb; omega)
  replace be := be.fr hf (fun hb => by have := box _ hb; omega)
  replace gs := gs.fr hf (fun b hb => by have := box b hb; omega) ygs
  replace ygs := Nat.le_trans ygs hf.size
  replace og := og.fr hf (fun b hb hb' => by have := box b hb'; have := bog b hb; omega)
  replace hw := hw.trans (hf.below (fun b hb => by have := box b hb; omega) hw.size)
  clear hf ox
  clear ox'
  have rg : LRep w8 0 w8.heap.size 2 EditT.dats vi l0 := og.rep (fun g hg => ⟨Nat.zero_le _, og.lt g hg⟩)
  have cba := ba.cell
  have lba := ba.lt
  have cbe := be.cell
  have lbe := be.lt
  go_wp2_with fail
  refine (eqEditS_any l0 _ _ _ _ _ _ _ rg gs (Nat.le_refl _) ygs).mono ?_; rintro e w9 ⟨rfl, hb⟩
  have z9 : w8.heap.size ≤ w9.heap.size := by have hh := hb.size; first | exact hh | (simp at hh; omega)
  clear cba lba cbe lbe
  replace ba := ba.later hb
  replace be := be.later hb
  replace gs := gs.below hb ygs
  replace ygs := Nat.le_trans ygs hb.size
  replace og := og.fr (Fr.of_below (F := []) hb) (fun b hb => by simp)
  replace hw := hw.trans (hb.mono hw.size)
  clear hb
  clear rg
  have hbd : 1 + sumOf EditT.cnt l0 ≤ 1099511627776 := by rw [edits_cnt]; omega
  have cba := ba.cell
  have lba := ba.lt
  have cbe := be.cell
  have lbe := be.lt
  go_wp2_with fail
  refine (markEditS_any l0 _ Fg _ 1 _ rfl og ng (by omega) hbd).mono ?_; rintro e w10 ⟨rfl, og', hf⟩
  clear cba lba cbe lbe
  have z10 : w9.heap.size ≤ w10.heap.size := hf.size
  replace ba := ba.fr hf (fun hb => by have := bog _ hb; omega)
  replace be := be.fr hf (fun hb => by have := bog _ hb; omega)
  replace gs := gs.fr hf (fun b hb => by have := bog b hb; omega) ygs
  replace ygs := Nat.le_trans ygs hf.size
  replace hw := hw.trans (hf.below (fun b hb => by have := bog b hb; omega) hw.size)
  clear hf og
  have og := og'
  clear og'
  have cba := ba.cell
  have lba := ba.lt
  have cbe := be.cell
  have lbe := be.lt
  go_wp2_with fail
  have rg : LRep w10 0 w10.heap.size 2 EditT.dats vi (markL EditT.mark EditT.cnt 1 l0) := og.rep (fun g hg => ⟨Nat.zero_le _, og.lt g hg⟩)
  refine (heldEditS_any l0 _ _ 1 _ _ _ rfl rg (Nat.le_refl _) (by omega) hbd).mono ?_; rintro e w11 ⟨rfl, hb⟩
  have z11 : w10.heap.size ≤ w11.heap.size := by have hh := hb.size; first | exact hh | (simp at hh; omega)
  clear cba lba cbe lbe
  replace ba := ba.later hb
  replace be := be.later hb
  replace gs := gs.below hb ygs
  replace ygs := Nat.le_trans ygs hb.size
  replace og := og.fr (Fr.of_below (F := []) hb) (fun b hb => by simp)
  replace hw := hw.trans (hb.mono hw.size)
  clear hb
  clear rg
  have cba := ba.cell
  have lba := ba.lt
  have cbe := be.cell
  have lbe := be.lt
  go_wp2_with fail
  refine (toCode_any c _ _ _ _ (h.below hw hhi) (Nat.le_trans hhi hw.size) hbk).mono ?_; rintro e w12 ⟨x1, rfl, hx, hb⟩
  have z12 : w11.heap.size ≤ w12.heap.size := by have hh := hb.size; first | exact hh | (simp at hh; omega)
  clear cba lba cbe lbe
  replace ba := ba.later hb
  replace be := be.later hb
  replace gs := gs.below hb ygs
  replace ygs := Nat.le_trans ygs hb.size
  replace og := og.fr (Fr.of_below (F := []) hb) (fun b hb => by simp)
  replace hw := hw.trans (hb.mono hw.size)
  clear hb
  have yhx : w12.heap.size ≤ w12.heap.size := Nat.le_refl _
  have cba := ba.cell
  have lba := ba.lt
  have cbe := be.cell
  have lbe := be.lt
  go_wp2_with fail
  refine (impl_FindEdits c _ kd _ _ _ hx yhx (hst.below hw hst.2) htx).mono ?_; rintro e w13 ⟨vh, rfl, gh, hb⟩
  have z13 : w12.heap.size ≤ w13.heap.size := by have hh := hb.size; first | exact hh | (simp at hh; omega)
  clear cba lba cbe lbe
  replace ba := ba.later hb
  replace be := be.later hb
  replace gs := gs.below hb ygs
  replace ygs := Nat.le_trans ygs hb.size
  replace og := og.fr (Fr.of_below (F := []) hb) (fun b hb => by simp)
  replace hw := hw.trans (hb.mono hw.size)
  clear hb
  rw [HL0.out] at gh
  replace gh := gh.rep
  clear hx yhx
  have cba := ba.cell
  have lba := ba.lt
  have cbe := be.cell
  have lbe := be.lt
  go_wp2_with fail
  refine (eqEditS_any l0 _ _ _ _ _ _ _ gh gs (Nat.le_refl _) ygs).mono ?_; rintro e w14 ⟨rfl, hb⟩
  have z14 : w13.heap.size ≤ w14.heap.size := by have hh := hb.size; first | exact hh | (simp at hh; omega)
  clear cba lba cbe lbe
  replace ba := ba.later hb
  replace be := be.later hb
  replace gs := gs.below hb ygs
  replace ygs := Nat.le_trans ygs hb.size
  replace og := og.fr (Fr.of_below (F := []) hb) (fun b hb => by simp)
  replace hw := hw.trans (hb.mono hw.size)
  clear hb
  clear gh
  have cba := ba.cell
  have lba := ba.lt
  have cbe := be.cell
  have lbe := be.lt
  go_wp2_with fail
  have rg : LRep w14 0 w14.heap.size 2 EditT.dats vi (markL EditT.mark EditT.cnt 1 l0) := og.rep (fun g hg => ⟨Nat.zero_le _, og.lt g hg⟩)
  refine (heldEditS_any l0 _ _ 1 _ _ _ rfl rg (Nat.le_refl _) (by omega) hbd).mono ?_; rintro e w15 ⟨rfl, hb⟩
  have z15 : w14.heap.size ≤ w15.heap.size := by have hh := hb.size; first | exact hh | (simp at hh; omega)
  clear cba lba cbe lbe
  replace ba := ba.later hb
  replace be := be.later hb
  replace gs := gs.below hb ygs
  replace ygs := Nat.le_trans ygs hb.size
  replace og := og.fr (Fr.of_below (F := []) hb) (fun b hb => by simp)
  replace hw := hw.trans (hb.mono hw.size)
  clear hb
  clear rg
  have cba := ba.cell
  have lba := ba.lt
  have cbe := be.cell
  have lbe := be.lt
  go_wp2_with fail
  go_ret
  exact ⟨rfl, hw⟩
end Go.Proofs.YtekobbeoaalibaaGreatDoor
