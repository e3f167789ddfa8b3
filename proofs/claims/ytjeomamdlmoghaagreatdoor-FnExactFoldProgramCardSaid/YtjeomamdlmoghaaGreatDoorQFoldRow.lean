/- FoldProgram of both: the walks over the contracts of what they call; how much a folded program counts. The law FnExactFoldProgram: it returns true and writes nothing that was there. The table of ASCII blanks out of a row's listed variables. The table of powers of ten out of a row's listed variables. An argument of the laws' type Program, opened: it reads as a ProgT. FnExactFoldProgram: row and card. For every input the law returns true and each argument reads as before. -/
import Derived.Test.YtjeomamdlmoghaaGreatDoorQ00
import Derived.Test.YtjeomamdlmoghaaGreatDoorQ03
import Derived.Test.YtjeomamdlmoghaaGreatDoorQ04
import Derived.Test.YtjeomamdlmoghaaGreatDoorQ05
import Derived.Test.YtjeomamdlmoghaaGreatDoorQ08
import Derived.Test.YtjeomamdlmoghaaGreatDoorQ11
import Derived.Test.YtjeomamdlmoghaaGreatDoorQ12
import Derived.Test.YtjeomamdlmoghaaGreatDoorQ15
import Derived.Test.YtjeomamdlmoghaaGreatDoorQ16
import Derived.Test.YtjeomamdlmoghaaGreatDoorQ18
import Derived.Test.YtjeomamdlmoghaaGreatDoorQ30
import Derived.Deep.RegionHeld3
import Derived.Test.YtjeomamdlmoghaaGreatDoorRows
import Derived.LaidSub
import Derived.Deep.Slices
import Derived.Deep.Fields
import Derived.ChangeSame
import Derived.Test.YtjeomamdlmoghaaGreatDoorCards
import Derived.Test.YtjeomamdlmoghaaGreatDoorTie
import Derived.Deep.DeepHandedRow
import Derived.Lib.LaidTab
import Derived.LaidMore
import Derived.Lay
import Derived.Carry
import Derived.Lib.SmallJoins
set_option maxRecDepth 100000
set_option maxHeartbeats 8000000
set_option linter.unusedVariables false
set_option linter.unusedSimpArgs false
section
namespace Go.Proofs.YtjeomamdlmoghaaGreatDoor
open Go.RowKit
theorem impl_FoldProgram (c : ProgT) (x : Value) (w : World) (lo hi : Nat) (h : SRep w lo hi ProgT.dats x c) (hhi : hi ≤ w.heap.size) (hbk : c.bulk ≤ 1048576) (hst : SpaceTab w) (hpt : PowTab w) :
 Calls Tryz.prog 7 #[x] w (FoldPR c w) :=
 impl_FoldProgram_of (fun W => SpaceTab W ∧ PowTab W) (fun W W' h hb => ⟨h.1.later hb, h.2.later hb⟩) (fun vc w lo hi c hc hhi ht hbk => impl_IsValidProgram c vc w lo hi hc hhi ht.1 hbk)
  (fun c A n w lo hi h hhi hc hbk ht => impl_foldCore c A n w lo hi h hhi hc hbk ht.1 ht.2) c x w lo hi h hhi hbk ⟨hst, hpt⟩
theorem spec_FoldProgram (c : ProgT) (x : Value) (w : World) (lo hi : Nat) (h : SRep w lo hi ProgT.dats x c) (hhi : hi ≤ w.heap.size) (hbk : c.bulk ≤ 1048576) :
 Calls Tryz.prog 5 #[x] w (FoldPR c w) :=
 spec_FoldProgram_of (fun _ => True) (fun _ _ _ _ => trivial) (fun vc w lo hi c hc hhi _ hbk => spec_IsValidProgram c vc w lo hi hc hhi hbk)
  (fun c A n w lo hi h hhi hc hbk _ => spec_l34Fold c A n w lo hi h hhi hc hbk) c x w lo hi h hhi hbk trivial
theorem fold_sum (l : List RouT) : sumOf RouT.cnt (l.map foldR) ≤ sumOf RouT.cnt l := by
 induction l with
 | nil => exact Nat.le_refl _
 | cons r l ih =>
   have h := fold_nodes r.body
   have h1 := RouT.cnt_eq (foldR r)
   have h2 := RouT.cnt_eq r
   have h3 : (foldR r).slots.length = r.slots.length := rfl
   have h4 : (foldR r).body.nodes = (foldT r.body).nodes := rfl
   simp only [List.map_cons, sumOf]
   omega
theorem fold_cnt (c : ProgT) (hbk : c.bulk ≤ 1048576) : (foldP c).cnt ≤ 1099511000000 := by
 have h := c.cnt_le
 unfold foldP
 split
 ·have h1 := fold_sum c.routines
  unfold ProgT.cnt at h ⊢
  show sumOf RouT.cnt (c.routines.map foldR) + sumOf RecT.cnt c.records + sumOf strCnt c.globals ≤ _
  omega
 ·unfold ProgT.cnt zeroP
  simp [sumOf]
end Go.Proofs.YtjeomamdlmoghaaGreatDoor
end
section
namespace Go.Proofs.YtjeomamdlmoghaaGreatDoor
open Go.RowKit
theorem law_FoldProgram (x0 : Value) (c : ProgT) (w : World) (lo hi : Nat) (h : SRep w lo hi ProgT.dats x0 c) (hhi : hi ≤ w.heap.size) (hf : c.Fits) (hst : SpaceTab w) (hpt : PowTab w) :
 Calls Tryz.prog 3 #[x0] w fun e w' => e = .returned (.bool true) ∧ Below w.heap.size w w' := by
 obtain ⟨Aroutines, nroutines, Arecords, nrecords, Aglobals, nglobals, rfl, -⟩ := ProgT.form h
 have hw : Below w.heap.size w (w.alloc (.cells #[Value.slice Aroutines c.routines.length nroutines, .slice Arecords c.records.length nrecords, .slice Aglobals c.globals.length nglobals, .int .i64 c.main] 26)) := (Below.refl _ _).alloc (Nat.le_refl _) _
 obtain ⟨vb, hvb⟩ : ∃ b, validProg c = b := ⟨_, rfl⟩
 have hrr : (vb != vb) = false := by cases vb <;> rfl
 have HV := Lib.hid hvb
 clear hvb
 go_enter Tryz.func3, Tryz.ntmps3
 go_wp2_with fail
 refine (szProgram_any c _ _ _ _ _ (h.below hw hhi) (by simp; omega) (by omega) (by omega) hf).mono ?_; rintro e w1 ⟨rfl, hb⟩
 have z1 : w.heap.size < w1.heap.size := by have hh := hb.size; simp at hh; omega
 have ba := (Blk.new w 26 #[Value.slice Aroutines c.routines.length nroutines, .slice Arecords c.records.length nrecords, .slice Aglobals c.globals.length nglobals, .int .i64 c.main]).later hb
 replace hw := hw.trans (hb.mono hw.size)
 clear hb
 have cba := ba.cell
 have lba := ba.lt
 by_cases hk1 : (1048576 : Int) < c.bulk
 ·rw [leftOf_no hk1]
  go_wp2_with fail
  go_ret
  exact ⟨rfl, hw⟩
 rw [leftOf_yes hk1]
 have hbk : c.bulk ≤ 1048576 := by omega
 have hcc := ProgT.cnt_le c
 have hcnt := fold_cnt c hbk
 generalize hl0 : foldP c = cc at hcnt
 have HL := Lib.hid hl0
 clear hl0
 clear cba lba
 have cba := ba.cell
 have lba := ba.lt
 go_wp2_with fail
 refine (toProgram_any c _ _ _ _ (h.below hw hhi) (Nat.le_trans hhi hw.size) hbk).mono ?_; rintro e w2 ⟨x1, rfl, hx, hb⟩
 have z2 : w1.heap.size ≤ w2.heap.size := by have hh := hb.size; first | exact hh | (simp at hh; omega)
 clear cba lba
 replace ba := ba.later hb
 replace hw := hw.trans (hb.mono hw.size)
 clear hb
 have yhx : w2.heap.size ≤ w2.heap.size := Nat.le_refl _
 have cba := ba.cell
 have lba := ba.lt
 go_wp2_with fail
 refine (spec_FoldProgram c _ _ 0 _ (hx.wide (Nat.zero_le _) yhx) (Nat.le_refl _) hbk).mono ?_; rintro e w3 ⟨cs, rfl, gs, hb⟩
 have z3 : w2.heap.size ≤ w3.heap.size := by have hh := hb.size; first | exact hh | (simp at hh; omega)
 clear cba lba
 replace ba := ba.later hb
 replace hx := hx.below hb yhx
 replace yhx := Nat.le_trans yhx hb.size
 replace hw := hw.trans (hb.mono hw.size)
 clear hb
 clear hx yhx
 rw [HV.out]
 rw [HL.out] at gs
 obtain ⟨Sroutines, sroutines, Srecords, srecords, Sglobals, sglobals, hcs, -⟩ := ProgT.form ⟨cs, rfl, gs.rep⟩
 obtain rfl : cs = [Value.slice Sroutines cc.routines.length sroutines, .slice Srecords cc.records.length srecords, .slice Sglobals cc.globals.length sglobals, .int .i64 cc.main] := congrArg Array.toList (Value.agg.inj hcs)
 clear hcs
 replace gs : SRep w3 _ _ ProgT.dats (.agg #[Value.slice Sroutines cc.routines.length sroutines, .slice Srecords cc.records.length srecords, .slice Sglobals cc.globals.length sglobals, .int .i64 cc.main]) cc := ⟨_, rfl, gs.rep⟩
 have ygs : w3.heap.size ≤ w3.heap.size := Nat.le_refl _
 have cba := ba.cell
 have lba := ba.lt
 go_wp2_with fail
 clear cba lba
 have kbw : Below w3.heap.size w3 (w3.alloc (.cells #[Value.slice Sroutines cc.routines.length sroutines, .slice Srecords cc.records.length srecords, .slice Sglobals cc.globals.length sglobals, .int .i64 cc.main] 31)) := (Below.refl _ _).alloc (Nat.le_refl _) _
 replace ba := ba.later kbw
 replace gs := gs.below kbw ygs
 replace ygs := Nat.le_trans ygs kbw.size
 replace hw := hw.trans (kbw.mono hw.size)
 clear kbw
 have bw := Blk.new w3 31 #[Value.slice Sroutines cc.routines.length sroutines, .slice Srecords cc.records.length srecords, .slice Sglobals cc.globals.length sglobals, .int .i64 cc.main]
 have s4 : (w3.alloc (.cells #[Value.slice Sroutines cc.routines.length sroutines, .slice Srecords cc.records.length srecords, .slice Sglobals cc.globals.length sglobals, .int .i64 cc.main] 31)).heap.size = w3.heap.size + 1 := by simp
 obtain ⟨w4, hV⟩ : ∃ V, w3.alloc (.cells #[Value.slice Sroutines cc.routines.length sroutines, .slice Srecords cc.records.length srecords, .slice Sglobals cc.globals.length sglobals, .int .i64 cc.main] 31) = V := ⟨_, rfl⟩
 rw [hV] at ba bw gs ygs hw s4 ⊢
 clear hV
 have cba := ba.cell
 have lba := ba.lt
 have cbw := bw.cell
 have lbw := bw.lt
 go_wp2_with fail
 refine (toProgram_made c _ _ _ _ (h.below hw hhi) (Nat.le_trans hhi hw.size) hbk).mono ?_; rintro e w5 ⟨cs, rfl, hx, hb⟩
 have z5 : w4.heap.size ≤ w5.heap.size := by have hh := hb.size; first | exact hh | (simp at hh; omega)
 clear cba lba cbw lbw
 replace ba := ba.later hb
 replace bw := bw.later hb
 replace gs := gs.below hb ygs
 replace ygs := Nat.le_trans ygs hb.size
 replace hw := hw.trans (hb.mono hw.size)
 clear hb
 obtain ⟨Fx, ox, nx, box⟩ := hx
 obtain ⟨Broutines, mroutines, Brecords, mrecords, Bglobals, mglobals, hcs, -⟩ := ProgT.form ⟨cs, rfl, ox.rep (lo := 0) (hi := w5.heap.size) (fun g hg => ⟨Nat.zero_le _, ox.lt g hg⟩)⟩
 obtain rfl : cs = [Value.slice Broutines c.routines.length mroutines, .slice Brecords c.records.length mrecords, .slice Bglobals c.globals.length mglobals, .int .i64 c.main] := congrArg Array.toList (Value.agg.inj hcs)
 clear hcs
 have cba := ba.cell
 have lba := ba.lt
 have cbw := bw.cell
 have lbw := bw.lt
 go_wp2_with fail
 clear cba lba cbw lbw
 have kbx : Below w5.heap.size w5 (w5.alloc (.cells #[Value.slice Broutines c.routines.length mroutines, .slice Brecords c.records.length mrecords, .slice Bglobals c.globals.length mglobals, .int .i64 c.main] 31)) := (Below.refl _ _).alloc (Nat.le_refl _) _
 replace ba := ba.later kbx
 replace bw := bw.later kbx
 replace gs := gs.below kbx ygs
 replace ygs := Nat.le_trans ygs kbx.size
 replace ox := ox.fr (Fr.of_below (F := []) kbx) (fun b hb => by simp)
 replace hw := hw.trans (kbx.mono hw.size)
 clear kbx
 have bx := Blk.new w5 31 #[Value.slice Broutines c.routines.length mroutines, .slice Brecords c.records.length mrecords, .slice Bglobals c.globals.length mglobals, .int .i64 c.main]
 have s6 : (w5.alloc (.cells #[Value.slice Broutines c.routines.length mroutines, .slice Brecords c.records.length mrecords, .slice Bglobals c.globals.length mglobals, .int .i64 c.main] 31)).heap.size = w5.heap.size + 1 := by simp
 obtain ⟨w6, hV⟩ : ∃ V, w5.alloc (.cells #[Value.slice Broutines c.routines.length mroutines, .slice Brecords c.records.length mrecords, .slice Bglobals c.globals.length mglobals, .int .i64 c.main] 31) = V := ⟨_, rfl⟩
 rw [hV] at ba bw bx gs ygs ox hw s6 ⊢
 clear hV
 have cba := ba.cell
 have lba := ba.lt
 have cbw := bw.cell
 have lbw := bw.lt
 have cbx := bx.cell
 have lbx := bx.lt
 go_wp2_with fail
 have hx : SRep w6 0 w6.heap.size ProgT.dats (.agg #[Value.slice Broutines c.routines.length mroutines, .slice Brecords c.records.length mrecords, .slice Bglobals c.globals.length mglobals, .int .i64 c.main]) c := ⟨_, rfl, ox.rep (fun g hg => ⟨Nat.zero_le _, ox.lt g hg⟩)⟩
 refine (impl_FoldProgram c _ _ 0 _ hx (Nat.le_refl _) hbk (hst.below hw hst.2) (hpt.below hw hpt.2)).mono ?_; rintro e w7 ⟨cs, rfl, gi, hb⟩
 have z7 : w6.heap.size ≤ w7.heap.size := by have hh := hb.size; first | exact hh | (simp at hh; omega)
 clear cba lba cbw lbw cbx lbx
 replace ba := ba.later hb
 replace bw := bw.later hb
 replace bx := bx.later hb
 replace gs := gs.below hb ygs
 replace ygs := Nat.le_trans ygs hb.size
 replace ox := ox.fr (Fr.of_below (F := []) hb) (fun b hb => by simp)
 replace hw := hw.trans (hb.mono hw.size)
 clear hb
 clear hx
 rw [HV.out]
 rw [HL.out] at gi
 obtain ⟨Fg, og, ng, bog⟩ := gi
 obtain ⟨Groutines, groutines, Grecords, grecords, Gglobals, gglobals, hcs, -⟩ := ProgT.form ⟨cs, rfl, og.rep (lo := 0) (hi := w7.heap.size) (fun g hg => ⟨Nat.zero_le _, og.lt g hg⟩)⟩
 obtain rfl : cs = [Value.slice Groutines cc.routines.length groutines, .slice Grecords cc.records.length grecords, .slice Gglobals cc.globals.length gglobals, .int .i64 cc.main] := congrArg Array.toList (Value.agg.inj hcs)
 clear hcs
 have cba := ba.cell
 have lba := ba.lt
 have cbw := bw.cell
 have lbw := bw.lt
 have cbx := bx.cell
 have lbx := bx.lt
 go_wp2_with fail
 clear cba lba cbw lbw cbx lbx
 have kbg : Below w7.heap.size w7 (w7.alloc (.cells #[Value.slice Groutines cc.routines.length groutines, .slice Grecords cc.records.length grecords, .slice Gglobals cc.globals.length gglobals, .int .i64 cc.main] 31)) := (Below.refl _ _).alloc (Nat.le_refl _) _
 replace ba := ba.later kbg
 replace bw := bw.later kbg
 replace bx := bx.later kbg
 replace gs := gs.below kbg ygs
 replace ygs := Nat.le_trans ygs kbg.size
 replace ox := ox.fr (Fr.of_below (F := []) kbg) (fun b hb => by simp)
 replace og := og.fr (Fr.of_below (F := []) kbg) (fun b hb => by simp)
 replace hw := hw.trans (kbg.mono hw.size)
 clear kbg
 have bg := Blk.new w7 31 #[Value.slice Groutines cc.routines.length groutines, .slice Grecords cc.records.length grecords, .slice Gglobals cc.globals.length gglobals, .int .i64 cc.main]
 have s8 : (w7.alloc (.cells #[Value.slice Groutines cc.routines.length groutines, .slice Grecords cc.records.length grecords, .slice Gglobals cc.globals.length gglobals, .int .i64 cc.main] 31)).heap.size = w7.heap.size + 1 := by simp
 obtain ⟨w8, hV⟩ : ∃ V, w7.alloc (.cells #[Value.slice Groutines cc.routines.length groutines, .slice Grecords cc.records.length grecords, .slice Gglobals cc.globals.length gglobals, .int .i64 cc.main] 31) = V := ⟨_, rfl⟩
 rw [hV] at ba bw bx bg gs ygs ox og hw s8 ⊢
 clear hV
 have cba := ba.cell
 have lba := ba.lt
 have cbw := bw.cell
 have lbw := bw.lt
 have cbx := bx.cell
 have lbx := bx.lt
 have cbg := bg.cell
 have lbg := bg.lt
 go_wp2_with fail
 have rg : SRep w8 0 w8.heap.size ProgT.dats (.agg #[Value.slice Groutines cc.routines.length groutines, .slice Grecords cc.records.length grecords, .slice Gglobals cc.globals.length gglobals, .int .i64 cc.main]) cc := ⟨_, rfl, og.rep (fun g hg => ⟨Nat.zero_le _, og.lt g hg⟩)⟩
 refine (eqProgram_any cc _ _ _ _ _ _ _ rg gs (Nat.le_refl _) ygs).mono ?_; rintro e w9 ⟨rfl, hb⟩
 have z9 : w8.heap.size ≤ w9.heap.size := by have hh := hb.size; first | exact hh | (simp at hh; omega)
 clear cba lba cbw lbw cbx lbx cbg lbg
 replace ba := ba.later hb
 replace bw := bw.later hb
 replace bx := bx.later hb
 replace bg := bg.later hb
 replace gs := gs.below hb ygs
 replace ygs := Nat.le_trans ygs hb.size
 replace ox := ox.fr (Fr.of_below (F := []) hb) (fun b hb => by simp)
 replace og := og.fr (Fr.of_below (F := []) hb) (fun b hb => by simp)
 replace hw := hw.trans (hb.mono hw.size)
 clear hb
 clear rg
 have cba := ba.cell
 have lba := ba.lt
 have cbw := bw.cell
 have lbw := bw.lt
 have cbx := bx.cell
 have lbx := bx.lt
 have cbg := bg.cell
 have lbg := bg.lt
 go_wp2_with fail
 have hx : SRep w9 0 w9.heap.size ProgT.dats (.agg #[Value.slice Broutines c.routines.length mroutines, .slice Brecords c.records.length mrecords, .slice Bglobals c.globals.length mglobals, .int .i64 c.main]) c := ⟨_, rfl, ox.rep (fun g hg => ⟨Nat.zero_le _, ox.lt g hg⟩)⟩
 have y1 : w.heap.size ≤ w9.drew.heap.size := hw.size
 have y2 : hi ≤ w9.drew.heap.size := Nat.le_trans hhi hw.size
 go_region_held3 (fun w' => (∀ i, w'.cell? ⟨w.heap.size, i, none⟩ = #[Value.slice Aroutines c.routines.length nroutines, .slice Arecords c.records.length nrecords, .slice Aglobals c.globals.length nglobals, .int .i64 c.main][i]?) ∧ (∀ i, w'.cell? ⟨w5.heap.size, i, none⟩ = #[Value.slice Broutines c.routines.length mroutines, .slice Brecords c.records.length mrecords, .slice Bglobals c.globals.length mglobals, .int .i64 c.main][i]?))
  (first | exact ⟨cba, cbx⟩ | exact ⟨(ba.drew.later hbA).cell, (bx.drew.later hbA).cell⟩ | exact ⟨((ba.drew.later hbA).later hbB).cell, ((bx.drew.later hbA).later hbB).cell⟩)
  (first
   | (go_at_call 6; refine (toProgram_any c _ _ _ _ (h.below hw.drew hhi) y2 hbk).mono ?_; rintro e wA ⟨xA, rfl, hrA, hbA⟩)
   | (go_at_call 8; refine (eqProgram_any c _ _ _ _ _ _ _ (hx.below ((Below.refl w9.heap.size w9).drew.trans hbA) (Nat.le_refl _)) hrA hbA.size (Nat.le_refl _)).mono ?_; rintro e wB ⟨rfl, hbB⟩))
 have hb : Below w9.heap.size w9 wB := (((Below.refl _ _).drew).trans hbA).trans (hbB.mono hbA.size)
 clear hbA hbB hrA hx y1 y2
 clear cba lba cbw lbw cbx lbx cbg lbg
 obtain ⟨w10, rfl⟩ : ∃ w', w' = wB := ⟨_, rfl⟩
 have z10 : w9.heap.size ≤ w10.heap.size := hb.size
 replace ba := ba.later hb
 replace bw := bw.later hb
 replace bx := bx.later hb
 replace bg := bg.later hb
 replace gs := gs.below hb ygs
 replace ygs := Nat.le_trans ygs hb.size
 replace ox := ox.fr (Fr.of_below (F := []) hb) (fun b hb => by simp)
 replace og := og.fr (Fr.of_below (F := []) hb) (fun b hb => by simp)
 replace hw := hw.trans (hb.mono hw.size)
 clear hb
 have cba := ba.cell
 have lba := ba.lt
 have cbw := bw.cell
 have lbw := bw.lt
 have cbx := bx.cell
 have lbx := bx.lt
 have cbg := bg.cell
 have lbg := bg.lt
 go_wp2_with fail
 refine (markProgram_any c _ Fx _ 1 _ rfl ox nx (by omega) (by omega)).mono ?_; rintro e w11 ⟨rfl, ox', hf⟩
 clear cba lba cbw lbw cbx lbx cbg lbg
 have z11 : w10.heap.size ≤ w11.heap.size := hf.size
 replace ba := ba.fr hf (fun hb => by have := box _ hb; omega)
 replace bw := bw.fr hf (fun hb => by have := box _ hb; omega)
 replace bx := bx.fr hf (fun hb => by have := box _ hb; omega)
 replace bg := bg.fr hf (fun hb => by have := box _ hb; omega)
 replace gs := gs.fr hf (fun b hb => by have := box b hb; omega) ygs
 replace ygs := Nat.le_trans ygs hf.size
 replace og := og.fr hf (fun b hb hb' => by have := box b hb'; have := bog b hb; omega)
 replace hw := hw.trans (hf.below (fun b hb => by have := box b hb; omega) hw.size)
 clear hf ox
 clear ox'
 have cba := ba.cell
 have lba := ba.lt
 have cbw := bw.cell
 have lbw := bw.lt
 have cbx := bx.cell
 have lbx := bx.lt
 have cbg := bg.cell
 have lbg := bg.lt
 go_wp2_with fail
 have rg : SRep w11 0 w11.heap.size ProgT.dats (.agg #[Value.slice Groutines cc.routines.length groutines, .slice Grecords cc.records.length grecords, .slice Gglobals cc.globals.length gglobals, .int .i64 cc.main]) cc := ⟨_, rfl, og.rep (fun g hg => ⟨Nat.zero_le _, og.lt g hg⟩)⟩
 refine (eqProgram_any cc _ _ _ _ _ _ _ rg gs (Nat.le_refl _) ygs).mono ?_; rintro e w12 ⟨rfl, hb⟩
 have z12 : w11.heap.size ≤ w12.heap.size := by have hh := hb.size; first | exact hh | (simp at hh; omega)
 clear cba lba cbw lbw cbx lbx cbg lbg
 replace ba := ba.later hb
 replace bw := bw.later hb
 replace bx := bx.later hb
 replace bg := bg.later hb
 replace gs := gs.below hb ygs
 replace ygs := Nat.le_trans ygs hb.size
 replace og := og.fr (Fr.of_below (F := []) hb) (fun b hb => by simp)
 replace hw := hw.trans (hb.mono hw.size)
 clear hb
 clear rg
 have hbd : 1 + cc.cnt ≤ 1099511627776 := by omega
 have cba := ba.cell
 have lba := ba.lt
 have cbw := bw.cell
 have lbw := bw.lt
 have cbx := bx.cell
 have lbx := bx.lt
 have cbg := bg.cell
 have lbg := bg.lt
 go_wp2_with fail
 refine (markProgram_any cc _ Fg _ 1 _ rfl og ng (by omega) hbd).mono ?_; rintro e w13 ⟨rfl, og', hf⟩
 clear cba lba cbw lbw cbx lbx cbg lbg
 have z13 : w12.heap.size ≤ w13.heap.size := hf.size
 replace ba := ba.fr hf (fun hb => by have := bog _ hb; omega)
 replace bw := bw.fr hf (fun hb => by have := bog _ hb; omega)
 replace bx := bx.fr hf (fun hb => by have := bog _ hb; omega)
 replace bg := bg.fr hf (fun hb => by have := bog _ hb; omega)
 replace gs := gs.fr hf (fun b hb => by have := bog b hb; omega) ygs
 replace ygs := Nat.le_trans ygs hf.size
 replace hw := hw.trans (hf.below (fun b hb => by have := bog b hb; omega) hw.size)
 clear hf og
 have og := og'
 clear og'
 have cba := ba.cell
 have lba := ba.lt
 have cbw := bw.cell
 have lbw := bw.lt
 have cbx := bx.cell
 have lbx := bx.lt
 have cbg := bg.cell
 have lbg := bg.lt
 go_wp2_with fail
 have rg : SRep w13 0 w13.heap.size ProgT.dats (.agg #[Value.slice Groutines cc.routines.length groutines, .slice Grecords cc.records.length grecords, .slice Gglobals cc.globals.length gglobals, .int .i64 cc.main]) (cc.mark 1) := ⟨_, rfl, og.rep (fun g hg => ⟨Nat.zero_le _, og.lt g hg⟩)⟩
 refine (heldProgram_any cc _ _ 1 _ _ _ rfl rg (Nat.le_refl _) (by omega) hbd).mono ?_; rintro e w14 ⟨rfl, hb⟩
 have z14 : w13.heap.size ≤ w14.heap.size := by have hh := hb.size; first | exact hh | (simp at hh; omega)
 clear cba lba cbw lbw cbx lbx cbg lbg
 replace ba := ba.later hb
 replace bw := bw.later hb
 replace bx := bx.later hb
 replace bg := bg.later hb
 replace gs := gs.below hb ygs
 replace ygs := Nat.le_trans ygs hb.size
 replace og := og.fr (Fr.of_below (F := []) hb) (fun b hb => by simp)
 replace hw := hw.trans (hb.mono hw.size)
 clear hb
 clear rg
 have cba := ba.cell
 have lba := ba.lt
 have cbw := bw.cell
 have lbw := bw.lt
 have cbx := bx.cell
 have lbx := bx.lt
 have cbg := bg.cell
 have lbg := bg.lt
 go_wp2_with fail
 refine (toProgram_any c _ _ _ _ (h.below hw hhi) (Nat.le_trans hhi hw.size) hbk).mono ?_; rintro e w15 ⟨x2, rfl, hx, hb⟩
 have z15 : w14.heap.size ≤ w15.heap.size := by have hh := hb.size; first | exact hh | (simp at hh; omega)
 clear cba lba cbw lbw cbx lbx cbg lbg
 replace ba := ba.later hb
 replace bw := bw.later hb
 replace bx := bx.later hb
 replace bg := bg.later hb
 replace gs := gs.below hb ygs
 replace ygs := Nat.le_trans ygs hb.size
 replace og := og.fr (Fr.of_below (F := []) hb) (fun b hb => by simp)
 replace hw := hw.trans (hb.mono hw.size)
 clear hb
 have yhx : w15.heap.size ≤ w15.heap.size := Nat.le_refl _
 have cba := ba.cell
 have lba := ba.lt
 have cbw := bw.cell
 have lbw := bw.lt
 have cbx := bx.cell
 have lbx := bx.lt
 have cbg := bg.cell
 have lbg := bg.lt
 go_wp2_with fail
 refine (impl_FoldProgram c _ _ 0 _ (hx.wide (Nat.zero_le _) yhx) (Nat.le_refl _) hbk (hst.below hw hst.2) (hpt.below hw hpt.2)).mono ?_; rintro e w16 ⟨cs, rfl, gh, hb⟩
 have z16 : w15.heap.size ≤ w16.heap.size := by have hh := hb.size; first | exact hh | (simp at hh; omega)
 clear cba lba cbw lbw cbx lbx cbg lbg
 replace ba := ba.later hb
 replace bw := bw.later hb
 replace bx := bx.later hb
 replace bg := bg.later hb
 replace gs := gs.below hb ygs
 replace ygs := Nat.le_trans ygs hb.size
 replace hx := hx.below hb yhx
 replace yhx := Nat.le_trans yhx hb.size
 replace og := og.fr (Fr.of_below (F := []) hb) (fun b hb => by simp)
 replace hw := hw.trans (hb.mono hw.size)
 clear hb
 clear hx yhx
 rw [HV.out]
 rw [HL.out] at gh
 obtain ⟨Hroutines, hroutines, Hrecords, hrecords, Hglobals, hglobals, hcs, -⟩ := ProgT.form ⟨cs, rfl, gh.rep⟩
 obtain rfl : cs = [Value.slice Hroutines cc.routines.length hroutines, .slice Hrecords cc.records.length hrecords, .slice Hglobals cc.globals.length hglobals, .int .i64 cc.main] := congrArg Array.toList (Value.agg.inj hcs)
 clear hcs
 replace gh : SRep w16 _ _ ProgT.dats (.agg #[Value.slice Hroutines cc.routines.length hroutines, .slice Hrecords cc.records.length hrecords, .slice Hglobals cc.globals.length hglobals, .int .i64 cc.main]) cc := ⟨_, rfl, gh.rep⟩
 have ygh : w16.heap.size ≤ w16.heap.size := Nat.le_refl _
 have cba := ba.cell
 have lba := ba.lt
 have cbw := bw.cell
 have lbw := bw.lt
 have cbx := bx.cell
 have lbx := bx.lt
 have cbg := bg.cell
 have lbg := bg.lt
 go_wp2_with fail
 clear cba lba cbw lbw cbx lbx cbg lbg
 have kbh : Below w16.heap.size w16 (w16.alloc (.cells #[Value.slice Hroutines cc.routines.length hroutines, .slice Hrecords cc.records.length hrecords, .slice Hglobals cc.globals.length hglobals, .int .i64 cc.main] 31)) := (Below.refl _ _).alloc (Nat.le_refl _) _
 replace ba := ba.later kbh
 replace bw := bw.later kbh
 replace bx := bx.later kbh
 replace bg := bg.later kbh
 replace gs := gs.below kbh ygs
 replace ygs := Nat.le_trans ygs kbh.size
 replace gh := gh.below kbh ygh
 replace ygh := Nat.le_trans ygh kbh.size
 replace og := og.fr (Fr.of_below (F := []) kbh) (fun b hb => by simp)
 replace hw := hw.trans (kbh.mono hw.size)
 clear kbh
 have bh := Blk.new w16 31 #[Value.slice Hroutines cc.routines.length hroutines, .slice Hrecords cc.records.length hrecords, .slice Hglobals cc.globals.length hglobals, .int .i64 cc.main]
 have s17 : (w16.alloc (.cells #[Value.slice Hroutines cc.routines.length hroutines, .slice Hrecords cc.records.length hrecords, .slice Hglobals cc.globals.length hglobals, .int .i64 cc.main] 31)).heap.size = w16.heap.size + 1 := by simp
 obtain ⟨w17, hV⟩ : ∃ V, w16.alloc (.cells #[Value.slice Hroutines cc.routines.length hroutines, .slice Hrecords cc.records.length hrecords, .slice Hglobals cc.globals.length hglobals, .int .i64 cc.main] 31) = V := ⟨_, rfl⟩
 rw [hV] at ba bw bx bg bh gs gh ygs ygh og hw s17 ⊢
 clear hV
 have cba := ba.cell
 have lba := ba.lt
 have cbw := bw.cell
 have lbw := bw.lt
 have cbx := bx.cell
 have lbx := bx.lt
 have cbg := bg.cell
 have lbg := bg.lt
 have cbh := bh.cell
 have lbh := bh.lt
 go_wp2_with fail
 refine (eqProgram_any cc _ _ _ _ _ _ _ gh gs ygh ygs).mono ?_; rintro e w18 ⟨rfl, hb⟩
 have z18 : w17.heap.size ≤ w18.heap.size := by have hh := hb.size; first | exact hh | (simp at hh; omega)
 clear cba lba cbw lbw cbx lbx cbg lbg cbh lbh
 replace ba := ba.later hb
 replace bw := bw.later hb
 replace bx := bx.later hb
 replace bg := bg.later hb
 replace bh := bh.later hb
 replace gs := gs.below hb ygs
 replace ygs := Nat.le_trans ygs hb.size
 replace gh := gh.below hb ygh
 replace ygh := Nat.le_trans ygh hb.size
 replace og := og.fr (Fr.of_below (F := []) hb) (fun b hb => by simp)
 replace hw := hw.trans (hb.mono hw.size)
 clear hb
 clear gh ygh
 have cba := ba.cell
 have lba := ba.lt
 have cbw := bw.cell
 have lbw := bw.lt
 have cbx := bx.cell
 have lbx := bx.lt
 have cbg := bg.cell
 have lbg := bg.lt
 have cbh := bh.cell
 have lbh := bh.lt
 go_wp2_with fail
 have rg : SRep w18 0 w18.heap.size ProgT.dats (.agg #[Value.slice Groutines cc.routines.length groutines, .slice Grecords cc.records.length grecords, .slice Gglobals cc.globals.length gglobals, .int .i64 cc.main]) (cc.mark 1) := ⟨_, rfl, og.rep (fun g hg => ⟨Nat.zero_le _, og.lt g hg⟩)⟩
 refine (heldProgram_any cc _ _ 1 _ _ _ rfl rg (Nat.le_refl _) (by omega) hbd).mono ?_; rintro e w19 ⟨rfl, hb⟩
 have z19 : w18.heap.size ≤ w19.heap.size := by have hh := hb.size; first | exact hh | (simp at hh; omega)
 clear cba lba cbw lbw cbx lbx cbg lbg cbh lbh
 replace ba := ba.later hb
 replace bw := bw.later hb
 replace bx := bx.later hb
 replace bg := bg.later hb
 replace bh := bh.later hb
 replace gs := gs.below hb ygs
 replace ygs := Nat.le_trans ygs hb.size
 replace og := og.fr (Fr.of_below (F := []) hb) (fun b hb => by simp)
 replace hw := hw.trans (hb.mono hw.size)
 clear hb
 clear rg
 have cba := ba.cell
 have lba := ba.lt
 have cbw := bw.cell
 have lbw := bw.lt
 have cbx := bx.cell
 have lbx := bx.lt
 have cbg := bg.cell
 have lbg := bg.lt
 have cbh := bh.cell
 have lbh := bh.lt
 go_wp2_with fail
 go_ret
 exact ⟨rfl, hw⟩
end Go.Proofs.YtjeomamdlmoghaaGreatDoor
end
section
namespace Go.Proofs.YtjeomamdlmoghaaGreatDoor
open Go.RowKit
theorem spaceTab_of {laid : List (String × DataW Unit)} {W : World} (hf : laid.filter (fun x => x.1 == "strings.asciiSpace") = [("strings.asciiSpace", Rows.laid_strings_asciiSpace)]) (h : laidMet Tryz.prog laid W) : SpaceTab W := by
 have h0 : laidMet Tryz.prog (laid.filter fun x => x.1 == "strings.asciiSpace") W := laidMet.filter (fun x => x.1 == "strings.asciiSpace") h
 rw [hf] at h0
 have h2 := Lib.tabIs_of_head (k := .u8) (zs := Lib.asciiSpaceTab) (rest := []) gSpace (by kernel_rfl) Tryz.underlying150 Tryz.underlying5 (by kernel_rfl) (by kernel_rfl) h0
 exact ⟨h2, World.block_lt_of_cell? W _ (h2.cell gSpace 0 (by decide))⟩
end Go.Proofs.YtjeomamdlmoghaaGreatDoor
end
section
namespace Go.Proofs.YtjeomamdlmoghaaGreatDoor
open Go.RowKit
theorem powTab_of {laid : List (String × DataW Unit)} {W : World} (hf : laid.filter (fun x => x.1 == "internal/strconv.uint64pow10") = [("internal/strconv.uint64pow10", Rows.laid_internal_strconv_uint64pow10)]) (h : laidMet Tryz.prog laid W) : PowTab W := by
 have h0 : laidMet Tryz.prog (laid.filter fun x => x.1 == "internal/strconv.uint64pow10") W := laidMet.filter (fun x => x.1 == "internal/strconv.uint64pow10") h
 rw [hf] at h0
 have h2 := Lib.tabIs_of_head (k := .u64) (zs := Lib.pow10Tab) (rest := []) gPow (by kernel_rfl) Tryz.underlying186 Tryz.underlying153 (by kernel_rfl) (by kernel_rfl) h0
 exact ⟨h2, World.block_lt_of_cell? W _ (h2.cell gPow 0 (by decide))⟩
end Go.Proofs.YtjeomamdlmoghaaGreatDoor
end
section
namespace Go.Proofs.YtjeomamdlmoghaaGreatDoor
open Go.ChangeShapes Go.WideShapes Go.RowKit Go.Deep
section
variable {H : Type} {enc : TypeId × Value → H} {w : World} {spare : Nat → Bool} {held : Bool}
theorem open_rows {α : Type} {f : α → List Dat} {z : Nat} {P : α → Prop} (a : Addr) (len : Nat) (He : ∀ i, i < len → ∃ (cs : List Value) (c : α), cs.length = z ∧ (∀ j u, cs[j]? = some u → w.cell? (a.add (i * z + j)) = some u) ∧ RepL w 0 w.heap.size (f c) cs ∧ P c) :
 ∀ k, k ≤ len → ∃ (l : List α) (vs : List Value), l.length = k ∧ vs.length = k * z ∧ RepL w 0 w.heap.size (flat f l) vs ∧ (∀ j u, vs[j]? = some u → w.cell? (a.add j) = some u) ∧ ∀ c ∈ l, P c := by
 intro k
 induction k with
 | zero => intro _; exact ⟨[], [], rfl, by simp, by rw [flat_nil]; exact .nil_, by simp, by simp⟩
 | succ k ih =>
   intro hk
   obtain ⟨l, vs, h1, h2, h3, h4, h5⟩ := ih (by omega)
   obtain ⟨cs, c, g1, g2, g3, g4⟩ := He k (by omega)
   refine ⟨l ++ [c], vs ++ cs, by simp [h1], by rw [List.length_append, h2, g1, Nat.succ_mul], ?_, fun j u hj => ?_, ?_⟩
   ·rw [flat_app, flat_cons, flat_nil, List.append_nil]; exact h3.app g3
   ·by_cases hlt : j < vs.length
    ·rw [List.getElem?_append_left hlt] at hj; exact h4 j u hj
    ·rw [List.getElem?_append_right (by omega)] at hj
     have := g2 _ u hj
     rw [← h2, show vs.length + (j - vs.length) = j by omega] at this
     exact this
   ·intro x hx
    rcases List.mem_append.1 hx with hx | hx
    ·exact h5 x hx
    ·rw [List.mem_singleton.1 hx]; exact g4
theorem open_slice {α : Type} {f : α → List Dat} {z : Nat} {P : α → Prop} {tS tE : TypeId} (hz : 0 < z) (hu : Tryz.prog.underlying tS = some (.slice tE)) (hk : Tryz.prog.cellsOf tE = z)
 (He : ∀ (fuel : Nat) (cs : List Value) (x : DataW H × List MemPlace), DataW.trod enc Tryz.prog w 0 spare held fuel tE cs = some x → ∃ c : α, RepL w 0 w.heap.size (f c) cs ∧ P c)
 {n : Nat} {v : Value} {y : DataW H × List MemPlace} (h : DataW.trod enc Tryz.prog w 0 spare held n tS [v] = some y) : ∃ l : List α, LRep w 0 w.heap.size z f v l ∧ ∀ c ∈ l, P c := by
 rcases DataW.trod_slice hu h with ⟨hcs, -⟩ | ⟨a, len, cap, elems, rest, m, hm, hcs, -, -, hl, hcap, hel, hi, -, -⟩
 ·simp at hcs
  subst hcs
  exact ⟨[], Rep.mkRow Rds.none_ (by rw [flat_nil]; exact .nil_), by simp⟩
 ·simp at hcs
  subst hcs
  obtain ⟨l, vs, g1, g2, g3, g4, g5⟩ := open_rows (w := w) (f := f) (z := z) (P := P) a len (fun i hlt => by
   have hi' := hi i hlt
   rw [List.getElem?_eq_getElem (by omega), hk] at hi'
   obtain ⟨cs', hc, ht⟩ := Option.bind_eq_some_iff.1 hi'
   obtain ⟨-, hcl', hat⟩ := World.cells?_some hc
   obtain ⟨c, hr, hf⟩ := He m cs' _ ht
   refine ⟨cs', c, hcl', fun j u hu => ?_, hr, hf⟩
   have hj : j < cs'.length := (List.getElem?_eq_some_iff.1 hu).1
   rw [← Go.Deep.add_add, hat j (by omega), hu]) len (Nat.le_refl _)
  subst g1
  refine ⟨l, Rep.mkRow (vs := vs) ⟨some a, cap, rfl, hl, hcap, g2, (fun h => by cases h), fun hn => ?_⟩ g3, g5⟩
  obtain ⟨b, off, spot⟩ := a
  have hv0 : 0 < vs.length := by rw [g2]; exact Nat.mul_pos hn hz
  have hc0 := g4 0 _ (List.getElem?_eq_getElem hv0)
  have hspot : spot = none := by simpa [Addr.add] using World.cell?_spot hc0
  subst hspot
  refine ⟨b, off, rfl, Nat.zero_le _, ?_, fun j u hu => ?_⟩
  ·have := World.block_lt_of_cell? w _ hc0
   simpa [Addr.add] using this
  ·have := g4 j u hu
   rwa [Addr.add_lit] at this
theorem open_text (fuel : Nat) (cs : List Value) (x : DataW H × List MemPlace) (h : DataW.trod enc Tryz.prog w 0 spare held fuel 9 cs = some x) : ∃ s : ByteArray, RepL w 0 w.heap.size (strDats s) cs ∧ s.size ≤ 9223372036854775807 := by
 obtain ⟨z, rfl, -, hz⟩ := DataW.trod_string Tryz.underlying9 h
 exact ⟨z, .cons_ .mkStr .nil_, by unfold maxLen at hz; omega⟩
theorem fits_mk (k o n l : Int) (t : ByteArray) (kids : List CoreT) (h : t.size ≤ 9223372036854775807) (hk : ∀ x ∈ kids, x.Fits) : (CoreT.mk k o n l t kids).Fits := .mk h hk
theorem open_coreL : ∀ (fuel : Nat) (cs : List Value) (x : DataW H × List MemPlace), DataW.trod enc Tryz.prog w 0 spare held fuel 60 cs = some x → ∃ c : CoreT, RepL w 0 w.heap.size c.dats cs ∧ c.Fits := by
 intro fuel
 induction fuel using Nat.strongRecOn with
 | ind fuel ih =>
   intro cs x h
   obtain ⟨xs, n, hn, hx, hcl, hlen, hg⟩ := DataW.trod_struct Tryz.underlying60 h
   rw [show Tryz.prog.cellsOf 60 = 6 by kernel_rfl] at hcl
   match cs, hcl with
   | [c0, c1, c2, c3, c4, c5], _ =>
     have k0 : Tryz.prog.cellsOf 3 = 1 := by kernel_rfl
     have k4 : Tryz.prog.cellsOf 9 = 1 := by kernel_rfl
     have k5 : Tryz.prog.cellsOf 58 = 1 := by kernel_rfl
     have hxs : ∀ i, i < 6 → ∃ y, xs[i]? = some y := fun i hi => ⟨_, List.getElem?_eq_getElem (by rw [hlen]; exact hi)⟩
     obtain ⟨y0, e0⟩ := hxs 0 (by omega)
     have h0 : DataW.trod enc Tryz.prog w 0 spare held n 3 [c0] = some y0 := by simpa [k0, k4, k5] using (hg 0 _ rfl).trans e0
     obtain ⟨y1, e1⟩ := hxs 1 (by omega)
     have h1 : DataW.trod enc Tryz.prog w 0 spare held n 3 [c1] = some y1 := by simpa [k0, k4, k5] using (hg 1 _ rfl).trans e1
     obtain ⟨y2, e2⟩ := hxs 2 (by omega)
     have h2 : DataW.trod enc Tryz.prog w 0 spare held n 3 [c2] = some y2 := by simpa [k0, k4, k5] using (hg 2 _ rfl).trans e2
     obtain ⟨y3, e3⟩ := hxs 3 (by omega)
     have h3 : DataW.trod enc Tryz.prog w 0 spare held n 3 [c3] = some y3 := by simpa [k0, k4, k5] using (hg 3 _ rfl).trans e3
     obtain ⟨y4, e4⟩ := hxs 4 (by omega)
     have h4 : DataW.trod enc Tryz.prog w 0 spare held n 9 [c4] = some y4 := by simpa [k0, k4, k5] using (hg 4 _ rfl).trans e4
     obtain ⟨y5, e5⟩ := hxs 5 (by omega)
     have h5 : DataW.trod enc Tryz.prog w 0 spare held n 58 [c5] = some y5 := by simpa [k0, k4, k5] using (hg 5 _ rfl).trans e5
     obtain ⟨z0, f0, -, -⟩ := DataW.trod_int Tryz.underlying3 h0
     obtain ⟨z1, f1, -, -⟩ := DataW.trod_int Tryz.underlying3 h1
     obtain ⟨z2, f2, -, -⟩ := DataW.trod_int Tryz.underlying3 h2
     obtain ⟨z3, f3, -, -⟩ := DataW.trod_int Tryz.underlying3 h3
     obtain ⟨z4, f4, -, w4⟩ := DataW.trod_string Tryz.underlying9 h4
     simp at f0 f1 f2 f3 f4
     subst f0 f1 f2 f3 f4
     rcases DataW.trod_slice Tryz.underlying58 h5 with ⟨hcs, -⟩ | ⟨a, len, cap, elems, rest, m, hm, hcs, -, -, hl, hcap, hel, hi, -, -⟩
     ·simp at hcs
      subst hcs
      refine ⟨.mk z0 z1 z2 z3 z4 [], ?_, fits_mk _ _ _ _ _ _ (by unfold maxLen at w4; omega) (by simp)⟩
      rw [CoreT.dats_g]
      exact .cons_ .mkInt (.cons_ .mkInt (.cons_ .mkInt (.cons_ .mkInt (.cons_ .mkStr (.cons_ (Rep.mkRow Rds.none_ (by simp only [CoreT.kids, flat_nil]; exact .nil_)) .nil_)))))
     ·simp at hcs
      subst hcs
      have k6 : Tryz.prog.cellsOf 60 = 6 := by kernel_rfl
      obtain ⟨l, vs, g1, g2, g3, g4, g5⟩ := open_rows (w := w) (f := CoreT.dats) (z := 6) (P := CoreT.Fits) a len (fun i hlt => by
       have hi' := hi i hlt
       rw [List.getElem?_eq_getElem (by omega), k6] at hi'
       obtain ⟨cs', hc, ht⟩ := Option.bind_eq_some_iff.1 hi'
       obtain ⟨-, hcl', hat⟩ := World.cells?_some hc
       obtain ⟨c, hr, hf⟩ := ih m (by omega) cs' _ ht
       refine ⟨cs', c, hcl', fun j u hu => ?_, hr, hf⟩
       have hj : j < cs'.length := (List.getElem?_eq_some_iff.1 hu).1
       rw [← Go.Deep.add_add, hat j (by omega), hu]) len (Nat.le_refl _)
      refine ⟨.mk z0 z1 z2 z3 z4 l, ?_, fits_mk _ _ _ _ _ _ (by unfold maxLen at w4; omega) g5⟩
      rw [CoreT.dats_g]
      subst g1
      refine .cons_ .mkInt (.cons_ .mkInt (.cons_ .mkInt (.cons_ .mkInt (.cons_ .mkStr (.cons_ (Rep.mkRow (vs := vs) ⟨some a, cap, rfl, hl, hcap, g2, (fun h => by cases h), fun hn => ?_⟩ g3) .nil_)))))
      obtain ⟨b, off, spot⟩ := a
      have hv0 : 0 < vs.length := by rw [g2]; simp only [CoreT.kids] at hn; omega
      have hc0 := g4 0 _ (List.getElem?_eq_getElem hv0)
      have hspot : spot = none := by simpa [Addr.add] using World.cell?_spot hc0
      subst hspot
      refine ⟨b, off, rfl, Nat.zero_le _, ?_, fun j u hu => ?_⟩
      ·have := World.block_lt_of_cell? w _ hc0
       simpa [Addr.add] using this
      ·have := g4 j u hu
       rwa [Addr.add_lit] at this
theorem open_RecordTypeL (fuel : Nat) (cs : List Value) (x : DataW H × List MemPlace) (h : DataW.trod enc Tryz.prog w 0 spare held fuel 65 cs = some x) : ∃ c : RecT, RepL w 0 w.heap.size c.dats cs ∧ c.Fits := by
 obtain ⟨xs, n, hn, hx, hcl, hlen, hg⟩ := DataW.trod_struct Tryz.underlying65 h
 rw [show Tryz.prog.cellsOf 65 = 3 by kernel_rfl] at hcl
 match cs, hcl with
 | [c0, c1, c2], _ =>
   have k_0 : Tryz.prog.cellsOf 9 = 1 := by kernel_rfl
   have k_1 : Tryz.prog.cellsOf 24 = 1 := by kernel_rfl
   have k_2 : Tryz.prog.cellsOf 3 = 1 := by kernel_rfl
   have hxs : ∀ i, i < 3 → ∃ y, xs[i]? = some y := fun i hi => ⟨_, List.getElem?_eq_getElem (by rw [hlen]; exact hi)⟩
   obtain ⟨y0, e0⟩ := hxs 0 (by omega)
   have h0 : DataW.trod enc Tryz.prog w 0 spare held n 9 [c0] = some y0 := by simpa [k_0, k_1, k_2] using (hg 0 _ rfl).trans e0
   obtain ⟨z0, f0, -, w0⟩ := DataW.trod_string Tryz.underlying9 h0
   simp at f0
   subst f0
   obtain ⟨y1, e1⟩ := hxs 1 (by omega)
   have h1 : DataW.trod enc Tryz.prog w 0 spare held n 24 [c1] = some y1 := by simpa [k_0, k_1, k_2] using (hg 1 _ rfl).trans e1
   obtain ⟨z1, r1, w1⟩ := open_slice (f := strDats) (z := 1) (by decide) Tryz.underlying24 (by kernel_rfl) open_text h1
   obtain ⟨y2, e2⟩ := hxs 2 (by omega)
   have h2 : DataW.trod enc Tryz.prog w 0 spare held n 3 [c2] = some y2 := by simpa [k_0, k_1, k_2] using (hg 2 _ rfl).trans e2
   obtain ⟨z2, f2, -, -⟩ := DataW.trod_int Tryz.underlying3 h2
   simp at f2
   subst f2
   exact ⟨⟨z0, z1, z2⟩, .cons_ .mkStr (.cons_ r1 (.cons_ .mkInt .nil_)), ⟨(show z0.size ≤ 9223372036854775807 by unfold maxLen at w0; omega), w1⟩⟩
theorem open_RoutineL (fuel : Nat) (cs : List Value) (x : DataW H × List MemPlace) (h : DataW.trod enc Tryz.prog w 0 spare held fuel 62 cs = some x) : ∃ c : RouT, RepL w 0 w.heap.size c.dats cs ∧ c.Fits := by
 obtain ⟨xs, n, hn, hx, hcl, hlen, hg⟩ := DataW.trod_struct Tryz.underlying62 h
 rw [show Tryz.prog.cellsOf 62 = 9 by kernel_rfl] at hcl
 match cs, hcl with
 | [c0, c1, c2, c3, c4, c5, c6, c7, c8], _ =>
   have k_0 : Tryz.prog.cellsOf 9 = 1 := by kernel_rfl
   have k_1 : Tryz.prog.cellsOf 3 = 1 := by kernel_rfl
   have k_2 : Tryz.prog.cellsOf 24 = 1 := by kernel_rfl
   have k_3 : Tryz.prog.cellsOf 60 = 6 := by kernel_rfl
   have hxs : ∀ i, i < 4 → ∃ y, xs[i]? = some y := fun i hi => ⟨_, List.getElem?_eq_getElem (by rw [hlen]; exact hi)⟩
   obtain ⟨y0, e0⟩ := hxs 0 (by omega)
   have h0 : DataW.trod enc Tryz.prog w 0 spare held n 9 [c0] = some y0 := by simpa [k_0, k_1, k_2, k_3] using (hg 0 _ rfl).trans e0
   obtain ⟨z0, f0, -, w0⟩ := DataW.trod_string Tryz.underlying9 h0
   simp at f0
   subst f0
   obtain ⟨y1, e1⟩ := hxs 1 (by omega)
   have h1 : DataW.trod enc Tryz.prog w 0 spare held n 3 [c1] = some y1 := by simpa [k_0, k_1, k_2, k_3] using (hg 1 _ rfl).trans e1
   obtain ⟨z1, f1, -, -⟩ := DataW.trod_int Tryz.underlying3 h1
   simp at f1
   subst f1
   obtain ⟨y2, e2⟩ := hxs 2 (by omega)
   have h2 : DataW.trod enc Tryz.prog w 0 spare held n 24 [c2] = some y2 := by simpa [k_0, k_1, k_2, k_3] using (hg 2 _ rfl).trans e2
   obtain ⟨z2, r2, w2⟩ := open_slice (f := strDats) (z := 1) (by decide) Tryz.underlying24 (by kernel_rfl) open_text h2
   obtain ⟨y3, e3⟩ := hxs 3 (by omega)
   have h3 : DataW.trod enc Tryz.prog w 0 spare held n 60 [c3, c4, c5, c6, c7, c8] = some y3 := by simpa [k_0, k_1, k_2, k_3] using (hg 3 _ rfl).trans e3
   obtain ⟨z3, r3, w3⟩ := open_coreL _ _ _ h3
   rw [CoreT.dats_g] at r3
   obtain ⟨u0, s0, g0, r3a, r3⟩ := r3.out
   obtain ⟨u1, s1, g1, r3b, r3⟩ := r3.out
   obtain ⟨u2, s2, g2, r3c, r3⟩ := r3.out
   obtain ⟨u3, s3, g3, r3d, r3⟩ := r3.out
   obtain ⟨u4, s4, g4, r3e, r3⟩ := r3.out
   obtain ⟨u5, s5, g5, r3f, r3⟩ := r3.out
   obtain rfl := r3.outNil
   injection g0 with p0 g0
   subst p0 g0
   injection g1 with p1 g1
   subst p1 g1
   injection g2 with p2 g2
   subst p2 g2
   injection g3 with p3 g3
   subst p3 g3
   injection g4 with p4 g4
   subst p4 g4
   injection g5 with p5 g5
   subst p5
   exact ⟨⟨z0, z1, z2, z3⟩, .cons_ .mkStr (.cons_ .mkInt (.cons_ r2 (.cons_ r3a (.cons_ r3b (.cons_ r3c (.cons_ r3d (.cons_ r3e (.cons_ r3f .nil_)))))))), ⟨(show z0.size ≤ 9223372036854775807 by unfold maxLen at w0; omega), w2, w3⟩⟩
theorem open_ProgramL (fuel : Nat) (cs : List Value) (x : DataW H × List MemPlace) (h : DataW.trod enc Tryz.prog w 0 spare held fuel 26 cs = some x) : ∃ c : ProgT, RepL w 0 w.heap.size c.dats cs ∧ c.Fits := by
 obtain ⟨xs, n, hn, hx, hcl, hlen, hg⟩ := DataW.trod_struct Tryz.underlying26 h
 rw [show Tryz.prog.cellsOf 26 = 4 by kernel_rfl] at hcl
 match cs, hcl with
 | [c0, c1, c2, c3], _ =>
   have k_0 : Tryz.prog.cellsOf 22 = 1 := by kernel_rfl
   have k_1 : Tryz.prog.cellsOf 23 = 1 := by kernel_rfl
   have k_2 : Tryz.prog.cellsOf 24 = 1 := by kernel_rfl
   have k_3 : Tryz.prog.cellsOf 3 = 1 := by kernel_rfl
   have hxs : ∀ i, i < 4 → ∃ y, xs[i]? = some y := fun i hi => ⟨_, List.getElem?_eq_getElem (by rw [hlen]; exact hi)⟩
   obtain ⟨y0, e0⟩ := hxs 0 (by omega)
   have h0 : DataW.trod enc Tryz.prog w 0 spare held n 22 [c0] = some y0 := by simpa [k_0, k_1, k_2, k_3] using (hg 0 _ rfl).trans e0
   obtain ⟨z0, r0, w0⟩ := open_slice (f := RouT.dats) (z := 9) (by decide) Tryz.underlying22 (by kernel_rfl) open_RoutineL h0
   obtain ⟨y1, e1⟩ := hxs 1 (by omega)
   have h1 : DataW.trod enc Tryz.prog w 0 spare held n 23 [c1] = some y1 := by simpa [k_0, k_1, k_2, k_3] using (hg 1 _ rfl).trans e1
   obtain ⟨z1, r1, w1⟩ := open_slice (f := RecT.dats) (z := 3) (by decide) Tryz.underlying23 (by kernel_rfl) open_RecordTypeL h1
   obtain ⟨y2, e2⟩ := hxs 2 (by omega)
   have h2 : DataW.trod enc Tryz.prog w 0 spare held n 24 [c2] = some y2 := by simpa [k_0, k_1, k_2, k_3] using (hg 2 _ rfl).trans e2
   obtain ⟨z2, r2, w2⟩ := open_slice (f := strDats) (z := 1) (by decide) Tryz.underlying24 (by kernel_rfl) open_text h2
   obtain ⟨y3, e3⟩ := hxs 3 (by omega)
   have h3 : DataW.trod enc Tryz.prog w 0 spare held n 3 [c3] = some y3 := by simpa [k_0, k_1, k_2, k_3] using (hg 3 _ rfl).trans e3
   obtain ⟨z3, f3, -, -⟩ := DataW.trod_int Tryz.underlying3 h3
   simp at f3
   subst f3
   exact ⟨⟨z0, z1, z2, z3⟩, .cons_ r0 (.cons_ r1 (.cons_ r2 (.cons_ .mkInt .nil_))), ⟨w0, w1, w2⟩⟩
theorem open_program {r : Reach} {b0 : Nat} {v : Value} {d : DataW H} {p : List MemPlace} (hv : Value.okWide Tryz.prog w r b0 26 v) (h : DataW.Trod enc Tryz.prog w 0 spare held 26 v d p) : ∃ c : ProgT, SRep w 0 w.heap.size ProgT.dats v c ∧ c.Fits := by
 obtain ⟨cs, rfl, hsz⟩ := okWide_struct Tryz.underlying26 hv
 obtain ⟨fuel, hf⟩ := h
 obtain ⟨c, hr, hft⟩ := open_ProgramL fuel _ _ hf
 exact ⟨c, ⟨cs.toList, by simp, by simpa [Value.cells] using hr⟩, hft⟩
end
end Go.Proofs.YtjeomamdlmoghaaGreatDoor
end
section
namespace Go.Proofs.YtjeomamdlmoghaaGreatDoor
open Go.ChangeShapes Go.WideShapes Go.ChangeAt Go.RowKit
open Go.ChangeMaps (open_string)
theorem laidOut_fnExactFoldProgram : laidOutB Tryz.prog = true := by kernel_rfl
theorem fnExactFoldProgram_contract (H : Type) (enc : TypeId × Value → H) (W : World) (base : Nat) (args : Array Value) (ds gs : List (DataW H)) (before : List MemPlace)
 (hval0 : ∀ (j : Nat) t v, Tryz.f3.params[j]? = some t → args[j]? = some v → Value.okWide Tryz.prog W .any base t v)
 (hW : DataW.Whole enc Tryz.prog Tryz.f3.params.toList Rows.fnExactFoldProgramSpec.vars false W args.toList ds gs before) (hL : laidMetH Tryz.prog Rows.fnExactFoldProgramRow.laid W) (hSh : W.ShapedOpen Tryz.prog) :
 Calls Tryz.prog 3 args W fun e W' => ∃ v, e = .returned v ∧ Rows.fnExactFoldProgramSpec.post enc Tryz.prog Tryz.f3 false true false false W args v W' := by
 have hval := hval0
 have hW' := hW
 obtain ⟨p, q, hA0, hV, rfl, hfz, hnd⟩ := hW
 have hA : DataW.TrodAll enc Tryz.prog W 0 (fun _ => true) true Tryz.f3.params.toList args.toList ds p := hA0
 rw [Tryz.params3] at hA hval
 obtain ⟨v0, vs0, d0, ds0, p0, q0, hargs, rfl, rfl, h0, r0⟩ := trodAll_cons hA
 obtain ⟨rfl, rfl, rfl⟩ := trodAll_nil r0
 obtain rfl : args = #[v0] := by cases args; simp_all
 obtain ⟨rfl, rfl⟩ := trodVars_none hV
 have lt0 : ∀ x ∈ p0, x.block < W.heap.size := by obtain ⟨m, hm⟩ := h0; exact DataW.trod_lt m _ _ _ hm
 obtain ⟨c0, w0, f0⟩ := open_program (hval 0 26 v0 rfl rfl) h0
 clear hA0 hval0
 refine (law_FoldProgram v0 c0 W 0 W.heap.size w0 (Nat.le_refl _) f0 (spaceTab_of (laid := Rows.fnExactFoldProgramRow.laid) (by kernel_rfl) (by rw [MakeChecks.laidMetH_plain _ _ _ (by kernel_rfl)] at hL; exact hL)) (powTab_of (laid := Rows.fnExactFoldProgramRow.laid) (by kernel_rfl) (by rw [MakeChecks.laidMetH_plain _ _ _ (by kernel_rfl)] at hL; exact hL))).mono fun e W' ⟨he, bel⟩ => ?_
 subst he
 exact ⟨_, rfl, _, _, _, [], _, [], hW', trodAll_mk1 (shut_bool Tryz.underlying4 _), (trodAll_cons_mk (Below.trod laidOut_fnExactFoldProgram (by kernel_rfl) (of_decide_eq_true (by kernel_rfl)) h0 bel lt0) trodAll_mk0), rfl, bel.frame _, fun h => by cases h⟩
theorem fnExactFoldProgram_witness (os : Os) {H : Type} (enc : TypeId × Value → H) : ∃ (w : World) (tape : Tape) (i : Input), w.os = os ∧ (w.forCall tape i).Shaped Tryz.checked.prog ∧ i.vars = [] ∧ Input.okWide Tryz.checked.prog (w.forCall tape i) .any w.heap.size 3 i ∧
 (OpenSpec.ofChange Rows.fnExactFoldProgramSpec).preRow enc Tryz.checked.prog Tryz.f3 Rows.fnExactFoldProgramRow.domain false Rows.fnExactFoldProgramRow.laid (w.forCall tape i).memory i.args ∧ ({ modest := false } : Assume).holds Tryz.checked.prog (lone (Frame.enter Tryz.checked.prog 3 i.args .normal) [] (w.forCall tape i)) := by
 have hok : Input.okWideB Tryz.checked.prog ((World.laidAll Tryz.prog os Rows.fnExactFoldProgramRow.laid).forCall (fun _ _ => 0) ⟨#[], #[.agg #[.slice none 0 0, .slice none 0 0, .slice none 0 0, .int .i64 0]], []⟩) 3 ⟨#[], #[.agg #[.slice none 0 0, .slice none 0 0, .slice none 0 0, .int .i64 0]], []⟩ = true := by kernel_rfl
 have hx : ∃ d places, DataW.whole enc Tryz.prog ((World.laidAll Tryz.prog os Rows.fnExactFoldProgramRow.laid).forCall (fun _ _ => 0) ⟨#[], #[.agg #[.slice none 0 0, .slice none 0 0, .slice none 0 0, .int .i64 0]], []⟩).memory Tryz.f3.params.toList Rows.fnExactFoldProgramSpec.vars false #[.agg #[.slice none 0 0, .slice none 0 0, .slice none 0 0, .int .i64 0]].toList 8 = some (d, [], places) := by
  have h : (DataW.whole enc Tryz.prog ((World.laidAll Tryz.prog os Rows.fnExactFoldProgramRow.laid).forCall (fun _ _ => 0) ⟨#[], #[.agg #[.slice none 0 0, .slice none 0 0, .slice none 0 0, .int .i64 0]], []⟩).memory Tryz.f3.params.toList Rows.fnExactFoldProgramSpec.vars false #[.agg #[.slice none 0 0, .slice none 0 0, .slice none 0 0, .int .i64 0]].toList 8).map (fun x => x.2.1) = some [] := by kernel_rfl
  revert h
  generalize DataW.whole enc Tryz.prog ((World.laidAll Tryz.prog os Rows.fnExactFoldProgramRow.laid).forCall (fun _ _ => 0) ⟨#[], #[.agg #[.slice none 0 0, .slice none 0 0, .slice none 0 0, .int .i64 0]], []⟩).memory Tryz.f3.params.toList Rows.fnExactFoldProgramSpec.vars false #[.agg #[.slice none 0 0, .slice none 0 0, .slice none 0 0, .int .i64 0]].toList 8 = y
  intro h
  match y, h with
  | some (d, g, p), h => exact ⟨d, p, by injection h with h; rw [show g = [] from h]⟩
 obtain ⟨d, places, hx⟩ := hx
 refine ⟨World.laidAll Tryz.prog os Rows.fnExactFoldProgramRow.laid, fun _ _ => 0, ⟨#[], #[.agg #[.slice none 0 0, .slice none 0 0, .slice none 0 0, .int .i64 0]], []⟩, World.laidAll_os _ _ _, World.shaped_of_ZipB (by kernel_rfl) (by kernel_rfl), (Input.okWide_of_okWideB (base := 0) hok).1, (Input.okWide_of_okWideB hok).2,
  OpenSpec.preRow_of_cond 8 hx (by kernel_rfl) (fun k hk => by cases hk) (by kernel_rfl) (laidMet_laidAll _ (by kernel_rfl) (by kernel_rfl)), ?_⟩
 simp only [Assume.holds]
 exact ⟨by simp, by simp, fun _ => Modest.zero, by simp, by simp⟩
theorem fnExactFoldProgram_lifted (os : Os) (started : os.Started) (H : Type) (enc : TypeId × Value → H) (F : Stop.Interp) :
 ReturnsInHanded {} Tryz.checked os 3 .any ((OpenSpec.ofChange Rows.fnExactFoldProgramSpec).preRow enc Tryz.prog Tryz.f3 Rows.fnExactFoldProgramRow.domain false Rows.fnExactFoldProgramRow.laid) (((OpenSpec.ofChange Rows.fnExactFoldProgramSpec).at F).post enc Tryz.prog Tryz.f3 false true false false) := by
 refine returnsInHanded_of_row (C := Tryz.checked) (s := OpenSpec.ofChange Rows.fnExactFoldProgramSpec) ownKnob_none started (by kernel_rfl) Tryz.func3 (fnExactFoldProgram_witness os enc) ?_
 intro W base args ds gs before hval hW _ _ _ hL hSh _
 exact fnExactFoldProgram_contract H enc W base args ds gs before hval hW hL hSh
theorem fnExactFoldProgram_said : Rows.FnExactFoldProgramSaid :=
 OpenClaim.holds_of_cond 3 Tryz.f3 rfl rfl rfl rfl rfl rfl rfl ⟨rfl, rfl, rfl, rfl, rfl⟩ rfl rfl rfl rfl rfl (by kernel_rfl) Tryz.func3 (by kernel_rfl)
  (of_decide_eq_true (by kernel_rfl)) (by unfold Func.isWrapper; first | (rw [if_pos (by decide +kernel)]; kernel_rfl) | (rw [if_neg (by decide +kernel)]; exact ⟨rfl, rfl⟩))
  (fun os started H enc _ F => by rw [OpenClaim.pre_eq_preRow]; exact fnExactFoldProgram_lifted os started H enc F)
theorem fnExactFoldProgram_plain (f : FuncId) (fn : Func) (hf : Tryz.pinned.checked.prog.funcNamed "loop.example/g03106/laws.FnExactFoldProgram" = some f) (hfn : Tryz.pinned.checked.prog.funcs[f]? = some fn) :
 false = Tryz.pinned.checked.prog.looks [] ∧ ∀ (j : Nat) t, fn.params[j]? = some t → Tryz.pinned.checked.prog.wantsStandIn t = false := by
 obtain rfl : f = 3 := Option.some.inj ((show Tryz.prog.funcNamed "loop.example/g03106/laws.FnExactFoldProgram" = some 3 by kernel_rfl).symm.trans hf) |>.symm
 obtain rfl : fn = Tryz.f3 := (Option.some.inj (Tryz.func3.symm.trans hfn)).symm
 refine ⟨by kernel_rfl, fun j t ht => ?_⟩
 rw [Tryz.params3] at ht
 have hm : t ∈ [26] := by simpa using Array.mem_of_getElem? ht
 have hall : ([26].all fun u => !Tryz.prog.wantsStandIn u) = true := by kernel_rfl
 exact (show Tryz.prog.wantsStandIn t = false by simpa using List.all_eq_true.1 hall t hm)
theorem fnExactFoldProgram_card : Rows.FnExactFoldProgramCardSaid :=
 Claim7.holds_tied_plain_at .later [] _ _ _ _ fnExactFoldProgram_said (fun _ h => by cases h) (by kernel_rfl) (fun _ h => by cases h) fnExactFoldProgram_row_tie rfl ⟨rfl, rfl⟩ (by kernel_rfl) rfl fnExactFoldProgram_plain (by kernel_rfl)
#print axioms fnExactFoldProgram_card
end Go.Proofs.YtjeomamdlmoghaaGreatDoor
end
