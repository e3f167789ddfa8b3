/- The law FnExactCheckEdit: it returns true and writes nothing that was there. -/
import Derived.Test.YtekobbeoaalibaaGreatDoorEdB
import Derived.Test.YtekobbeoaalibaaGreatDoorLawsAll
import Derived.Deep.RegionHeld3
namespace Go.Proofs.YtekobbeoaalibaaGreatDoor
open Go.RowKit
set_option linter.unusedVariables false

set_option maxRecDepth 100000 in
set_option maxHeartbeats 4000000 in
theorem law_CheckEdit (x y : Value) (c : CodeT) (d : EditT) (w : World) (lo hi : Nat) (h : SRep w lo hi CodeT.dats x c) (hy : SRep w lo hi EditT.dats y d) (hhi : hi ≤ w.heap.size) (hf : c.Fits) (hst : SpaceTab w) :
    Calls Tryz.prog 5 #[x, y] w fun e w' => e = .returned (.bool true) ∧ Below w.heap.size w w' := by
  obtain ⟨Aroutines, nroutines, Arecords, nrecords, Aglobals, nglobals, Ainstrs, ninstrs, rfl, -⟩ := CodeT.form h
  obtain rfl := EditT.form hy
  have hw0 : Below w.heap.size w ((w.alloc (.cells #[Value.slice Aroutines c.routines.length nroutines, .slice Arecords c.records.length nrecords, .slice Aglobals c.globals.length nglobals, .int .i64 c.main, .slice Ainstrs c.instrs.length ninstrs] 27)).alloc (.cells #[Value.int .i64 d.kind, .int .i64 d.place] 44)) := ((Below.refl _ _).alloc (Nat.le_refl _) _).alloc (by simp) _
  obtain ⟨r, hr⟩ : ∃ r, checkB c d.kind d.place = r := ⟨_, rfl⟩
  have HR := Lib.hid hr
  have hrr : (r != r) = false := by cases r <;> rfl
  have hE : ∀ (W : World) (l h : Nat), SRep W l h EditT.dats (.agg #[Value.int .i64 d.kind, .int .i64 d.place]) d := fun W l h => EditT.mk_
  have HE := Lib.hid hE
  clear hr hy hE
  go_enter Tryz.func5, Tryz.ntmps5
  go_wp2_with fail
  refine (szCode_any c _ _ _ _ _ (h.below hw0 hhi) (by simp; omega) (by omega) (by omega) hf).mono ?_; rintro e w1 ⟨rfl, hb1⟩
  have a1 := ((Blk.new w 27 #[Value.slice Aroutines c.routines.length nroutines, .slice Arecords c.records.length nrecords, .slice Aglobals c.globals.length nglobals, .int .i64 c.main, .slice Ainstrs c.instrs.length ninstrs]).alloc (.cells #[Value.int .i64 d.kind, .int .i64 d.place] 44)).later hb1
  have b1 := (Blk.newAt (w.alloc (.cells #[Value.slice Aroutines c.routines.length nroutines, .slice Arecords c.records.length nrecords, .slice Aglobals c.globals.length nglobals, .int .i64 c.main, .slice Ainstrs c.instrs.length ninstrs] 27)) 44 #[Value.int .i64 d.kind, .int .i64 d.place] (w.heap.size + 1) (by simp)).later hb1
  have hw1 : Below w.heap.size w w1 := hw0.trans (hb1.mono hw0.size)
  have ca := a1.cell
  have la := a1.lt
  have cb := b1.cell
  have lb := b1.lt
  clear hb1 hw0
  by_cases hk1 : (1048576 : Int) < c.bulk
  · rw [leftOf_no hk1]
    go_wp2_with fail
    go_ret
    exact ⟨rfl, hw1⟩
  rw [leftOf_yes hk1]
  have hbk : c.bulk ≤ 1048576 := by omega
  have htx : ∀ y ∈ c.instrs, y.text.size ≤ 1048576 := fun y hy => by have h1 : y.text.size ≤ sumOf InsT.bulk c.instrs := sumOf_mem (b := InsT.bulk) hy; unfold CodeT.bulk at hbk; omega
  have HTX := Lib.hid htx
  clear htx
  go_wp2_with fail
  have y1 : w.heap.size ≤ w1.drew.heap.size := hw1.size
  have y2 : hi ≤ w1.drew.heap.size := Nat.le_trans hhi hw1.size
  go_region_held3 (fun w' => (∀ i, w'.cell? ⟨w.heap.size, i, none⟩ = #[Value.slice Aroutines c.routines.length nroutines, .slice Arecords c.records.length nrecords, .slice Aglobals c.globals.length nglobals, .int .i64 c.main, .slice Ainstrs c.instrs.length ninstrs][i]?) ∧ (∀ i, w'.cell? ⟨w.heap.size + 1, i, none⟩ = #[Value.int .i64 d.kind, .int .i64 d.place][i]?))
    (first | exact ⟨ca, cb⟩ | exact ⟨(a1.drew.later hbA).cell, (b1.drew.later hbA).cell⟩ | exact ⟨((a1.drew.later hbA).later hbB).cell, ((b1.drew.later hbA).later hbB).cell⟩ | exact ⟨(((a1.drew.later hbA).later hbB).later hbC).cell, (((b1.drew.later hbA).later hbB).later hbC).cell⟩)
    (first
      | (go_at_call 11; refine (toCode_any c _ _ _ _ (h.below hw1.drew hhi) y2 hbk).mono ?_; rintro e wA ⟨xA, rfl, hrA, hbA⟩)
      | (go_at_call 21; refine (toEdit_any d _ _ 0 0 (HE.out _ _ _) (Nat.zero_le _) (Nat.zero_le _)).mono ?_; rintro e wB ⟨xB, rfl, hrB, hbB⟩; obtain rfl := EditT.form hrB)
      | (go_at_call 20; refine (spec_CheckEdit c _ d.kind d.place _ _ _ (hrA.below hbB (Nat.le_refl _)) hbB.size HTX.out).mono ?_; rw [HR.out]; rintro e wC ⟨rfl, hbC⟩))
  have hb : Below w1.heap.size w1 wC := ((((Below.refl _ _).drew).trans hbA).trans (hbB.mono hbA.size)).trans (hbC.mono (Nat.le_trans hbA.size hbB.size))
  obtain ⟨w3, rfl⟩ : ∃ w', w' = wC := ⟨_, rfl⟩
  have a3 := a1.later hb
  have b3 := b1.later hb
  have hw3 := hw1.trans (hb.mono hw1.size)
  clear ca la cb lb a1 b1 hb hbA hbB hbC hrA hrB y1 y2
  have ca := a3.cell
  have la := a3.lt
  have cb := b3.cell
  have lb := b3.lt
  go_wp2_with fail
  refine (toCode_any c _ _ _ _ (h.below hw3 hhi) (Nat.le_trans hhi hw3.size) hbk).mono ?_; rintro e w4 ⟨x2, rfl, hr4, hb4⟩
  obtain ⟨B0, m0, B1, m1, B2, m2, B3, m3, rfl, -⟩ := CodeT.form hr4
  have a4 := a3.later hb4
  have b4 := b3.later hb4
  have hw4 := hw3.trans (hb4.mono hw3.size)
  clear ca la a3 b3 cb lb hb4
  have ca := a4.cell
  have la := a4.lt
  have cb := b4.cell
  have lb := b4.lt
  have k4 : Below w4.heap.size w4 (w4.alloc (.cells #[Value.slice B0 c.routines.length m0, .slice B1 c.records.length m1, .slice B2 c.globals.length m2, .int .i64 c.main, .slice B3 c.instrs.length m3] 34)) := (Below.refl _ _).alloc (Nat.le_refl _) _
  have e5 := Blk.new w4 34 #[Value.slice B0 c.routines.length m0, .slice B1 c.records.length m1, .slice B2 c.globals.length m2, .int .i64 c.main, .slice B3 c.instrs.length m3]
  have a5 := a4.alloc (.cells #[Value.slice B0 c.routines.length m0, .slice B1 c.records.length m1, .slice B2 c.globals.length m2, .int .i64 c.main, .slice B3 c.instrs.length m3] 34)
  have b5 := b4.alloc (.cells #[Value.slice B0 c.routines.length m0, .slice B1 c.records.length m1, .slice B2 c.globals.length m2, .int .i64 c.main, .slice B3 c.instrs.length m3] 34)
  have hw5 := hw4.trans (k4.mono hw4.size)
  have hr5 := hr4.below k4 (Nat.le_refl _)
  go_wp2_with fail
  clear ca la cb lb
  obtain ⟨W, hW⟩ : ∃ W, w4.alloc (.cells #[Value.slice B0 c.routines.length m0, .slice B1 c.records.length m1, .slice B2 c.globals.length m2, .int .i64 c.main, .slice B3 c.instrs.length m3] 34) = W := ⟨_, rfl⟩
  have hWs : W.heap.size = w4.heap.size + 1 := by rw [← hW]; simp
  rw [hW] at e5 a5 b5 hw5 hr5 ⊢
  clear hW k4
  have cb := b5.cell
  have lb := b5.lt
  have ce := e5.cell
  have le := e5.lt
  go_region_held3 (fun w' => (∀ i, w'.cell? ⟨w4.heap.size, i, none⟩ = #[Value.slice B0 c.routines.length m0, .slice B1 c.records.length m1, .slice B2 c.globals.length m2, .int .i64 c.main, .slice B3 c.instrs.length m3][i]?) ∧ (∀ i, w'.cell? ⟨w.heap.size + 1, i, none⟩ = #[Value.int .i64 d.kind, .int .i64 d.place][i]?))
    (first | exact ⟨ce, cb⟩ | exact ⟨(e5.drew.later hbA).cell, (b5.drew.later hbA).cell⟩ | exact ⟨((e5.drew.later hbA).later hbB).cell, ((b5.drew.later hbA).later hbB).cell⟩)
    (first
      | (go_at_call 21; refine (toEdit_any d _ _ 0 0 (HE.out _ _ _) (Nat.zero_le _) (Nat.zero_le _)).mono ?_; rintro e wA ⟨xA, rfl, hrA, hbA⟩; obtain rfl := EditT.form hrA)
      | (go_at_call 22; refine (impl_CheckEdit c _ d.kind d.place _ _ _ (hr5.below ((Below.refl W.heap.size W).drew.trans hbA) (by omega)) (Nat.le_trans (show w4.heap.size ≤ W.heap.size by omega) hbA.size) (hst.below (hw5.drew.trans (hbA.mono hw5.size)) hst.2) HTX.out).mono ?_; rw [HR.out]; rintro e wB ⟨rfl, hbB⟩))
  have hb : Below W.heap.size W wB := (((Below.refl _ _).drew).trans hbA).trans (hbB.mono hbA.size)
  obtain ⟨w6, rfl⟩ : ∃ w', w' = wB := ⟨_, rfl⟩
  have a6 := a5.later hb
  have e6 := e5.later hb
  have hw6 := hw5.trans (hb.mono hw5.size)
  have z6 : w4.heap.size ≤ w6.heap.size := by have := hb.size; omega
  have hr6 := hr5.below hb (by omega)
  clear cb lb ce le a5 e5 b5 hb hbA hbB hrA hr5 hWs
  have ca := a6.cell
  have la := a6.lt
  have ce := e6.cell
  have le := e6.lt
  go_wp2_with fail
  have y1 : w.heap.size ≤ w6.drew.heap.size := hw6.size
  have y2 : hi ≤ w6.drew.heap.size := Nat.le_trans hhi hw6.size
  go_region_held3 (fun w' => (∀ i, w'.cell? ⟨w.heap.size, i, none⟩ = #[Value.slice Aroutines c.routines.length nroutines, .slice Arecords c.records.length nrecords, .slice Aglobals c.globals.length nglobals, .int .i64 c.main, .slice Ainstrs c.instrs.length ninstrs][i]?) ∧ (∀ i, w'.cell? ⟨w4.heap.size, i, none⟩ = #[Value.slice B0 c.routines.length m0, .slice B1 c.records.length m1, .slice B2 c.globals.length m2, .int .i64 c.main, .slice B3 c.instrs.length m3][i]?))
    (first | exact ⟨ca, ce⟩ | exact ⟨(a6.drew.later hbA).cell, (e6.drew.later hbA).cell⟩ | exact ⟨((a6.drew.later hbA).later hbB).cell, ((e6.drew.later hbA).later hbB).cell⟩)
    (first
      | (go_at_call 11; refine (toCode_any c _ _ _ _ (h.below hw6.drew hhi) y2 hbk).mono ?_; rintro e wA ⟨xA, rfl, hrA, hbA⟩)
      | (go_at_call 13; refine (eqCode_any c _ _ _ _ _ _ _ (hr6.below ((Below.refl w6.heap.size w6).drew.trans hbA) z6) hrA (Nat.le_trans z6 hbA.size) (Nat.le_refl _)).mono ?_; rintro e wB ⟨rfl, hbB⟩))
  have hw8 : Below w.heap.size w wB := (hw6.drew.trans (hbA.mono y1)).trans (hbB.mono (Nat.le_trans y1 hbA.size))
  go_wp2_with fail
  go_ret
  exact ⟨rfl, hw8⟩
end Go.Proofs.YtekobbeoaalibaaGreatDoor
