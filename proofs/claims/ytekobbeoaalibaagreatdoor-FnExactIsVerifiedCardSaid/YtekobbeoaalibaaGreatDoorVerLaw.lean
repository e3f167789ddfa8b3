/- The law FnExactIsVerified: it returns true and writes nothing that was there. -/
import Derived.Test.YtekobbeoaalibaaGreatDoorIsVer
import Derived.Test.YtekobbeoaalibaaGreatDoorSzAll
import Derived.Test.YtekobbeoaalibaaGreatDoorToAll
import Derived.Test.YtekobbeoaalibaaGreatDoorEqAll
import Derived.Deep.RegionHeld3
namespace Go.Proofs.YtekobbeoaalibaaGreatDoor
open Go.RowKit
set_option linter.unusedVariables false

set_option maxRecDepth 100000 in
set_option maxHeartbeats 4000000 in
theorem law_IsVerified (x : Value) (c : CodeT) (w : World) (lo hi : Nat) (h : SRep w lo hi CodeT.dats x c) (hhi : hi ≤ w.heap.size) (hf : c.Fits) (hst : SpaceTab w) :
    Calls Tryz.prog 3 #[x] w fun e w' => e = .returned (.bool true) ∧ Below w.heap.size w w' := by
  obtain ⟨Aroutines, nroutines, Arecords, nrecords, Aglobals, nglobals, Ainstrs, ninstrs, rfl, -⟩ := CodeT.form h
  have hw0 : Below w.heap.size w (w.alloc (.cells #[.slice Aroutines c.routines.length nroutines, .slice Arecords c.records.length nrecords, .slice Aglobals c.globals.length nglobals, .int .i64 c.main, .slice Ainstrs c.instrs.length ninstrs] 27)) := (Below.refl _ _).alloc (Nat.le_refl _) _
  obtain ⟨r, hr⟩ : ∃ r, (verC c).isSome = r := ⟨_, rfl⟩
  have HR := Lib.hid hr
  have hrr : (r != r) = false := by cases r <;> rfl
  clear hr
  go_enter Tryz.func3, Tryz.ntmps3
  go_wp2_with fail
  refine (szCode_any c _ _ _ _ _ (h.below hw0 hhi) (by simp; omega) (by omega) (by omega) hf).mono ?_; rintro e w1 ⟨rfl, hb1⟩
  have a1 := (Blk.new w 27 #[.slice Aroutines c.routines.length nroutines, .slice Arecords c.records.length nrecords, .slice Aglobals c.globals.length nglobals, .int .i64 c.main, .slice Ainstrs c.instrs.length ninstrs]).later hb1
  have hw1 : Below w.heap.size w w1 := hw0.trans (hb1.mono (by simp))
  have ca := a1.cell
  have la := a1.lt
  clear hb1 hw0
  by_cases hk1 : (1048576 : Int) < c.bulk
  · rw [leftOf_no hk1]
    go_wp2_with fail
    go_ret
    exact ⟨rfl, hw1⟩
  rw [leftOf_yes hk1]
  have hbk : c.bulk ≤ 1048576 := by omega
  have htx : ∀ y ∈ c.instrs, y.text.size ≤ 1048576 := fun y hy => by have h1 : y.text.size ≤ sumOf InsT.bulk c.instrs := sumOf_mem (b := InsT.bulk) hy; unfold CodeT.bulk at hbk; omega
  go_wp2_with fail
  refine (toCode_any c _ _ _ _ (h.below hw1 hhi) (Nat.le_trans hhi hw1.size) hbk).mono ?_; rintro e w2 ⟨x1, rfl, hr2, hb2⟩
  have a2 := a1.later hb2
  have hw2 := hw1.trans (hb2.mono hw1.size)
  clear ca la a1 hb2
  have ca := a2.cell
  have la := a2.lt
  go_wp2_with fail
  refine (spec_IsVerified c _ _ _ _ hr2 (Nat.le_refl _) htx).mono ?_; rw [HR.out]; rintro e w3 ⟨rfl, hb3⟩
  have a3 := a2.later hb3
  have hw3 := hw2.trans (hb3.mono hw2.size)
  clear ca la a2 hb3 hr2
  have ca := a3.cell
  have la := a3.lt
  go_wp2_with fail
  refine (toCode_any c _ _ _ _ (h.below hw3 hhi) (Nat.le_trans hhi hw3.size) hbk).mono ?_; rintro e w4 ⟨x2, rfl, hr4, hb4⟩
  obtain ⟨B0, m0, B1, m1, B2, m2, B3, m3, rfl, -⟩ := CodeT.form hr4
  have a4 := a3.later hb4
  have hw4 := hw3.trans (hb4.mono hw3.size)
  clear ca la a3 hb4
  have ca := a4.cell
  have la := a4.lt
  go_wp2_with fail
  have k4 : Below w4.heap.size w4 (w4.alloc (.cells #[.slice B0 c.routines.length m0, .slice B1 c.records.length m1, .slice B2 c.globals.length m2, .int .i64 c.main, .slice B3 c.instrs.length m3] 34)) := (Below.refl _ _).alloc (Nat.le_refl _) _
  have hw5 := hw4.trans (k4.mono hw4.size)
  refine (impl_IsVerified c _ _ _ _ (hr4.below k4 (Nat.le_refl _)) (by simp) (hst.below hw5 hst.2) htx).mono ?_; rw [HR.out]; rintro e w6 ⟨rfl, hb6⟩
  have a6 := (a4.alloc _).later hb6
  have e6 : Blk w6 w4.heap.size 34 #[.slice B0 c.routines.length m0, .slice B1 c.records.length m1, .slice B2 c.globals.length m2, .int .i64 c.main, .slice B3 c.instrs.length m3] := (Blk.new _ _ _).later hb6
  have hw6 := hw5.trans (hb6.mono (Nat.le_trans hw4.size (by simp)))
  have hr6 := (hr4.below k4 (Nat.le_refl _)).below hb6 (by simp)
  have z6 : w4.heap.size ≤ w6.heap.size := by have := hb6.size; simp at this; omega
  clear ca la a4 hb6 hr4 k4 hw5
  have ca := a6.cell
  have ce := e6.cell
  have la := a6.lt
  have le := e6.lt
  go_wp2_with fail
  have y1 : w.heap.size ≤ w6.drew.heap.size := hw6.size
  have y2 : hi ≤ w6.drew.heap.size := Nat.le_trans hhi hw6.size
  go_region_held3 (fun w' => (∀ i, w'.cell? ⟨w.heap.size, i, none⟩ = #[Value.slice Aroutines c.routines.length nroutines, .slice Arecords c.records.length nrecords, .slice Aglobals c.globals.length nglobals, .int .i64 c.main, .slice Ainstrs c.instrs.length ninstrs][i]?) ∧ (∀ i, w'.cell? ⟨w4.heap.size, i, none⟩ = #[Value.slice B0 c.routines.length m0, .slice B1 c.records.length m1, .slice B2 c.globals.length m2, .int .i64 c.main, .slice B3 c.instrs.length m3][i]?))
    (first | exact ⟨ca, ce⟩ | exact ⟨(a6.drew.later hbA).cell, (e6.drew.later hbA).cell⟩ | exact ⟨((a6.drew.later hbA).later hbB).cell, ((e6.drew.later hbA).later hbB).cell⟩)
    (first
      | (go_at_call 11; refine (toCode_any c _ _ _ _ (h.below hw6.drew hhi) y2 hbk).mono ?_; rintro e wA ⟨xA, rfl, hrA, hbA⟩)
      | (go_at_call 13; refine (eqCode_any c _ _ _ _ _ _ _ (hr6.below ((Below.refl w6.heap.size w6).drew.trans hbA) z6) hrA (Nat.le_trans z6 hbA.size) (Nat.le_refl _)).mono ?_; rintro e wB ⟨rfl, hbB⟩))
  have hw8 : Below w.heap.size w wB := (hw6.drew.trans (hbA.mono y1)).trans (hbB.mono (Nat.le_trans y1 hbA.size))
  go_wp2_with fail
  go_ret
  exact ⟨rfl, hw8⟩
end Go.Proofs.YtekobbeoaalibaaGreatDoor
