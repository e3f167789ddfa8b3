/- The law FnExactOutcomeText: it returns true and writes nothing that was there. -/
import Derived.Test.YtgkgoofapgabhaaDoorProg
import Derived.Test.YtgkgoofapgabhaaDoorOutTextB
namespace Go.Proofs.YtgkgoofapgabhaaDoor
open Go.RowKit

set_option maxRecDepth 100000 in
set_option maxHeartbeats 4000000 in
theorem law_OutcomeText (x : Value) (o : Outc) (w : World) {lo hi : Nat} (h : OutRep w lo hi x o) (hhi : hi ≤ w.heap.size) (hf : o.fits) (ht : PowTab w) (i1 : -9223372036854775808 ≤ o.fault) (i2 : o.fault ≤ 9223372036854775807) (i3 : -9223372036854775808 ≤ o.line) (i4 : o.line ≤ 9223372036854775807) :
    Calls Tryd.prog 4 #[x] w fun e w' => e = .returned (.bool true) ∧ Below w.heap.size w w' := by
  obtain ⟨vo, vt, vd, hx, ho, ht', hd⟩ := h
  have hX : OutRep w lo hi (.agg #[.int .i64 o.status, .string o.value, .int .i64 o.fault, .int .i64 o.line, .int .i64 o.ticks, vo, vt, vd]) o := ⟨vo, vt, vd, rfl, ho, ht', hd⟩
  subst hx
  clear ho ht' hd
  unfold Outc.val
  go_enter Tryd.func4, Tryd.ntmps4
  go_wp2_with fail
  have hw0 : Below w.heap.size w (w.alloc (.cells #[.int .i64 o.status, .string o.value, .int .i64 o.fault, .int .i64 o.line, .int .i64 o.ticks, vo, vt, vd] 27)) := (Below.refl _ _).alloc (Nat.le_refl _) _
  refine (szOutcome_any _ o _ _ (hX.below hw0 hhi) (by simp; omega) (by omega) (by omega) hf).mono ?_; rintro e w1 ⟨rfl, hb1⟩
  have a1 : Blk w1 w.heap.size 27 #[.int .i64 o.status, .string o.value, .int .i64 o.fault, .int .i64 o.line, .int .i64 o.ticks, vo, vt, vd] := (Blk.new w _ _).later hb1
  have hw1 := hw0.trans (hb1.mono (by simp))
  have hz1 : w.heap.size + 1 ≤ w1.heap.size := by have := hb1.size; simp at this; omega
  have ca1 := a1.cell
  clear hb1 hw0
  by_cases hk1 : (1048576 : Int) < o.bulk
  · rw [leftOf_no hk1]
    go_wp2_with fail
    go_ret
    exact ⟨rfl, hw1⟩
  rw [leftOf_yes hk1]
  have ho1 : o.bulk ≤ 1048576 := by omega
  have la1 := a1.lt
  go_wp2_with fail
  refine (toOutcome_any _ o _ (hX.below hw1 hhi) (by omega) ho1).mono ?_; rintro e w2 ⟨x1, rfl, hr2, hb2⟩
  have a2 := a1.later hb2
  have hw2 := hw1.trans (hb2.mono (by omega))
  have z2 := hb2.size
  clear ca1 a1 hb2
  have ca2 := a2.cell
  have la2 := a2.lt
  go_wp2_with fail
  refine (spec_OutcomeText _ o _ hr2 (Nat.le_refl _) ho1 i1 i2 i3 i4).mono ?_; rintro e w3 ⟨rfl, hb3⟩
  have a3 := a2.later hb3
  have hw3 := hw2.trans (hb3.mono (by omega))
  have z3 := hb3.size
  clear ca2 a2 hb3 hr2
  have ca3 := a3.cell
  have la3 := a3.lt
  go_wp2_with fail
  refine (toOutcome_any _ o _ (hX.below hw3 hhi) (by omega) ho1).mono ?_; rintro e w4 ⟨x2, rfl, hr4, hb4⟩
  obtain ⟨qo, qt, qd, rfl, ho4, ht4, hd4⟩ := hr4
  obtain ⟨A1, c1, rfl, -, -, -⟩ := ho4.rds.shape
  obtain ⟨A2, c2, rfl, -, -, -⟩ := ht4.rds.shape
  obtain ⟨A3, c3, rfl, -, -, -⟩ := hd4.rds.shape
  have hX4 : OutRep w4 w3.heap.size w4.heap.size (.agg #[.int .i64 o.status, .string o.value, .int .i64 o.fault, .int .i64 o.line, .int .i64 o.ticks, .slice A1 o.output.length c1, .slice A2 o.trace.length c2, .slice A3 o.dump.length c3]) o := ⟨_, _, _, rfl, ho4, ht4, hd4⟩
  unfold Outc.val
  have a4 := a3.later hb4
  have hw4 := hw3.trans (hb4.mono (by omega))
  have z4 : w.heap.size + 1 ≤ w4.heap.size := by have := hb4.size; omega
  clear ca3 a3 hb4 ho4 ht4 hd4
  have ca4 := a4.cell
  have la4 := a4.lt
  go_wp2_with fail
  have k4 : Below w4.heap.size w4 (w4.alloc (.cells #[.int .i64 o.status, .string o.value, .int .i64 o.fault, .int .i64 o.line, .int .i64 o.ticks, .slice A1 o.output.length c1, .slice A2 o.trace.length c2, .slice A3 o.dump.length c3] 30)) := (Below.refl _ _).alloc (Nat.le_refl _) _
  have hw5 := hw4.trans (k4.mono (by omega))
  refine (impl_OutcomeText _ o _ (hX4.below k4 (Nat.le_refl _)) (by simp) ho1 (ht.later hw5) i1 i2 i3 i4).mono ?_; rintro e w6 ⟨rfl, hb6⟩
  have a6 := (a4.alloc _).later hb6
  have e6 : Blk w6 w4.heap.size 30 #[.int .i64 o.status, .string o.value, .int .i64 o.fault, .int .i64 o.line, .int .i64 o.ticks, .slice A1 o.output.length c1, .slice A2 o.trace.length c2, .slice A3 o.dump.length c3] := (Blk.new _ _ _).later hb6
  have hw6 := hw5.trans (hb6.mono (by simp; omega))
  have hX6 := (hX4.below k4 (Nat.le_refl _)).below hb6 (by simp)
  have z6 : w4.heap.size + 1 ≤ w6.heap.size := by have := hb6.size; simpa using this
  clear ca4 a4 hb6 hX4 k4 hw5
  have ca6 := a6.cell
  have ce6 := e6.cell
  go_wp2_with fail
  have y1 : w.heap.size ≤ w6.drew.heap.size := hw6.size
  have y2 : hi ≤ w6.drew.heap.size := Nat.le_trans hhi hw6.size
  have y3 : w4.heap.size ≤ w6.heap.size := by omega
  go_region_held3 (fun w' => (∀ i, w'.cell? ⟨w.heap.size, i, none⟩ = #[.int .i64 o.status, .string o.value, .int .i64 o.fault, .int .i64 o.line, .int .i64 o.ticks, vo, vt, vd][i]?) ∧ (∀ i, w'.cell? ⟨w4.heap.size, i, none⟩ = #[.int .i64 o.status, .string o.value, .int .i64 o.fault, .int .i64 o.line, .int .i64 o.ticks, .slice A1 o.output.length c1, .slice A2 o.trace.length c2, .slice A3 o.dump.length c3][i]?))
    (first | exact ⟨ca6, ce6⟩ | exact ⟨(a6.drew.later hbA).cell, (e6.drew.later hbA).cell⟩ | exact ⟨((a6.drew.later hbA).later hbB).cell, ((e6.drew.later hbA).later hbB).cell⟩)
    (first
      | (go_at_call 12; refine (toOutcome_any _ o _ (hX.below hw6.drew hhi) y2 ho1).mono ?_; rintro e wA ⟨x1, rfl, hrA, hbA⟩)
      | (go_at_call 14; refine (eqOutcome_any _ _ o o _ (hX6.below ((Below.refl w6.heap.size w6).drew.trans hbA) y3) hrA (Nat.le_trans y3 hbA.size) (Nat.le_refl _)).mono ?_; rw [Outc.eqB_self]; rintro e wB ⟨rfl, hbB⟩))
  have hw8 : Below w.heap.size w wB := (hw6.drew.trans (hbA.mono y1)).trans (hbB.mono (Nat.le_trans y1 hbA.size))
  go_wp2_with fail
  go_ret
  exact ⟨rfl, hw8⟩
end Go.Proofs.YtgkgoofapgabhaaDoor
