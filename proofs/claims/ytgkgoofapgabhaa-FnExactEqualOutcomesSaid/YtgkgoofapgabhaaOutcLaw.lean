/- The law FnExactEqualOutcomes: it returns true and writes nothing that was there. -/
import Derived.Test.YtgkgoofapgabhaaProg
import Derived.Test.YtgkgoofapgabhaaOutcEq
namespace Go.Proofs.Ytgkgoofapgabhaa
open Go.RowKit

set_option maxRecDepth 100000 in
set_option maxHeartbeats 4000000 in
theorem law_EqualOutcomes (x y : Value) (o p : Outc) (w : World) {lo hi lo' hi' : Nat} (h : OutRep w lo hi x o) (h' : OutRep w lo' hi' y p) (hhi : hi ≤ w.heap.size) (hhi' : hi' ≤ w.heap.size) (hf : o.fits) (hf' : p.fits) :
    Calls Try.prog 8 #[x, y] w fun e w' => e = .returned (.bool true) ∧ Below w.heap.size w w' := by
  obtain ⟨vo, vt, vd, hx, ho, ht, hd⟩ := h
  obtain ⟨vo', vt', vd', hy, ho', ht', hd'⟩ := h'
  have hX : OutRep w lo hi (.agg #[.int .i64 o.status, .string o.value, .int .i64 o.fault, .int .i64 o.line, .int .i64 o.ticks, vo, vt, vd]) o := ⟨vo, vt, vd, rfl, ho, ht, hd⟩
  have hY : OutRep w lo' hi' (.agg #[.int .i64 p.status, .string p.value, .int .i64 p.fault, .int .i64 p.line, .int .i64 p.ticks, vo', vt', vd']) p := ⟨vo', vt', vd', rfl, ho', ht', hd'⟩
  subst hx hy
  clear ho ht hd ho' ht' hd'
  unfold Outc.val
  go_enter Try.func8, Try.ntmps8
  go_wp2_with fail
  have hw0 : Below w.heap.size w ((w.alloc (.cells #[.int .i64 o.status, .string o.value, .int .i64 o.fault, .int .i64 o.line, .int .i64 o.ticks, vo, vt, vd] 34)).alloc (.cells #[.int .i64 p.status, .string p.value, .int .i64 p.fault, .int .i64 p.line, .int .i64 p.ticks, vo', vt', vd'] 34)) := ((Below.refl _ _).alloc (Nat.le_refl _) _).alloc (by simp) _
  refine (szOutcome_any _ o _ _ (hX.below hw0 hhi) (by simp; omega) (by omega) (by omega) hf).mono ?_; rintro e w1 ⟨rfl, hb1⟩
  have a1 : Blk w1 w.heap.size 34 #[.int .i64 o.status, .string o.value, .int .i64 o.fault, .int .i64 o.line, .int .i64 o.ticks, vo, vt, vd] := ((Blk.new w _ _).alloc _).later hb1
  have b1 : Blk w1 (w.heap.size + 1) 34 #[.int .i64 p.status, .string p.value, .int .i64 p.fault, .int .i64 p.line, .int .i64 p.ticks, vo', vt', vd'] := (Blk.newAt _ _ _ _ (by simp)).later hb1
  have hw1 := hw0.trans (hb1.mono (by simp; omega))
  have hz1 : w.heap.size + 2 ≤ w1.heap.size := by have := hb1.size; simp at this; omega
  have ca1 := a1.cell
  have cb1 := b1.cell
  clear hb1 hw0
  by_cases hk1 : (1048576 : Int) < o.bulk
  · rw [leftOf_no hk1]
    go_wp2_with fail
    go_ret
    exact ⟨rfl, hw1⟩
  rw [leftOf_yes hk1]
  go_wp2_with fail
  refine (szOutcome_any _ p _ _ (hY.below hw1 hhi') (by omega) (by omega) (by omega) hf').mono ?_; rintro e w2 ⟨rfl, hb2⟩
  have a2 := a1.later hb2
  have b2 := b1.later hb2
  have hw2 := hw1.trans (hb2.mono (by omega))
  have hz2 : w.heap.size + 2 ≤ w2.heap.size := Nat.le_trans hz1 hb2.size
  clear ca1 cb1 a1 b1 hb2 hw1
  have ca2 := a2.cell
  have cb2 := b2.cell
  by_cases hk2 : (1048576 : Int) - o.bulk < p.bulk
  · rw [leftOf_no hk2]
    go_wp2_with fail
    go_ret
    exact ⟨rfl, hw2⟩
  rw [leftOf_yes hk2]
  have ho1 : o.bulk ≤ 1048576 := by omega
  have hp1 : p.bulk ≤ 1048576 := by omega
  have hz0 : hi ≤ w2.drew.heap.size := by show hi ≤ w2.heap.size; omega
  have hz0' : hi' ≤ w2.drew.heap.size := by show hi' ≤ w2.heap.size; omega
  have hz3 : w.heap.size ≤ w2.drew.heap.size := by show w.heap.size ≤ w2.heap.size; omega
  go_wp2_with fail
  go_region_held3 (fun w' => (∀ i, w'.cell? ⟨w.heap.size, i, none⟩ = #[.int .i64 o.status, .string o.value, .int .i64 o.fault, .int .i64 o.line, .int .i64 o.ticks, vo, vt, vd][i]?) ∧ (∀ i, w'.cell? ⟨w.heap.size + 1, i, none⟩ = #[.int .i64 p.status, .string p.value, .int .i64 p.fault, .int .i64 p.line, .int .i64 p.ticks, vo', vt', vd'][i]?))
    (first | exact ⟨ca2, cb2⟩ | exact ⟨(a2.drew.later hbA).cell, (b2.drew.later hbA).cell⟩ | exact ⟨((a2.drew.later hbA).later hbB).cell, ((b2.drew.later hbA).later hbB).cell⟩ | exact ⟨(((a2.drew.later hbA).later hbB).later hbC).cell, (((b2.drew.later hbA).later hbB).later hbC).cell⟩)
    (first
      | (go_at_call_of 28 vo; refine (toOutcome_any _ o _ (hX.below hw2.drew hhi) hz0 ho1).mono ?_; rintro e wA ⟨x1, rfl, hrA, hbA⟩)
      | (go_at_call_of 28 vo'; refine (toOutcome_any _ p _ (hY.below (hw2.drew.trans (hbA.mono hz3)) hhi') (Nat.le_trans hz0' hbA.size) hp1).mono ?_; rintro e wB ⟨x2, rfl, hrB, hbB⟩)
      | (go_at_call 27; refine (spec_EqualOutcomes _ _ o p _ (hrA.below hbB (Nat.le_refl _)) hrB hbB.size (Nat.le_refl _)).mono ?_; rintro e wC ⟨rfl, hbC⟩))
  clear ca2 cb2
  have a3 := ((a2.drew.later hbA).later hbB).later hbC
  have b3 := ((b2.drew.later hbA).later hbB).later hbC
  have z3 : w2.heap.size ≤ wC.heap.size := Nat.le_trans (show w2.heap.size ≤ wA.heap.size from hbA.size) (Nat.le_trans hbB.size hbC.size)
  have hw3 : Below w.heap.size w wC := ((hw2.drew.trans (hbA.mono hz3)).trans (hbB.mono (Nat.le_trans hz3 hbA.size))).trans (hbC.mono (Nat.le_trans hz3 (Nat.le_trans hbA.size hbB.size)))
  rename_i hheld
  clear hheld hrA hrB hbA hbB hbC a2 b2 hw2 hz0 hz0' hz3
  have ca3 := a3.cell
  have cb3 := b3.cell
  go_wp2_with fail
  refine (toOutcome_any _ o _ (hX.below hw3 hhi) (by omega) ho1).mono ?_; rintro e w4 ⟨x1', rfl, hr4, hb4⟩
  obtain ⟨qo, qt, qd, rfl, ho4, ht4, hd4⟩ := hr4
  obtain ⟨A1, c1, rfl, -, -, -⟩ := ho4.rds.shape
  obtain ⟨A2, c2, rfl, -, -, -⟩ := ht4.rds.shape
  obtain ⟨A3, c3, rfl, -, -, -⟩ := hd4.rds.shape
  have hX4 : OutRep w4 wC.heap.size w4.heap.size (.agg #[.int .i64 o.status, .string o.value, .int .i64 o.fault, .int .i64 o.line, .int .i64 o.ticks, .slice A1 o.output.length c1, .slice A2 o.trace.length c2, .slice A3 o.dump.length c3]) o := ⟨_, _, _, rfl, ho4, ht4, hd4⟩
  unfold Outc.val
  have a4 := a3.later hb4
  have b4 := b3.later hb4
  have hw4 := hw3.trans (hb4.mono (by omega))
  have z4 : w.heap.size + 2 ≤ w4.heap.size := by have := hb4.size; omega
  clear ca3 cb3 a3 b3 hb4 ho4 ht4 hd4
  have ca4 := a4.cell
  have cb4 := b4.cell
  have la4 := a4.lt
  have lb4 := b4.lt
  go_wp2_with fail
  have k4 : Below w4.heap.size w4 (w4.alloc (.cells #[.int .i64 o.status, .string o.value, .int .i64 o.fault, .int .i64 o.line, .int .i64 o.ticks, .slice A1 o.output.length c1, .slice A2 o.trace.length c2, .slice A3 o.dump.length c3] 37)) := (Below.refl _ _).alloc (Nat.le_refl _) _
  have hw5 := hw4.trans (k4.mono (by omega))
  refine (toOutcome_any _ p _ (hY.below hw5 hhi') (by simp; omega) hp1).mono ?_; rintro e w6 ⟨x2', rfl, hr6, hb6⟩
  obtain ⟨qo, qt, qd, rfl, ho6, ht6, hd6⟩ := hr6
  obtain ⟨B1, d1, rfl, -, -, -⟩ := ho6.rds.shape
  obtain ⟨B2, d2, rfl, -, -, -⟩ := ht6.rds.shape
  obtain ⟨B3, d3, rfl, -, -, -⟩ := hd6.rds.shape
  have hY6 : OutRep w6 (w4.alloc (.cells #[.int .i64 o.status, .string o.value, .int .i64 o.fault, .int .i64 o.line, .int .i64 o.ticks, .slice A1 o.output.length c1, .slice A2 o.trace.length c2, .slice A3 o.dump.length c3] 37)).heap.size w6.heap.size (.agg #[.int .i64 p.status, .string p.value, .int .i64 p.fault, .int .i64 p.line, .int .i64 p.ticks, .slice B1 p.output.length d1, .slice B2 p.trace.length d2, .slice B3 p.dump.length d3]) p := ⟨_, _, _, rfl, ho6, ht6, hd6⟩
  unfold Outc.val
  have a6 := (a4.alloc _).later hb6
  have b6 := (b4.alloc _).later hb6
  have e6 : Blk w6 w4.heap.size 37 #[.int .i64 o.status, .string o.value, .int .i64 o.fault, .int .i64 o.line, .int .i64 o.ticks, .slice A1 o.output.length c1, .slice A2 o.trace.length c2, .slice A3 o.dump.length c3] := (Blk.new _ _ _).later hb6
  have hw6 := hw5.trans (hb6.mono (by simp; omega))
  have hX6 := (hX4.below k4 (Nat.le_refl _)).below hb6 (by simp)
  have z6 : w4.heap.size + 1 ≤ w6.heap.size := by have := hb6.size; simpa using this
  clear ca4 cb4 a4 b4 hb6 ho6 ht6 hd6 hX4 k4 hw5
  have ca6 := a6.cell
  have cb6 := b6.cell
  have ce6 := e6.cell
  have la6 := a6.lt
  have lb6 := b6.lt
  have le6 := e6.lt
  go_wp2_with fail
  have k6 : Below w6.heap.size w6 (w6.alloc (.cells #[.int .i64 p.status, .string p.value, .int .i64 p.fault, .int .i64 p.line, .int .i64 p.ticks, .slice B1 p.output.length d1, .slice B2 p.trace.length d2, .slice B3 p.dump.length d3] 37)) := (Below.refl _ _).alloc (Nat.le_refl _) _
  refine (impl_EqualOutcomes _ _ o p _ (hX6.below k6 (by omega)) (hY6.below k6 (Nat.le_refl _)) (by simp; omega) (by simp)).mono ?_; rintro e w7 ⟨rfl, hb7⟩
  have a7 := (a6.alloc _).later hb7
  have b7 := (b6.alloc _).later hb7
  have e7 := (e6.alloc _).later hb7
  have f7 : Blk w7 w6.heap.size 37 #[.int .i64 p.status, .string p.value, .int .i64 p.fault, .int .i64 p.line, .int .i64 p.ticks, .slice B1 p.output.length d1, .slice B2 p.trace.length d2, .slice B3 p.dump.length d3] := (Blk.new _ _ _).later hb7
  have hw7 := (hw6.trans (k6.mono (by omega))).trans (hb7.mono (by simp; omega))
  have hX7 := (hX6.below k6 (by omega)).below hb7 (by simp; omega)
  have hY7 := (hY6.below k6 (Nat.le_refl _)).below hb7 (by simp)
  have z7 : w6.heap.size + 1 ≤ w7.heap.size := by have := hb7.size; simpa using this
  clear ca6 cb6 ce6 a6 b6 e6 hb7 k6 hX6 hY6
  have ca7 := a7.cell
  have cb7 := b7.cell
  have ce7 := e7.cell
  have cf7 := f7.cell
  have hneq : (o.eqB p != o.eqB p) = false := by simp
  go_wp2_with fail
  have y1 : w.heap.size ≤ w7.drew.heap.size := hw7.size
  have y2 : hi ≤ w7.drew.heap.size := Nat.le_trans hhi hw7.size
  have y3 : w4.heap.size ≤ w7.heap.size := by omega
  have y4 : w6.heap.size ≤ w7.heap.size := by omega
  go_region_held3 (fun w' => (∀ i, w'.cell? ⟨w.heap.size, i, none⟩ = #[.int .i64 o.status, .string o.value, .int .i64 o.fault, .int .i64 o.line, .int .i64 o.ticks, vo, vt, vd][i]?) ∧ (∀ i, w'.cell? ⟨w4.heap.size, i, none⟩ = #[.int .i64 o.status, .string o.value, .int .i64 o.fault, .int .i64 o.line, .int .i64 o.ticks, .slice A1 o.output.length c1, .slice A2 o.trace.length c2, .slice A3 o.dump.length c3][i]?))
    (first | exact ⟨ca7, ce7⟩ | exact ⟨(a7.drew.later hbA).cell, (e7.drew.later hbA).cell⟩ | exact ⟨((a7.drew.later hbA).later hbB).cell, ((e7.drew.later hbA).later hbB).cell⟩)
    (first
      | (go_at_call 28; refine (toOutcome_any _ o _ (hX.below hw7.drew hhi) y2 ho1).mono ?_; rintro e wA ⟨x1, rfl, hrA, hbA⟩)
      | (go_at_call 30; refine (eqOutcome_any _ _ o o _ (hX7.below ((Below.refl w7.heap.size w7).drew.trans hbA) y3) hrA (Nat.le_trans y3 hbA.size) (Nat.le_refl _)).mono ?_; rw [Outc.eqB_self]; rintro e wB ⟨rfl, hbB⟩))
  have b8 := (b7.drew.later hbA).later hbB
  have f8 := (f7.drew.later hbA).later hbB
  have hw8 : Below w.heap.size w wB := (hw7.drew.trans (hbA.mono y1)).trans (hbB.mono (Nat.le_trans y1 hbA.size))
  have hY8 := ((hY7.below ((Below.refl w7.heap.size w7).drew.trans hbA) y4).below hbB (Nat.le_trans y4 hbA.size))
  have z8 : w7.heap.size ≤ wB.heap.size := Nat.le_trans (show w7.heap.size ≤ wA.heap.size from hbA.size) hbB.size
  rename_i hheld
  clear hheld ca7 cb7 ce7 cf7 a7 b7 e7 f7 hbA hbB hrA hX7 hY7 hw7 y1 y2 hneq
  have cb8 := b8.cell
  have cf8 := f8.cell
  go_wp2_with fail
  have y1 : w.heap.size ≤ wB.drew.heap.size := hw8.size
  have y2 : hi' ≤ wB.drew.heap.size := Nat.le_trans hhi' hw8.size
  have y5 : w6.heap.size ≤ wB.heap.size := by omega
  go_region_held3 (fun w' => (∀ i, w'.cell? ⟨w.heap.size + 1, i, none⟩ = #[.int .i64 p.status, .string p.value, .int .i64 p.fault, .int .i64 p.line, .int .i64 p.ticks, vo', vt', vd'][i]?) ∧ (∀ i, w'.cell? ⟨w6.heap.size, i, none⟩ = #[.int .i64 p.status, .string p.value, .int .i64 p.fault, .int .i64 p.line, .int .i64 p.ticks, .slice B1 p.output.length d1, .slice B2 p.trace.length d2, .slice B3 p.dump.length d3][i]?))
    (first | exact ⟨cb8, cf8⟩ | exact ⟨(b8.drew.later hbC).cell, (f8.drew.later hbC).cell⟩ | exact ⟨((b8.drew.later hbC).later hbD).cell, ((f8.drew.later hbC).later hbD).cell⟩)
    (first
      | (go_at_call 28; refine (toOutcome_any _ p _ (hY.below hw8.drew hhi') y2 hp1).mono ?_; rintro e wD ⟨x3, rfl, hrC, hbC⟩)
      | (go_at_call 30; refine (eqOutcome_any _ _ p p _ (hY8.below ((Below.refl wB.heap.size wB).drew.trans hbC) y5) hrC (Nat.le_trans y5 hbC.size) (Nat.le_refl _)).mono ?_; rw [Outc.eqB_self]; rintro e wE ⟨rfl, hbD⟩))
  have hw9 : Below w.heap.size w wE := (hw8.drew.trans (hbC.mono y1)).trans (hbD.mono (Nat.le_trans y1 hbC.size))
  rename_i hheld
  clear hheld cb8 cf8 b8 f8 hbC hbD hrC hY8 hw8 y1 y2
  go_wp2_with fail
  go_ret
  exact ⟨rfl, hw9⟩
end Go.Proofs.Ytgkgoofapgabhaa
