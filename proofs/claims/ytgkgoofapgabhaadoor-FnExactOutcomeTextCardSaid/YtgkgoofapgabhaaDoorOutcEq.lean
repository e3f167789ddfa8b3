/- Two outcomes compared: eqOutcome of the laws, EqualOutcomes of the reference and of the program: each answers Outc.eqB. -/
import Derived.Test.YtgkgoofapgabhaaDoorProg
import Derived.Test.YtgkgoofapgabhaaDoorOutc
namespace Go.Proofs.YtgkgoofapgabhaaDoor
open Go.RowKit

def Outc.eqB (o p : Outc) : Bool :=
  decide (o.status = p.status ∧ o.value = p.value ∧ o.fault = p.fault ∧ o.line = p.line ∧ o.ticks = p.ticks ∧ o.output = p.output ∧ o.trace = p.trace ∧ o.dump = p.dump)
theorem Outc.eqB_self (o : Outc) : o.eqB o = true := by simp [Outc.eqB]

set_option maxRecDepth 100000 in
set_option maxHeartbeats 2000000 in
theorem eqOutcome_any (x y : Value) (o p : Outc) (w : World) {lo hi lo' hi' : Nat} (h : OutRep w lo hi x o) (h' : OutRep w lo' hi' y p) (hhi : hi ≤ w.heap.size) (hhi' : hi' ≤ w.heap.size) :
    Calls Tryd.prog 14 #[x, y] w fun e w' => e = .returned (.bool (o.eqB p)) ∧ Below w.heap.size w w' := by
  obtain ⟨vo, vt, vd, rfl, ho, ht, hd⟩ := h
  obtain ⟨vo', vt', vd', rfl, ho', ht', hd'⟩ := h'
  have Ho := ho.rds
  have Ht := ht.rds
  have Hd := hd.rds
  have Ho' := ho'.rds
  have Ht' := ht'.rds
  have Hd' := hd'.rds
  clear ho ht hd ho' ht' hd'
  obtain ⟨status, value, fault, line, ticks, output, trace, dump⟩ := o
  obtain ⟨status', value', fault', line', ticks', output', trace', dump'⟩ := p
  unfold Outc.val
  dsimp only at Ho Ht Hd Ho' Ht' Hd' ⊢
  by_cases h_status : status = status'
  rotate_left
  · have hb : (status != status') = true := by simpa using h_status
    go_enter Tryd.func14, Tryd.ntmps14
    go_wp2_with fail
    go_ret
    exact ⟨ret_bool (by simp [Outc.eqB, h_status]), ((Below.refl _ _).alloc (Nat.le_refl _) _).alloc (by simp) _⟩
  subst h_status
  by_cases h_value : value = value'
  rotate_left
  · have hb := str_ne h_value
    go_enter Tryd.func14, Tryd.ntmps14
    go_wp2_with fail
    go_ret
    exact ⟨ret_bool (by simp [Outc.eqB, h_value]), ((Below.refl _ _).alloc (Nat.le_refl _) _).alloc (by simp) _⟩
  subst h_value
  have hsv := str_eq value
  by_cases h_fault : fault = fault'
  rotate_left
  · have hb : (fault != fault') = true := by simpa using h_fault
    go_enter Tryd.func14, Tryd.ntmps14
    go_wp2_with fail
    go_ret
    exact ⟨ret_bool (by simp [Outc.eqB, h_fault]), ((Below.refl _ _).alloc (Nat.le_refl _) _).alloc (by simp) _⟩
  subst h_fault
  by_cases h_line : line = line'
  rotate_left
  · have hb : (line != line') = true := by simpa using h_line
    go_enter Tryd.func14, Tryd.ntmps14
    go_wp2_with fail
    go_ret
    exact ⟨ret_bool (by simp [Outc.eqB, h_line]), ((Below.refl _ _).alloc (Nat.le_refl _) _).alloc (by simp) _⟩
  subst h_line
  by_cases h_ticks : ticks = ticks'
  rotate_left
  · have hb : (ticks != ticks') = true := by simpa using h_ticks
    go_enter Tryd.func14, Tryd.ntmps14
    go_wp2_with fail
    go_ret
    exact ⟨ret_bool (by simp [Outc.eqB, h_ticks]), ((Below.refl _ _).alloc (Nat.le_refl _) _).alloc (by simp) _⟩
  subst h_ticks
  go_enter Tryd.func14, Tryd.ntmps14
  go_wp2_with fail
  have hw0 : Below w.heap.size w ((w.alloc (.cells #[.int .i64 status, .string value, .int .i64 fault, .int .i64 line, .int .i64 ticks, vo, vt, vd] 30)).alloc (.cells #[.int .i64 status, .string value, .int .i64 fault, .int .i64 line, .int .i64 ticks, vo', vt', vd'] 30)) := ((Below.refl _ _).alloc (Nat.le_refl _) _).alloc (by simp) _
  have a0 : Blk ((w.alloc (.cells #[.int .i64 status, .string value, .int .i64 fault, .int .i64 line, .int .i64 ticks, vo, vt, vd] 30)).alloc (.cells #[.int .i64 status, .string value, .int .i64 fault, .int .i64 line, .int .i64 ticks, vo', vt', vd'] 30)) w.heap.size 30 #[.int .i64 status, .string value, .int .i64 fault, .int .i64 line, .int .i64 ticks, vo, vt, vd] := (Blk.new w _ _).alloc _
  have b0 : Blk ((w.alloc (.cells #[.int .i64 status, .string value, .int .i64 fault, .int .i64 line, .int .i64 ticks, vo, vt, vd] 30)).alloc (.cells #[.int .i64 status, .string value, .int .i64 fault, .int .i64 line, .int .i64 ticks, vo', vt', vd'] 30)) (w.heap.size + 1) 30 #[.int .i64 status, .string value, .int .i64 fault, .int .i64 line, .int .i64 ticks, vo', vt', vd'] := Blk.newAt _ _ _ _ (by simp)
  refine (eqStringS_any _ _ output output' _ (Ho.below hw0 hhi) (Ho'.below hw0 hhi')).mono ?_; rintro e w1 ⟨rfl, hs1⟩
  have hw1 : Below w.heap.size w w1 := hw0.trans (hs1.below _)
  have a1 := a0.same hs1
  have b1 := b0.same hs1
  clear hs1 a0 b0
  have ca1 := a1.cell
  have cb1 := b1.cell
  by_cases h_output : output = output'
  rotate_left
  · rw [decide_eq_false h_output]
    go_wp2_with fail
    go_ret
    exact ⟨ret_bool (by simp [Outc.eqB, h_output]), hw1⟩
  rw [decide_eq_true h_output]
  go_wp2_with fail
  clear ca1 cb1
  refine (eqStringS_any _ _ trace trace' _ (Ht.below hw1 hhi) (Ht'.below hw1 hhi')).mono ?_; rintro e w2 ⟨rfl, hs2⟩
  have hw2 : Below w.heap.size w w2 := hw1.trans (hs2.below _)
  have a2 := a1.same hs2
  have b2 := b1.same hs2
  clear hs2 a1 b1
  have ca2 := a2.cell
  have cb2 := b2.cell
  by_cases h_trace : trace = trace'
  rotate_left
  · rw [decide_eq_false h_trace]
    go_wp2_with fail
    go_ret
    exact ⟨ret_bool (by simp [Outc.eqB, h_trace]), hw2⟩
  rw [decide_eq_true h_trace]
  go_wp2_with fail
  clear ca2 cb2
  refine (eqStringS_any _ _ dump dump' _ (Hd.below hw2 hhi) (Hd'.below hw2 hhi')).mono ?_; rintro e w3 ⟨rfl, hs3⟩
  have hw3 : Below w.heap.size w w3 := hw2.trans (hs3.below _)
  have a3 := a2.same hs3
  have b3 := b2.same hs3
  clear hs3 a2 b2
  have ca3 := a3.cell
  have cb3 := b3.cell
  by_cases h_dump : dump = dump'
  rotate_left
  · rw [decide_eq_false h_dump]
    go_wp2_with fail
    go_ret
    exact ⟨ret_bool (by simp [Outc.eqB, h_dump]), hw3⟩
  rw [decide_eq_true h_dump]
  go_wp2_with fail
  clear ca3 cb3
  go_ret
  exact ⟨ret_bool (by simp [Outc.eqB, h_output, h_trace, h_dump]), hw3⟩


end Go.Proofs.YtgkgoofapgabhaaDoor
