/- CanFail and CanResume of both sides; the laws FnExactCanFail, FnExactCanResume: they return true and write nothing that was there. -/
import Derived.Test.YtppdelelgkepaaaDoorTree
import Derived.Test.YtppdelelgkepaaaDoorTreeS
import Derived.Test.YtppdelelgkepaaaDoorCanR
import Derived.Test.YtppdelelgkepaaaDoorCanS
import Derived.Test.YtppdelelgkepaaaDoorCoreEq
namespace Go.Proofs.YtppdelelgkepaaaDoor
open Go.RowKit

theorem coreOk_eq (c : CoreT) : coreOk c = treeOk c := by
  rw [coreOk, treeOk, validS, Bool.eq_iff_iff]
  simp only [Bool.and_eq_true, decide_eq_true_eq]
  constructor
  · rintro ⟨⟨h1, h2⟩, h3⟩; exact ⟨⟨by omega, h3⟩, h1⟩
  · rintro ⟨⟨h1, h2⟩, h3⟩; exact ⟨⟨h3, by omega⟩, h2⟩
set_option maxRecDepth 100000 in
set_option maxHeartbeats 1000000 in
theorem spec_CanFail (c : CoreT) (x : Value) (w : World) (lo hi : Nat) (h : CRep w lo hi x c) (hhi : hi ≤ w.heap.size) (hbk : c.bulk ≤ 1048576) :
    Calls Tryd.prog 6 #[x] w fun e w' => e = .returned (.bool (!treeOk c || failT c)) ∧ Below w.heap.size w w' := by
  obtain ⟨A, cap, rfl, hk, hc1, hc2⟩ := h.form
  have hw0 : Below w.heap.size w (w.alloc (.cells #[.int .i64 c.kind, .int .i64 c.op, .int .i64 c.number, .int .i64 c.line, .string c.text, .slice A c.kids.length cap] 29)) := (Below.refl _ _).alloc (Nat.le_refl _) _
  cases ht : treeOk c with
  | false =>
    have HT := Lib.hid ht
    clear ht
    go_enter Tryd.func6, Tryd.ntmps6
    go_wp2_with fail
    refine (spec_l33Core c _ _ lo hi (h.below hw0 hhi) (by simp; omega) hbk).mono ?_; rw [coreOk_eq]; rw [HT.out]; rintro e w1 ⟨rfl, hb1⟩
    go_wp2_with fail
    go_ret
    exact ⟨rfl, hw0.trans (hb1.mono (by simp))⟩
  | true =>
    have hw := treeOk_wk ht
    have HT := Lib.hid ht
    clear ht
    go_enter Tryd.func6, Tryd.ntmps6
    go_wp2_with fail
    refine (spec_l33Core c _ _ lo hi (h.below hw0 hhi) (by simp; omega) hbk).mono ?_; rw [coreOk_eq]; rw [HT.out]; rintro e w1 ⟨rfl, hb1⟩
    have a1 := (Blk.new w 29 #[.int .i64 c.kind, .int .i64 c.op, .int .i64 c.number, .int .i64 c.line, .string c.text, .slice A c.kids.length cap]).later hb1
    have hw1 : Below w.heap.size w w1 := hw0.trans (hb1.mono (by simp))
    have ca := a1.cell
    have la := a1.lt
    go_wp2_with fail
    refine ((spec_l33Can c).1.ask hw _ _ lo hi (h.below hw1 hhi) (Nat.le_trans hhi hw1.size)).mono ?_; rintro e w2 ⟨rfl, hb2⟩
    go_wp2_with fail
    go_ret
    exact ⟨rfl, hw1.trans (hb2.mono hw1.size)⟩
set_option maxRecDepth 100000 in
set_option maxHeartbeats 1000000 in
theorem impl_CanFail (c : CoreT) (x : Value) (w : World) (lo hi : Nat) (h : CRep w lo hi x c) (hhi : hi ≤ w.heap.size) (hst : SpaceTab w) (hbk : c.bulk ≤ 1048576) :
    Calls Tryd.prog 8 #[x] w fun e w' => e = .returned (.bool (!treeOk c || failT c)) ∧ Below w.heap.size w w' := by
  obtain ⟨A, cap, rfl, hk, hc1, hc2⟩ := h.form
  have hw0 : Below w.heap.size w (w.alloc (.cells #[.int .i64 c.kind, .int .i64 c.op, .int .i64 c.number, .int .i64 c.line, .string c.text, .slice A c.kids.length cap] 29)) := (Below.refl _ _).alloc (Nat.le_refl _) _
  cases ht : treeOk c with
  | false =>
    have HT := Lib.hid ht
    clear ht
    go_enter Tryd.func8, Tryd.ntmps8
    go_wp2_with fail
    refine (impl_validTree c _ _ lo hi (h.below hw0 hhi) (by simp; omega) (hst.below hw0 hst.2) hbk).mono ?_; rw [HT.out]; rintro e w1 ⟨rfl, hb1⟩
    go_wp2_with fail
    go_ret
    exact ⟨rfl, hw0.trans (hb1.mono (by simp))⟩
  | true =>
    have hw := treeOk_wk ht
    have HT := Lib.hid ht
    clear ht
    go_enter Tryd.func8, Tryd.ntmps8
    go_wp2_with fail
    refine (impl_validTree c _ _ lo hi (h.below hw0 hhi) (by simp; omega) (hst.below hw0 hst.2) hbk).mono ?_; rw [HT.out]; rintro e w1 ⟨rfl, hb1⟩
    have a1 := (Blk.new w 29 #[.int .i64 c.kind, .int .i64 c.op, .int .i64 c.number, .int .i64 c.line, .string c.text, .slice A c.kids.length cap]).later hb1
    have hw1 : Below w.heap.size w w1 := hw0.trans (hb1.mono (by simp))
    have ca := a1.cell
    have la := a1.lt
    go_wp2_with fail
    refine ((impl_canFail c).ask hw _ _ lo hi (h.below hw1 hhi) (Nat.le_trans hhi hw1.size)).mono ?_; rintro e w2 ⟨rfl, hb2⟩
    go_wp2_with fail
    go_ret
    exact ⟨rfl, hw1.trans (hb2.mono hw1.size)⟩
set_option maxRecDepth 100000 in
set_option maxHeartbeats 1000000 in
theorem spec_CanResume (c : CoreT) (x : Value) (w : World) (lo hi : Nat) (h : CRep w lo hi x c) (hhi : hi ≤ w.heap.size) (hbk : c.bulk ≤ 1048576) :
    Calls Tryd.prog 10 #[x] w fun e w' => e = .returned (.bool (!treeOk c || resT c)) ∧ Below w.heap.size w w' := by
  obtain ⟨A, cap, rfl, hk, hc1, hc2⟩ := h.form
  have hw0 : Below w.heap.size w (w.alloc (.cells #[.int .i64 c.kind, .int .i64 c.op, .int .i64 c.number, .int .i64 c.line, .string c.text, .slice A c.kids.length cap] 29)) := (Below.refl _ _).alloc (Nat.le_refl _) _
  cases ht : treeOk c with
  | false =>
    have HT := Lib.hid ht
    clear ht
    go_enter Tryd.func10, Tryd.ntmps10
    go_wp2_with fail
    refine (spec_l33Core c _ _ lo hi (h.below hw0 hhi) (by simp; omega) hbk).mono ?_; rw [coreOk_eq]; rw [HT.out]; rintro e w1 ⟨rfl, hb1⟩
    go_wp2_with fail
    go_ret
    exact ⟨rfl, hw0.trans (hb1.mono (by simp))⟩
  | true =>
    have hw := treeOk_wk ht
    have HT := Lib.hid ht
    clear ht
    go_enter Tryd.func10, Tryd.ntmps10
    go_wp2_with fail
    refine (spec_l33Core c _ _ lo hi (h.below hw0 hhi) (by simp; omega) hbk).mono ?_; rw [coreOk_eq]; rw [HT.out]; rintro e w1 ⟨rfl, hb1⟩
    have a1 := (Blk.new w 29 #[.int .i64 c.kind, .int .i64 c.op, .int .i64 c.number, .int .i64 c.line, .string c.text, .slice A c.kids.length cap]).later hb1
    have hw1 : Below w.heap.size w w1 := hw0.trans (hb1.mono (by simp))
    have ca := a1.cell
    have la := a1.lt
    go_wp2_with fail
    refine ((spec_l33Can c).2.ask hw _ _ lo hi (h.below hw1 hhi) (Nat.le_trans hhi hw1.size)).mono ?_; rintro e w2 ⟨rfl, hb2⟩
    go_wp2_with fail
    go_ret
    exact ⟨rfl, hw1.trans (hb2.mono hw1.size)⟩
set_option maxRecDepth 100000 in
set_option maxHeartbeats 1000000 in
theorem impl_CanResume (c : CoreT) (x : Value) (w : World) (lo hi : Nat) (h : CRep w lo hi x c) (hhi : hi ≤ w.heap.size) (hst : SpaceTab w) (hbk : c.bulk ≤ 1048576) :
    Calls Tryd.prog 11 #[x] w fun e w' => e = .returned (.bool (!treeOk c || resT c)) ∧ Below w.heap.size w w' := by
  obtain ⟨A, cap, rfl, hk, hc1, hc2⟩ := h.form
  have hw0 : Below w.heap.size w (w.alloc (.cells #[.int .i64 c.kind, .int .i64 c.op, .int .i64 c.number, .int .i64 c.line, .string c.text, .slice A c.kids.length cap] 29)) := (Below.refl _ _).alloc (Nat.le_refl _) _
  cases ht : treeOk c with
  | false =>
    have HT := Lib.hid ht
    clear ht
    go_enter Tryd.func11, Tryd.ntmps11
    go_wp2_with fail
    refine (impl_validTree c _ _ lo hi (h.below hw0 hhi) (by simp; omega) (hst.below hw0 hst.2) hbk).mono ?_; rw [HT.out]; rintro e w1 ⟨rfl, hb1⟩
    go_wp2_with fail
    go_ret
    exact ⟨rfl, hw0.trans (hb1.mono (by simp))⟩
  | true =>
    have hw := treeOk_wk ht
    have HT := Lib.hid ht
    clear ht
    go_enter Tryd.func11, Tryd.ntmps11
    go_wp2_with fail
    refine (impl_validTree c _ _ lo hi (h.below hw0 hhi) (by simp; omega) (hst.below hw0 hst.2) hbk).mono ?_; rw [HT.out]; rintro e w1 ⟨rfl, hb1⟩
    have a1 := (Blk.new w 29 #[.int .i64 c.kind, .int .i64 c.op, .int .i64 c.number, .int .i64 c.line, .string c.text, .slice A c.kids.length cap]).later hb1
    have hw1 : Below w.heap.size w w1 := hw0.trans (hb1.mono (by simp))
    have ca := a1.cell
    have la := a1.lt
    go_wp2_with fail
    refine ((impl_canResume c).ask hw _ _ lo hi (h.below hw1 hhi) (Nat.le_trans hhi hw1.size)).mono ?_; rintro e w2 ⟨rfl, hb2⟩
    go_wp2_with fail
    go_ret
    exact ⟨rfl, hw1.trans (hb2.mono hw1.size)⟩
set_option maxRecDepth 100000 in
set_option maxHeartbeats 4000000 in
theorem law_CanFail (x : Value) (c : CoreT) (w : World) (lo hi : Nat) (h : CRep w lo hi x c) (hhi : hi ≤ w.heap.size) (hf : c.Fits) (hst : SpaceTab w) :
    Calls Tryd.prog 3 #[x] w fun e w' => e = .returned (.bool true) ∧ Below w.heap.size w w' := by
  obtain ⟨A, cap, rfl, hk, hc1, hc2⟩ := h.form
  have hw0 : Below w.heap.size w (w.alloc (.cells #[.int .i64 c.kind, .int .i64 c.op, .int .i64 c.number, .int .i64 c.line, .string c.text, .slice A c.kids.length cap] 24)) := (Below.refl _ _).alloc (Nat.le_refl _) _
  obtain ⟨r, hr⟩ : ∃ r, (!treeOk c || failT c) = r := ⟨_, rfl⟩
  have HR := Lib.hid hr
  have hrr : (r != r) = false := by cases r <;> rfl
  clear hr
  go_enter Tryd.func3, Tryd.ntmps3
  go_wp2_with fail
  refine (szCore_any c _ _ _ _ _ (h.below hw0 hhi) (by simp; omega) (by omega) (by omega) hf).mono ?_; rintro e w1 ⟨rfl, hb1⟩
  have a1 := (Blk.new w 24 #[.int .i64 c.kind, .int .i64 c.op, .int .i64 c.number, .int .i64 c.line, .string c.text, .slice A c.kids.length cap]).later hb1
  have hw1 : Below w.heap.size w w1 := hw0.trans (hb1.mono (by simp))
  have ca := a1.cell
  have la := a1.lt
  clear hb1 hw0
  by_cases hk1 : (1048576 : Int) < c.bulk
  · rw [leftOf_no hk1]
    go_wp2_with fail
    go_ret
    exact ⟨rfl, hw1⟩
  rw [leftOf_yes hk1]
  have hbk : c.bulk ≤ 1048576 := by omega
  go_wp2_with fail
  refine (toCore_any c _ _ _ _ (h.below hw1 hhi) (Nat.le_trans hhi hw1.size) hbk).mono ?_; rintro e w2 ⟨x1, rfl, hr2, hb2⟩
  have a2 := a1.later hb2
  have hw2 := hw1.trans (hb2.mono hw1.size)
  clear ca la a1 hb2
  have ca := a2.cell
  have la := a2.lt
  go_wp2_with fail
  refine (spec_CanFail c _ _ _ _ hr2 (Nat.le_refl _) hbk).mono ?_; rw [HR.out]; rintro e w3 ⟨rfl, hb3⟩
  have a3 := a2.later hb3
  have hw3 := hw2.trans (hb3.mono hw2.size)
  clear ca la a2 hb3 hr2
  have ca := a3.cell
  have la := a3.lt
  go_wp2_with fail
  refine (toCore_any c _ _ _ _ (h.below hw3 hhi) (Nat.le_trans hhi hw3.size) hbk).mono ?_; rintro e w4 ⟨x2, rfl, hr4, hb4⟩
  obtain ⟨A4, cap4, rfl, -, -, -⟩ := hr4.form
  have a4 := a3.later hb4
  have hw4 := hw3.trans (hb4.mono hw3.size)
  clear ca la a3 hb4
  have ca := a4.cell
  have la := a4.lt
  go_wp2_with fail
  have k4 : Below w4.heap.size w4 (w4.alloc (.cells #[.int .i64 c.kind, .int .i64 c.op, .int .i64 c.number, .int .i64 c.line, .string c.text, .slice A4 c.kids.length cap4] 29)) := (Below.refl _ _).alloc (Nat.le_refl _) _
  have hw5 := hw4.trans (k4.mono hw4.size)
  refine (impl_CanFail c _ _ _ _ (hr4.below k4 (Nat.le_refl _)) (by simp) (hst.below hw5 hst.2) hbk).mono ?_; rw [HR.out]; rintro e w6 ⟨rfl, hb6⟩
  have a6 := (a4.alloc _).later hb6
  have e6 : Blk w6 w4.heap.size 29 #[.int .i64 c.kind, .int .i64 c.op, .int .i64 c.number, .int .i64 c.line, .string c.text, .slice A4 c.kids.length cap4] := (Blk.new _ _ _).later hb6
  have hw6 := hw5.trans (hb6.mono (Nat.le_trans hw4.size (by simp)))
  have hr6 := (hr4.below k4 (Nat.le_refl _)).below hb6 (by simp)
  have z6 : w4.heap.size ≤ w6.heap.size := by have := hb6.size; simp at this; omega
  clear ca la a4 hb6 hr4 k4 hw5
  have ca := a6.cell
  have ce := e6.cell
  have la := a6.lt
  have le := e6.lt
  go_wp2_with fail
  have y1 : w.heap.size ≤ w6.drew.heap.size := hw6.size
  have y2 : hi ≤ w6.drew.heap.size := Nat.le_trans hhi hw6.size
  go_region_held3 (fun w' => (∀ i, w'.cell? ⟨w.heap.size, i, none⟩ = #[Value.int .i64 c.kind, .int .i64 c.op, .int .i64 c.number, .int .i64 c.line, .string c.text, .slice A c.kids.length cap][i]?) ∧ (∀ i, w'.cell? ⟨w4.heap.size, i, none⟩ = #[Value.int .i64 c.kind, .int .i64 c.op, .int .i64 c.number, .int .i64 c.line, .string c.text, .slice A4 c.kids.length cap4][i]?))
    (first | exact ⟨ca, ce⟩ | exact ⟨(a6.drew.later hbA).cell, (e6.drew.later hbA).cell⟩ | exact ⟨((a6.drew.later hbA).later hbB).cell, ((e6.drew.later hbA).later hbB).cell⟩)
    (first
      | (go_at_call 7; refine (toCore_any c _ _ _ _ (h.below hw6.drew hhi) y2 hbk).mono ?_; rintro e wA ⟨xA, rfl, hrA, hbA⟩)
      | (go_at_call 9; refine (eqCore_any c _ _ _ _ _ _ _ (hr6.below ((Below.refl w6.heap.size w6).drew.trans hbA) z6) hrA (Nat.le_trans z6 hbA.size) (Nat.le_refl _)).mono ?_; rintro e wB ⟨rfl, hbB⟩))
  have hw8 : Below w.heap.size w wB := (hw6.drew.trans (hbA.mono y1)).trans (hbB.mono (Nat.le_trans y1 hbA.size))
  go_wp2_with fail
  go_ret
  exact ⟨rfl, hw8⟩
set_option maxRecDepth 100000 in
set_option maxHeartbeats 4000000 in
theorem law_CanResume (x : Value) (c : CoreT) (w : World) (lo hi : Nat) (h : CRep w lo hi x c) (hhi : hi ≤ w.heap.size) (hf : c.Fits) (hst : SpaceTab w) :
    Calls Tryd.prog 4 #[x] w fun e w' => e = .returned (.bool true) ∧ Below w.heap.size w w' := by
  obtain ⟨A, cap, rfl, hk, hc1, hc2⟩ := h.form
  have hw0 : Below w.heap.size w (w.alloc (.cells #[.int .i64 c.kind, .int .i64 c.op, .int .i64 c.number, .int .i64 c.line, .string c.text, .slice A c.kids.length cap] 24)) := (Below.refl _ _).alloc (Nat.le_refl _) _
  obtain ⟨r, hr⟩ : ∃ r, (!treeOk c || resT c) = r := ⟨_, rfl⟩
  have HR := Lib.hid hr
  have hrr : (r != r) = false := by cases r <;> rfl
  clear hr
  go_enter Tryd.func4, Tryd.ntmps4
  go_wp2_with fail
  refine (szCore_any c _ _ _ _ _ (h.below hw0 hhi) (by simp; omega) (by omega) (by omega) hf).mono ?_; rintro e w1 ⟨rfl, hb1⟩
  have a1 := (Blk.new w 24 #[.int .i64 c.kind, .int .i64 c.op, .int .i64 c.number, .int .i64 c.line, .string c.text, .slice A c.kids.length cap]).later hb1
  have hw1 : Below w.heap.size w w1 := hw0.trans (hb1.mono (by simp))
  have ca := a1.cell
  have la := a1.lt
  clear hb1 hw0
  by_cases hk1 : (1048576 : Int) < c.bulk
  · rw [leftOf_no hk1]
    go_wp2_with fail
    go_ret
    exact ⟨rfl, hw1⟩
  rw [leftOf_yes hk1]
  have hbk : c.bulk ≤ 1048576 := by omega
  go_wp2_with fail
  refine (toCore_any c _ _ _ _ (h.below hw1 hhi) (Nat.le_trans hhi hw1.size) hbk).mono ?_; rintro e w2 ⟨x1, rfl, hr2, hb2⟩
  have a2 := a1.later hb2
  have hw2 := hw1.trans (hb2.mono hw1.size)
  clear ca la a1 hb2
  have ca := a2.cell
  have la := a2.lt
  go_wp2_with fail
  refine (spec_CanResume c _ _ _ _ hr2 (Nat.le_refl _) hbk).mono ?_; rw [HR.out]; rintro e w3 ⟨rfl, hb3⟩
  have a3 := a2.later hb3
  have hw3 := hw2.trans (hb3.mono hw2.size)
  clear ca la a2 hb3 hr2
  have ca := a3.cell
  have la := a3.lt
  go_wp2_with fail
  refine (toCore_any c _ _ _ _ (h.below hw3 hhi) (Nat.le_trans hhi hw3.size) hbk).mono ?_; rintro e w4 ⟨x2, rfl, hr4, hb4⟩
  obtain ⟨A4, cap4, rfl, -, -, -⟩ := hr4.form
  have a4 := a3.later hb4
  have hw4 := hw3.trans (hb4.mono hw3.size)
  clear ca la a3 hb4
  have ca := a4.cell
  have la := a4.lt
  go_wp2_with fail
  have k4 : Below w4.heap.size w4 (w4.alloc (.cells #[.int .i64 c.kind, .int .i64 c.op, .int .i64 c.number, .int .i64 c.line, .string c.text, .slice A4 c.kids.length cap4] 29)) := (Below.refl _ _).alloc (Nat.le_refl _) _
  have hw5 := hw4.trans (k4.mono hw4.size)
  refine (impl_CanResume c _ _ _ _ (hr4.below k4 (Nat.le_refl _)) (by simp) (hst.below hw5 hst.2) hbk).mono ?_; rw [HR.out]; rintro e w6 ⟨rfl, hb6⟩
  have a6 := (a4.alloc _).later hb6
  have e6 : Blk w6 w4.heap.size 29 #[.int .i64 c.kind, .int .i64 c.op, .int .i64 c.number, .int .i64 c.line, .string c.text, .slice A4 c.kids.length cap4] := (Blk.new _ _ _).later hb6
  have hw6 := hw5.trans (hb6.mono (Nat.le_trans hw4.size (by simp)))
  have hr6 := (hr4.below k4 (Nat.le_refl _)).below hb6 (by simp)
  have z6 : w4.heap.size ≤ w6.heap.size := by have := hb6.size; simp at this; omega
  clear ca la a4 hb6 hr4 k4 hw5
  have ca := a6.cell
  have ce := e6.cell
  have la := a6.lt
  have le := e6.lt
  go_wp2_with fail
  have y1 : w.heap.size ≤ w6.drew.heap.size := hw6.size
  have y2 : hi ≤ w6.drew.heap.size := Nat.le_trans hhi hw6.size
  go_region_held3 (fun w' => (∀ i, w'.cell? ⟨w.heap.size, i, none⟩ = #[Value.int .i64 c.kind, .int .i64 c.op, .int .i64 c.number, .int .i64 c.line, .string c.text, .slice A c.kids.length cap][i]?) ∧ (∀ i, w'.cell? ⟨w4.heap.size, i, none⟩ = #[Value.int .i64 c.kind, .int .i64 c.op, .int .i64 c.number, .int .i64 c.line, .string c.text, .slice A4 c.kids.length cap4][i]?))
    (first | exact ⟨ca, ce⟩ | exact ⟨(a6.drew.later hbA).cell, (e6.drew.later hbA).cell⟩ | exact ⟨((a6.drew.later hbA).later hbB).cell, ((e6.drew.later hbA).later hbB).cell⟩)
    (first
      | (go_at_call 7; refine (toCore_any c _ _ _ _ (h.below hw6.drew hhi) y2 hbk).mono ?_; rintro e wA ⟨xA, rfl, hrA, hbA⟩)
      | (go_at_call 9; refine (eqCore_any c _ _ _ _ _ _ _ (hr6.below ((Below.refl w6.heap.size w6).drew.trans hbA) z6) hrA (Nat.le_trans z6 hbA.size) (Nat.le_refl _)).mono ?_; rintro e wB ⟨rfl, hbB⟩))
  have hw8 : Below w.heap.size w wB := (hw6.drew.trans (hbA.mono y1)).trans (hbB.mono (Nat.le_trans y1 hbA.size))
  go_wp2_with fail
  go_ret
  exact ⟨rfl, hw8⟩
end Go.Proofs.YtppdelelgkepaaaDoor
