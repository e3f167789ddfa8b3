/- l10Valid of the reference: a tree is valid as the plain law says, and its depth fits. -/
import Derived.Test.YtjeomamdlmoghaaGreatDoorQ00
import Derived.Test.YtjeomamdlmoghaaGreatDoorQ07
import Derived.Test.YtjeomamdlmoghaaGreatDoorQ16
import Derived.Deep.DeepCutAuto
import Derived.Deep.CutBlock
import Derived.Deep.RegionHeld3
import Derived.IntWalk
import Derived.StillTailTactics
set_option maxRecDepth 100000
set_option maxHeartbeats 8000000
set_option linter.unusedVariables false
set_option linter.unusedSimpArgs false
section
namespace Go.Proofs.YtjeomamdlmoghaaGreatDoor
open Go.RowKit
noncomputable def validS (d : WdT) (c : CoreT) (loop made : Bool) (deep : Int) : Bool := validT d c loop made && decide (deep + (c.depth : Int) ≤ 401)
def ValidOk (d : WdT) (c : CoreT) : Prop := ∀ (A1 A2 A3 : Option Addr) (c1 c2 c3 : Nat) (m : Int) (x : Value) (loop made : Bool) (deep : Int) (w : World) (lo hi : Nat), CRep w lo hi x c → hi ≤ w.heap.size → c.bulk ≤ 1048576 → 1 ≤ deep → deep ≤ 401 →
 Calls Tryz.prog 38 #[.agg #[.slice A1 d.routines c1, .slice A2 d.records c2, .slice A3 d.globals c3, .int .i64 m], .int .i64 d.slots, x, .bool loop, .bool made, .int .i64 deep] w fun e w' => e = .returned (.bool (validS d c loop made deep)) ∧ Below w.heap.size w w'
def VFrm (w wx : World) (pc cc : Array Value) : Prop := Below w.heap.size w wx ∧ Blk wx w.heap.size 31 pc ∧ Blk wx (w.heap.size + 1) 45 cc
theorem VFrm.new (w : World) (pc cc : Array Value) : VFrm w ((w.alloc (.cells pc 31)).alloc (.cells cc 45)) pc cc :=
 ⟨((Below.refl _ _).alloc (Nat.le_refl _) _).alloc (by simp) _, (Blk.new w _ _).alloc _, Blk.newAt _ _ _ _ (by simp)⟩
theorem VFrm.later {w wx wy : World} {pc cc : Array Value} (h : VFrm w wx pc cc) (hb : Below wx.heap.size wx wy) : VFrm w wy pc cc := ⟨h.1.trans (hb.mono h.1.size), h.2.1.later hb, h.2.2.later hb⟩
theorem VFrm.drewN {w wx : World} {pc cc : Array Value} (h : VFrm w wx pc cc) (n : Nat) : VFrm w (wx.drewN n) pc cc := ⟨⟨h.1.os, h.1.tape, h.1.output, h.1.size, h.1.block⟩, h.2.1.drewN n, h.2.2.drewN n⟩
theorem VFrm.size {w wx : World} {pc cc : Array Value} (h : VFrm w wx pc cc) : w.heap.size + 1 < wx.heap.size := h.2.2.lt
def headB (d : WdT) (c : CoreT) (deep : Int) : Bool := decide (deep ≤ 400 ∧ 1 ≤ c.kind ∧ c.kind ≤ 28 ∧ 0 ≤ c.line ∧ kidsLo c.kind c.op ≤ c.kids.length ∧ (c.kids.length : Int) ≤ kidsHi c.kind c.op) && leafOk d c.kind c.number
def textB (c : CoreT) : Bool := decide ((c.kind = 11 ∨ c.op = 0) ∧ (c.kind = 2 ∨ c.kind = 3 ∨ c.text.size = 0) ∧ c.text.size ≤ 128 ∧ (c.kind = 2 → c.text.size ≤ 120))
theorem validS_head {d : WdT} {c : CoreT} {loop made : Bool} {deep : Int} (h : headB d c deep = false) : validS d c loop made deep = false := by
 rw [Bool.eq_false_iff] at h ⊢
 intro hv
 apply h
 simp only [validS, Bool.and_eq_true, decide_eq_true_eq] at hv
 obtain ⟨hv, hd⟩ := hv
 have hn := ((validT_iff d c loop made).1 hv).1
 simp only [nodeOk, headOk, Bool.and_eq_true, decide_eq_true_eq, Bool.or_eq_true] at hn
 have := c.depth_eq
 simp only [headB, Bool.and_eq_true, decide_eq_true_eq]
 refine ⟨?_, hn.1.1.1.2⟩
 omega
theorem empty_yes {s : ByteArray} (h : s.size = 0) : s.toList.isEmpty = true := by
 rw [ByteArray.toList_eq, List.isEmpty_iff]; exact List.eq_nil_of_length_eq_zero ((Array.length_toList (xs := s.data)).trans h)
theorem empty_no {s : ByteArray} (h : ¬ s.size = 0) : s.toList.isEmpty = false := by
 rw [Bool.eq_false_iff, ByteArray.toList_eq, ne_eq, List.isEmpty_iff]
 intro hn
 exact h ((Array.length_toList (xs := s.data)).symm.trans (by rw [hn]; rfl))
theorem textB_yes {c : CoreT} (h1 : c.kind = 11 ∨ c.op = 0) (h2 : c.kind = 2 ∨ c.kind = 3 ∨ c.text.size = 0) (h3 : c.text.size ≤ 128) (h4 : c.kind = 2 → c.text.size ≤ 120) : textB c = true := decide_eq_true ⟨h1, h2, h3, h4⟩
theorem textB_no {c : CoreT} (h : ¬ ((c.kind = 11 ∨ c.op = 0) ∧ (c.kind = 2 ∨ c.kind = 3 ∨ c.text.size = 0) ∧ c.text.size ≤ 128 ∧ (c.kind = 2 → c.text.size ≤ 120))) : textB c = false := decide_eq_false h
theorem validS_text {d : WdT} {c : CoreT} {loop made : Bool} {deep : Int} (h : textB c = false) : validS d c loop made deep = false := by
 rw [Bool.eq_false_iff] at h ⊢
 intro hv
 apply h
 simp only [validS, Bool.and_eq_true] at hv
 have hn := ((validT_iff d c loop made).1 hv.1).1
 simp only [nodeOk, Bool.and_eq_true] at hn
 obtain ⟨⟨⟨⟨h1, -⟩, h3⟩, -⟩, -⟩ := hn
 simp only [headOk, Bool.and_eq_true, decide_eq_true_eq, Bool.or_eq_true] at h1
 have h11 := h1.2
 unfold textOk at h3
 split at h3
 ·rename_i k
  have := of_decide_eq_true h3
  exact textB_yes h11 (by omega) (by omega) (by omega)
 ·split at h3
  ·have := csetOk_size h3
   exact textB_yes h11 (by omega) (by omega) (by omega)
  ·have := of_decide_eq_true h3
   exact textB_yes h11 (by omega) (by omega) (by omega)
theorem VFrm.alloc {w wx : World} {pc cc : Array Value} (h : VFrm w wx pc cc) (o : Obj) : VFrm w (wx.alloc o) pc cc := ⟨h.1.alloc h.1.size o, h.2.1.alloc o, h.2.2.alloc o⟩
theorem validS_bad {d : WdT} {c : CoreT} {loop made : Bool} {deep : Int} (h : nodeOk d c loop made = false) : validS d c loop made deep = false := by
 rw [validS, validT_bad h]; rfl
theorem validS_cset {d : WdT} {c : CoreT} {loop made : Bool} {deep : Int} (ka : 3 ≤ c.kind) (kb : c.kind ≤ 3) (h : csetOk c.text = false) : validS d c loop made deep = false := by
 refine validS_bad ?_
 have k : c.kind = 3 := by omega
 simp [nodeOk, textOk, k, h]
theorem validS_place {d : WdT} {c : CoreT} {loop made : Bool} {deep : Int} (h : placeOk c loop made = false) : validS d c loop made deep = false := by
 refine validS_bad ?_
 simp [nodeOk, h]
theorem validS_special {d : WdT} {c : CoreT} {loop made : Bool} {deep : Int} (h : specialOk c = false) : validS d c loop made deep = false := by
 refine validS_bad ?_
 simp [nodeOk, h]
theorem placeOk_loop {c : CoreT} {loop made : Bool} (h : c.kind = 20 ∨ c.kind = 21) : placeOk c loop made = loop := by
 have : ¬ (23 ≤ c.kind ∧ c.kind ≤ 25) := by omega
 simp [placeOk, h, this]
theorem placeOk_made {c : CoreT} {loop made : Bool} (ka : 23 ≤ c.kind) (kb : c.kind ≤ 25) : placeOk c loop made = !made := by
 have : ¬ (c.kind = 20 ∨ c.kind = 21) := by omega
 simp [placeOk, ka, kb, this]
theorem placeOk_other {c : CoreT} {loop made : Bool} (n20 : ¬ c.kind = 20) (n21 : ¬ c.kind = 21) (k : ¬ (23 ≤ c.kind ∧ c.kind ≤ 25)) : placeOk c loop made = true := by
 simp [placeOk, n20, n21, k]
theorem nodeOk_of {d : WdT} {c : CoreT} {loop made : Bool} {deep : Int} (h1 : headB d c deep = true) (h2 : textB c = true) (h3 : c.kind = 3 → csetOk c.text = true) (h4 : placeOk c loop made = true) (h5 : specialOk c = true) : nodeOk d c loop made = true := by
 simp only [headB, Bool.and_eq_true, decide_eq_true_eq] at h1
 simp only [textB, decide_eq_true_eq] at h2
 simp only [nodeOk, Bool.and_eq_true]
 refine ⟨⟨⟨⟨?_, h1.2⟩, ?_⟩, h4⟩, h5⟩
 ·simp only [headOk, Bool.and_eq_true, decide_eq_true_eq, Bool.or_eq_true]
  omega
 ·unfold textOk
  split
  ·rename_i k; exact decide_eq_true (h2.2.2.2 k)
  ·split
   ·rename_i k; exact h3 k
   ·exact decide_eq_true (by omega)
theorem special_79 {c kd : CoreT} (h : c.op = 79) (hk : c.kids[1]? = some kd) : specialOk c = (decide (kd.kind = 2) && isNameB kd.text) := by
 simp [specialOk, h, hk]
theorem special_81 {c kd : CoreT} (h : c.op = 81) (hk : c.kids[0]? = some kd) : specialOk c = decide (kd.kind = 5 ∨ kd.kind = 6) := by
 simp [specialOk, h, hk]
theorem special_no {c : CoreT} (h1 : ¬ c.op = 79) (h2 : ¬ c.op = 81) : specialOk c = true := by simp [specialOk, h1, h2]
theorem innerB_yes {k : Int} (i : Nat) (loop : Bool) (h : k = 18 ∨ k = 19) : innerB k i loop = decide (i = 1) := by simp [innerB, h]
theorem innerB_no {k : Int} (i : Nat) (loop : Bool) (h : ¬ (k = 18 ∨ k = 19)) : innerB k i loop = (loop && !decide (k = 20 ∨ k = 26)) := by
 rw [innerB, if_neg h]
 split
 ·rename_i hk; rw [decide_eq_true hk]; simp
 ·rename_i hk; rw [decide_eq_false hk]; simp
theorem depthL_mem {l : List CoreT} {x : CoreT} (h : x ∈ l) : x.depth ≤ depthL l := by
 induction l with
 | nil => cases h
 | cons c l ih =>
   simp only [depthL]
   rcases List.mem_cons.1 h with rfl | h
   ·omega
   ·have := ih h; omega
theorem depthL_le_of {l : List CoreT} {n : Nat} (h : ∀ x ∈ l, x.depth ≤ n) : depthL l ≤ n := by
 induction l with
 | nil => simp [depthL]
 | cons c l ih =>
   have h1 := h c List.mem_cons_self
   have h2 := ih fun x hx => h x (List.mem_cons_of_mem _ hx)
   simp only [depthL]; omega
theorem validS_kid {d : WdT} {c kd : CoreT} {loop made : Bool} {deep : Int} {j : Nat} (hk : c.kids[j]? = some kd) (h : validS d kd (innerB c.kind j loop) (made || decide (c.kind = 26)) (deep + 1) = false) : validS d c loop made deep = false := by
 rw [Bool.eq_false_iff] at h ⊢
 intro hv
 apply h
 simp only [validS, Bool.and_eq_true, decide_eq_true_eq] at hv ⊢
 refine ⟨((validT_iff d c loop made).1 hv.1).2 j kd hk, ?_⟩
 have := c.depth_eq
 have := depthL_mem (List.mem_of_getElem? hk)
 omega
theorem validS_upto {d : WdT} {c kd : CoreT} {loop made : Bool} {deep : Int} {k : Nat} (hgo : ∀ j y, j < k → c.kids[j]? = some y → validS d y (innerB c.kind j loop) (made || decide (c.kind = 26)) (deep + 1) = true) (hk : c.kids[k]? = some kd) (h : validS d kd (innerB c.kind k loop) (made || decide (c.kind = 26)) (deep + 1) = true) :
 ∀ j y, j < k + 1 → c.kids[j]? = some y → validS d y (innerB c.kind j loop) (made || decide (c.kind = 26)) (deep + 1) = true := by
 intro j y hj hy
 by_cases e : j = k
 ·subst e; rw [hk] at hy; injection hy with hy; subst hy; exact h
 ·exact hgo j y (by omega) hy
theorem validS_all {d : WdT} {c : CoreT} {loop made : Bool} {deep : Int} (hn : nodeOk d c loop made = true) (hgo : ∀ j y, j < c.kids.length → c.kids[j]? = some y → validS d y (innerB c.kind j loop) (made || decide (c.kind = 26)) (deep + 1) = true) (hd : deep ≤ 400) : validS d c loop made deep = true := by
 have hg : ∀ j y, c.kids[j]? = some y → validT d y (innerB c.kind j loop) (made || decide (c.kind = 26)) = true ∧ deep + 1 + (y.depth : Int) ≤ 401 := fun j y hy => by
  have := hgo j y (List.getElem?_eq_some_iff.1 hy).1 hy
  simpa only [validS, Bool.and_eq_true, decide_eq_true_eq] using this
 simp only [validS, Bool.and_eq_true, decide_eq_true_eq]
 refine ⟨(validT_iff d c loop made).2 ⟨hn, fun j y hy => (hg j y hy).1⟩, ?_⟩
 have := c.depth_eq
 have : depthL c.kids ≤ (400 - deep).toNat := depthL_le_of fun y hy => by
  obtain ⟨j, hj⟩ := List.getElem?_of_mem hy
  have := (hg j y hj).2
  omega
 omega
theorem spec_l10Valid_of (d : WdT) (q1 : d.slots ≤ 1048576) (q2 : d.globals ≤ 1048576) (q3 : d.routines ≤ 1048576) (q4 : d.records ≤ 1048576) (c : CoreT) (H : ∀ x ∈ c.kids, ValidOk d x) : ValidOk d c := by
 intro A1 A2 A3 c1 c2 c3 m x loop made deep w lo hi h hhi hbk hd1 hd2
 obtain ⟨A, cap, rfl, hk, hc1, hc2⟩ := h.form
 unfold maxLen at hc2
 have HH := Lib.hid H
 clear H
 go_enter Tryz.func38, Tryz.ntmps38
 go_wp2_with fail
 refine (spec_kids _ c _ lo hi ((h.alloc hhi _).alloc (by simp; omega) _)).mono ?_; rintro e w1 ⟨rfl, hb1⟩
 have hf1 := (VFrm.new w #[.slice A1 d.routines c1, .slice A2 d.records c2, .slice A3 d.globals c3, .int .i64 m] #[.int .i64 c.kind, .int .i64 c.op, .int .i64 c.number, .int .i64 c.line, .string c.text, .slice A c.kids.length cap]).later hb1
 clear hb1
 have hz1 := hf1.size
 have ca := hf1.2.1.cell
 have cb := hf1.2.2.cell
 go_upto_region 2 with fail
 go_cut [61] (fun v wx => v = .bool (!headB d c deep) ∧ VFrm w wx #[.slice A1 d.routines c1, .slice A2 d.records c2, .slice A3 d.globals c3, .int .i64 m] #[.int .i64 c.kind, .int .i64 c.op, .int .i64 c.number, .int .i64 c.line, .string c.text, .slice A c.kids.length cap])
 case first =>
  --<A
  by_cases e0 : 400 < deep
  ·as_aux_lemma =>
    go_wp2_with fail
    go_meet
    exact ⟨congrArg Value.bool (by simp [headB]; omega), hf1⟩
  by_cases e1 : c.kind < 1
  ·as_aux_lemma =>
    go_wp2_with fail
    go_meet
    exact ⟨congrArg Value.bool (by simp [headB]; omega), hf1⟩
  by_cases e2 : 28 < c.kind
  ·as_aux_lemma =>
    go_wp2_with fail
    go_meet
    exact ⟨congrArg Value.bool (by simp [headB]; omega), hf1⟩
  by_cases e3 : c.line < 0
  ·as_aux_lemma =>
    go_wp2_with fail
    go_meet
    exact ⟨congrArg Value.bool (by simp [headB]; omega), hf1⟩
  by_cases e4 : (c.kids.length : Int) < kidsLo c.kind c.op
  ·as_aux_lemma =>
    go_wp2_with fail
    go_meet
    exact ⟨congrArg Value.bool (by simp [headB]; omega), hf1⟩
  by_cases e5 : kidsHi c.kind c.op < (c.kids.length : Int)
  ·as_aux_lemma =>
    go_wp2_with fail
    go_meet
    exact ⟨congrArg Value.bool (by simp [headB]; omega), hf1⟩
  as_aux_lemma =>
   go_wp2_with fail
   refine (spec_l10Leaf d A1 A2 A3 c1 c2 c3 m _ c _ lo hi (h.below hf1.1 hhi) q1 q2 q3 q4).mono ?_; rintro e w2 ⟨rfl, hb2⟩
   clear ca cb
   go_wp2_with fail
   go_meet
   exact ⟨congrArg Value.bool (by simp [headB]; omega), hf1.later hb2⟩
  --A>
 case rest =>
  obtain ⟨rfl, hf2⟩ := hcut
  clear ca cb hf1 hz1
  have hz2 := hf2.size
  have ca := hf2.2.1.cell
  have cb := hf2.2.2.cell
  cases hH : headB d c deep with
  | false =>
    --<B
    as_aux_lemma =>
     go_wp2_with fail
     go_ret
     exact ⟨ret_bool (validS_head hH).symm, hf2.1⟩
    --B>
  | true =>
  have g1 : deep ≤ 400 := by simp [headB] at hH; omega
  have g2 : 1 ≤ c.kind := by simp [headB] at hH; omega
  have g3 : c.kind ≤ 28 := by simp [headB] at hH; omega
  have g4 : 0 ≤ c.line := by simp [headB] at hH; omega
  have g5 : kidsLo c.kind c.op ≤ c.kids.length := by simp [headB] at hH; omega
  have g6 : (c.kids.length : Int) ≤ kidsHi c.kind c.op := by simp [headB] at hH; omega
  have HL := Lib.hid hH
  clear hH
  go_upto_region 4 with fail
  go_cut [101] (fun v wx => v = .bool (!textB c) ∧ wx = wc)
  case first =>
   --<C
   by_cases k : c.kind = 11
   ·have n11 : c.kind = 11 := k
    clear n11
    have f11 : (c.kind != 11) = false := by simp [k]
    have f2 : (c.kind != 2) = true := by simp; omega
    have f3 : (c.kind != 3) = true := by simp; omega
    have e2 : (c.kind == 2) = false := by simp; omega
    have ka : 11 ≤ c.kind := by omega
    have kb : c.kind ≤ 11 := by omega
    clear k
    by_cases s0 : c.text.size = 0
    ·have i1 := empty_yes s0
     have sa : c.text.size ≤ 0 := by omega
     clear s0
     as_aux_lemma =>
      go_wp2_with fail
      go_meet
      exact ⟨congrArg Value.bool (by rw [textB_yes (by omega) (by omega) (by omega) (by omega)]; first | rfl | (simp; omega) | simp), rfl⟩
    ·have i1 := empty_no s0
     have sa : 0 < c.text.size := by omega
     clear s0
     as_aux_lemma =>
      go_wp2_with fail
      go_meet
      exact ⟨congrArg Value.bool (by rw [textB_no (by omega)]; first | rfl | (simp; omega) | simp), rfl⟩
   have n11 : ¬ c.kind = 11 := k
   clear k
   by_cases k : c.kind = 2
   ·have n2 : c.kind = 2 := k
    clear n2
    have f11 : (c.kind != 11) = true := by simp; omega
    have f2 : (c.kind != 2) = false := by simp [k]
    have f3 : (c.kind != 3) = true := by simp; omega
    have e2 : (c.kind == 2) = true := by simp [k]
    have ka : 2 ≤ c.kind := by omega
    have kb : c.kind ≤ 2 := by omega
    clear k
    by_cases o0 : c.op = 0
    ·have f0 : (c.op != 0) = false := by simpa using o0
     have oa : 0 ≤ c.op := by omega
     have ob : c.op ≤ 0 := by omega
     clear o0
     by_cases s1 : 128 < c.text.size
     ·as_aux_lemma =>
       go_wp2_with fail
       go_meet
       exact ⟨congrArg Value.bool (by rw [textB_no (by omega)]; first | rfl | (simp; omega) | simp), rfl⟩
     by_cases s2 : 120 < c.text.size
     ·as_aux_lemma =>
       go_wp2_with fail
       go_meet
       exact ⟨congrArg Value.bool (by rw [textB_no (by omega)]; first | rfl | (simp; omega) | simp), rfl⟩
     as_aux_lemma =>
      go_wp2_with fail
      go_meet
      exact ⟨congrArg Value.bool (by rw [textB_yes (by omega) (by omega) (by omega) (by omega)]; first | rfl | (simp; omega) | simp), rfl⟩
    ·have f0 : (c.op != 0) = true := by simpa using o0
     as_aux_lemma =>
      go_wp2_with fail
      go_meet
      exact ⟨congrArg Value.bool (by rw [textB_no (by omega)]; first | rfl | (simp; omega) | simp), rfl⟩
   have n2 : ¬ c.kind = 2 := k
   clear k
   by_cases k : c.kind = 3
   ·have n3 : c.kind = 3 := k
    clear n3
    have f11 : (c.kind != 11) = true := by simp; omega
    have f2 : (c.kind != 2) = true := by simp; omega
    have f3 : (c.kind != 3) = false := by simp [k]
    have e2 : (c.kind == 2) = false := by simp; omega
    have ka : 3 ≤ c.kind := by omega
    have kb : c.kind ≤ 3 := by omega
    clear k
    by_cases o0 : c.op = 0
    ·have f0 : (c.op != 0) = false := by simpa using o0
     have oa : 0 ≤ c.op := by omega
     have ob : c.op ≤ 0 := by omega
     clear o0
     by_cases s1 : 128 < c.text.size
     ·as_aux_lemma =>
       go_wp2_with fail
       go_meet
       exact ⟨congrArg Value.bool (by rw [textB_no (by omega)]; first | rfl | (simp; omega) | simp), rfl⟩
     as_aux_lemma =>
      go_wp2_with fail
      go_meet
      exact ⟨congrArg Value.bool (by rw [textB_yes (by omega) (by omega) (by omega) (by omega)]; first | rfl | (simp; omega) | simp), rfl⟩
    ·have f0 : (c.op != 0) = true := by simpa using o0
     as_aux_lemma =>
      go_wp2_with fail
      go_meet
      exact ⟨congrArg Value.bool (by rw [textB_no (by omega)]; first | rfl | (simp; omega) | simp), rfl⟩
   have n3 : ¬ c.kind = 3 := k
   clear k
   have f11 : (c.kind != 11) = true := by simpa using n11
   have f2 : (c.kind != 2) = true := by simpa using n2
   have f3 : (c.kind != 3) = true := by simpa using n3
   have e2 : (c.kind == 2) = false := by simpa using n2
   by_cases o0 : c.op = 0
   ·have f0 : (c.op != 0) = false := by simpa using o0
    have oa : 0 ≤ c.op := by omega
    have ob : c.op ≤ 0 := by omega
    clear o0
    by_cases s0 : c.text.size = 0
    ·have i1 := empty_yes s0
     have sa : c.text.size ≤ 0 := by omega
     clear s0
     as_aux_lemma =>
      go_wp2_with fail
      go_meet
      exact ⟨congrArg Value.bool (by rw [textB_yes (by omega) (by omega) (by omega) (by omega)]; first | rfl | (simp; omega) | simp), rfl⟩
    ·have i1 := empty_no s0
     have sa : 0 < c.text.size := by omega
     clear s0
     as_aux_lemma =>
      go_wp2_with fail
      go_meet
      exact ⟨congrArg Value.bool (by rw [textB_no (by omega)]; first | rfl | (simp; omega) | simp), rfl⟩
   ·have f0 : (c.op != 0) = true := by simpa using o0
    as_aux_lemma =>
     go_wp2_with fail
     go_meet
     exact ⟨congrArg Value.bool (by rw [textB_no (by omega)]; first | rfl | (simp; omega) | simp), rfl⟩
   --C>
  case rest =>
   obtain ⟨rfl, rfl⟩ := hcut
   cases hT : textB c with
   | false =>
     --<D
     as_aux_lemma =>
      go_wp2_with fail
      go_ret
      exact ⟨ret_bool (validS_text hT).symm, hf2.1⟩
     --D>
   | true =>
   have HT := Lib.hid hT
   have ht8 : c.text.size ≤ 128 := by simp only [textB, decide_eq_true_eq] at hT; omega
   clear hT
   go_upto_if 104 with fail
   go_cut [] (fun wx => Hid (c.kind = 3 → csetOk c.text = true) ∧ VFrm w wx #[.slice A1 d.routines c1, .slice A2 d.records c2, .slice A3 d.globals c3, .int .i64 m] #[.int .i64 c.kind, .int .i64 c.op, .int .i64 c.number, .int .i64 c.line, .string c.text, .slice A c.kids.length cap])
   case first =>
    --<E
    by_cases k : c.kind = 3
    ·have e3 : (c.kind == 3) = true := by simp [k]
     have ka : 3 ≤ c.kind := by omega
     have kb : c.kind ≤ 3 := by omega
     clear k
     go_wp2_with fail
     refine (spec_NewCset c.text _ (by omega)).mono ?_; unfold CsetPair; rintro e w3 ⟨rfl, hb3⟩
     have hf3 := hf2.later hb3
     have hz3 := hf3.size
     clear ca cb
     have ca := hf3.2.1.cell
     have cb := hf3.2.2.cell
     have hX := Blk.newAt w3 74 #[.int .i64 (newCset c.text).lo.toInt, .int .i64 (newCset c.text).hi.toInt] w3.heap.size rfl
     have hf4 := hf3.alloc (.cells #[.int .i64 (newCset c.text).lo.toInt, .int .i64 (newCset c.text).hi.toInt] 74)
     cases hA : asciiB c.text with
     | false =>
       have HN := Lib.hid (cset_ascii hA)
       clear hA
       as_aux_lemma =>
        unfold CsetT.val
        go_wp2_with fail
        go_quiet (fail)
        go_wp2_with fail
        go_ret
        exact ⟨ret_bool (validS_cset ka kb HN.out).symm, (hf4.drewN _).1⟩
     | true =>
       have HS := Lib.hid (cset_same c.text hA)
       clear hA ca cb
       as_aux_lemma =>
        unfold CsetT.val
        go_wp2_with fail
        generalize hW : (w3.alloc (.cells #[.int .i64 (newCset c.text).lo.toInt, .int .i64 (newCset c.text).hi.toInt] 74)) = W0 at *
        clear hW
        have cx := hX.cell
        have cc := hf4.2.2.cell
        have y1 : w3.heap.size < W0.drew.heap.size := hX.lt
        have y2 : w.heap.size + 1 < W0.drew.heap.size := hf4.size
        by_cases hs : csetText (newCset c.text) = c.text
        ·have HY : Hid (csetOk c.text = true) := HS.out.1 hs
         have se := str_eq c.text
         have HQ := Lib.hid hs
         clear hs
         go_region_held3 (fun w' => (∀ i, w'.cell? ⟨w3.heap.size, i, none⟩ = #[Value.int .i64 (newCset c.text).lo.toInt, .int .i64 (newCset c.text).hi.toInt][i]?) ∧ (∀ i, w'.cell? ⟨w.heap.size + 1, i, none⟩ = #[.int .i64 c.kind, .int .i64 c.op, .int .i64 c.number, .int .i64 c.line, .string c.text, .slice A c.kids.length cap][i]?))
          (first | exact ⟨cx, cc⟩ | exact ⟨fun i => (hbA.cell (p := ⟨_, i, none⟩) y1).trans (cx i), fun i => (hbA.cell (p := ⟨_, i, none⟩) y2).trans (cc i)⟩)
          ((go_at_call 68; refine (spec_CsetText (newCset c.text) _).mono ?_; rw [HQ.out]; rintro e wA ⟨rfl, hbA⟩))
         go_wp2_with fail
         go_meet
         exact ⟨fun _ => HY.out, (hf4.drewN 1).later hbA⟩
        ·have HN : Hid (csetOk c.text = false) := by show _ = _; rw [Bool.eq_false_iff]; intro e; exact hs (HS.out.2 e)
         have se := str_ne hs
         clear hs
         go_region_held3 (fun w' => (∀ i, w'.cell? ⟨w3.heap.size, i, none⟩ = #[Value.int .i64 (newCset c.text).lo.toInt, .int .i64 (newCset c.text).hi.toInt][i]?) ∧ (∀ i, w'.cell? ⟨w.heap.size + 1, i, none⟩ = #[.int .i64 c.kind, .int .i64 c.op, .int .i64 c.number, .int .i64 c.line, .string c.text, .slice A c.kids.length cap][i]?))
          (first | exact ⟨cx, cc⟩ | exact ⟨fun i => (hbA.cell (p := ⟨_, i, none⟩) y1).trans (cx i), fun i => (hbA.cell (p := ⟨_, i, none⟩) y2).trans (cc i)⟩)
          ((go_at_call 68; refine (spec_CsetText (newCset c.text) _).mono ?_; rintro e wA ⟨rfl, hbA⟩))
         go_wp2_with fail
         go_ret
         exact ⟨ret_bool (validS_cset ka kb HN.out).symm, ((hf4.drewN 1).later hbA).1⟩
    ·have e3 : (c.kind == 3) = false := by simpa using k
     as_aux_lemma =>
      go_wp2_with fail
      go_meet
      exact ⟨fun h => absurd h k, hf2⟩
    --E>
   case rest =>
    obtain ⟨HC, hf3⟩ := hcut
    clear ca cb hf2 hz2
    have hf2 := hf3
    clear hf3
    have hz2 := hf2.size
    have ca := hf2.2.1.cell
    have cb := hf2.2.2.cell
    go_upto_region 10 with fail
    go_cut [144] (fun v wx => v = .bool (!placeOk c loop made) ∧ wx = wc)
    case first =>
     --<F
     by_cases k : c.kind = 20
     ·have k' := k
      clear k'
      have e20 : (c.kind == 20) = true := by simp [k]
      have e21 : (c.kind == 21) = false := by simp; omega
      have ka : 20 ≤ c.kind := by omega
      have kb : c.kind ≤ 20 := by omega
      clear k
      have HP := Lib.hid (placeOk_loop (loop := loop) (made := made) (show c.kind = 20 ∨ c.kind = 21 by omega))
      cases loop with
      | false =>
        as_aux_lemma =>
         go_wp2_with fail
         go_meet
         exact ⟨congrArg Value.bool (by rw [HP.out]; rfl), rfl⟩
      | true =>
        as_aux_lemma =>
         go_wp2_with fail
         go_meet
         exact ⟨congrArg Value.bool (by rw [HP.out]; rfl), rfl⟩
     have n20 : ¬ c.kind = 20 := k
     clear k
     by_cases k : c.kind = 21
     ·have k' := k
      clear k'
      have e20 : (c.kind == 20) = false := by simp; omega
      have e21 : (c.kind == 21) = true := by simp [k]
      have ka : 21 ≤ c.kind := by omega
      have kb : c.kind ≤ 21 := by omega
      clear k
      have HP := Lib.hid (placeOk_loop (loop := loop) (made := made) (show c.kind = 20 ∨ c.kind = 21 by omega))
      cases loop with
      | false =>
        as_aux_lemma =>
         go_wp2_with fail
         go_meet
         exact ⟨congrArg Value.bool (by rw [HP.out]; rfl), rfl⟩
      | true =>
        as_aux_lemma =>
         go_wp2_with fail
         go_meet
         exact ⟨congrArg Value.bool (by rw [HP.out]; rfl), rfl⟩
     have n21 : ¬ c.kind = 21 := k
     clear k
     have e20 : (c.kind == 20) = false := by simpa using n20
     have e21 : (c.kind == 21) = false := by simpa using n21
     by_cases k : 23 ≤ c.kind ∧ c.kind ≤ 25
     ·obtain ⟨ka, kb⟩ := k
      have HP := Lib.hid (placeOk_made (loop := loop) (made := made) ka kb)
      cases made with
      | false =>
        as_aux_lemma =>
         go_wp2_with fail
         go_meet
         exact ⟨congrArg Value.bool (by rw [HP.out]; rfl), rfl⟩
      | true =>
        as_aux_lemma =>
         go_wp2_with fail
         go_meet
         exact ⟨congrArg Value.bool (by rw [HP.out]; rfl), rfl⟩
     have HP := Lib.hid (placeOk_other (loop := loop) (made := made) n20 n21 k)
     by_cases k1 : 23 ≤ c.kind
     ·have k2 : 25 < c.kind := by omega
      clear k
      as_aux_lemma =>
       go_wp2_with fail
       go_meet
       exact ⟨congrArg Value.bool (by rw [HP.out]; rfl), rfl⟩
     clear k
     as_aux_lemma =>
      go_wp2_with fail
      go_meet
      exact ⟨congrArg Value.bool (by rw [HP.out]; rfl), rfl⟩
     --F>
    case rest =>
     obtain ⟨rfl, rfl⟩ := hcut
     cases hP : placeOk c loop made with
     | false =>
       --<G
       as_aux_lemma =>
        go_wp2_with fail
        go_ret
        exact ⟨ret_bool (validS_place hP).symm, hf2.1⟩
       --G>
     | true =>
     have HP := Lib.hid hP
     clear hP
     go_upto_region 12 with fail
     go_cut [195] (fun v wx => v = .bool (!specialOk c) ∧ VFrm w wx #[.slice A1 d.routines c1, .slice A2 d.records c2, .slice A3 d.globals c3, .int .i64 m] #[.int .i64 c.kind, .int .i64 c.op, .int .i64 c.number, .int .i64 c.line, .string c.text, .slice A c.kids.length cap])
     case first =>
      --<H
      by_cases k : c.kind = 11
      ·have e11 : (c.kind == 11) = true := by simp [k]
       have ha := kids_op (op := c.op) k
       rw [ha.1] at g5
       clear ha k
       by_cases o79 : c.op = 79
       ·have hlt : 1 < c.kids.length := by rw [o79] at g5; have : arityLo 79 = 2 := (by decide); omega
        obtain ⟨g, off, kd, B, dd, rfl, hg1, hg2, hkd, hmem, hrep, c0, c1', c2', c3', c4, c5'⟩ := (hk.below hf2.1 hhi).kid hlt
        have HV := Lib.hid (special_79 o79 hkd)
        have e79 : (c.op == 79) = true := by simp [o79]
        have e81 : (c.op == 81) = false := by simp [o79]
        have hlt2 : (1 : Int) < (c.kids.length : Int) := by omega
        rw [Nat.one_mul] at c0 c4
        clear o79 hkd c1' c2' c3' c5' hrep hmem
        by_cases k2 : kd.kind = 2
        ·have f2 : (kd.kind != 2) = false := by simp [k2]
         have HK : Hid (decide (kd.kind = 2) = true) := decide_eq_true k2
         clear k2
         as_aux_lemma =>
          go_wp2_with fail
          refine (spec_IsName kd.text _).mono ?_; rintro e w3 ⟨rfl, hb3⟩
          have hf3 := hf2.later hb3
          clear c0 c4 ca cb
          have ca := hf3.2.1.cell
          have cb := hf3.2.2.cell
          cases hN : isNameB kd.text with
          | false =>
            have HW : Hid (specialOk c = false) := by show _ = _; rw [HV.out, HK.out, hN]; rfl
            clear hN
            go_wp2_with fail
            go_meet
            exact ⟨congrArg Value.bool (by rw [HW.out]; rfl), hf3⟩
          | true =>
            have HW : Hid (specialOk c = true) := by show _ = _; rw [HV.out, HK.out, hN]; rfl
            clear hN
            go_wp2_with fail
            go_meet
            exact ⟨congrArg Value.bool (by rw [HW.out]; rfl), hf3⟩
        ·have f2 : (kd.kind != 2) = true := by simpa using k2
         have HW : Hid (specialOk c = false) := by show _ = _; rw [HV.out, decide_eq_false k2]; rfl
         clear k2
         as_aux_lemma =>
          go_wp2_with fail
          go_meet
          exact ⟨congrArg Value.bool (by rw [HW.out]; rfl), hf2⟩
       have e79 : (c.op == 79) = false := by simpa using o79
       by_cases o81 : c.op = 81
       ·have hlt : 0 < c.kids.length := by rw [o81] at g5; have : arityLo 81 = 1 := (by decide); omega
        obtain ⟨g, off, kd, B, dd, rfl, hg1, hg2, hkd, hmem, hrep, c0, c1', c2', c3', c4, c5'⟩ := (hk.below hf2.1 hhi).kid hlt
        have HV := Lib.hid (special_81 o81 hkd)
        have e81 : (c.op == 81) = true := by simp [o81]
        have hlt2 : (0 : Int) < (c.kids.length : Int) := by omega
        rw [Nat.zero_mul, Nat.add_zero] at c0
        clear o79 o81 hkd c1' c2' c3' c4 c5' hrep hmem
        by_cases k5 : kd.kind = 5
        ·have f5 : (kd.kind != 5) = false := by simp [k5]
         have HW : Hid (specialOk c = true) := by show _ = _; rw [HV.out]; exact decide_eq_true (by omega)
         clear k5
         as_aux_lemma =>
          go_wp2_with fail
          go_meet
          exact ⟨congrArg Value.bool (by rw [HW.out]; rfl), hf2⟩
        have f5 : (kd.kind != 5) = true := by simpa using k5
        by_cases k6 : kd.kind = 6
        ·have f6 : (kd.kind != 6) = false := by simp [k6]
         have HW : Hid (specialOk c = true) := by show _ = _; rw [HV.out]; exact decide_eq_true (by omega)
         clear k6
         as_aux_lemma =>
          go_wp2_with fail
          go_meet
          exact ⟨congrArg Value.bool (by rw [HW.out]; rfl), hf2⟩
        have f6 : (kd.kind != 6) = true := by simpa using k6
        have HW : Hid (specialOk c = false) := by show _ = _; rw [HV.out]; exact decide_eq_false (by omega)
        clear k5 k6
        as_aux_lemma =>
         go_wp2_with fail
         go_meet
         exact ⟨congrArg Value.bool (by rw [HW.out]; rfl), hf2⟩
       have e81 : (c.op == 81) = false := by simpa using o81
       have HW := Lib.hid (special_no o79 o81)
       clear o79 o81
       as_aux_lemma =>
        go_wp2_with fail
        go_meet
        exact ⟨congrArg Value.bool (by rw [HW.out]; rfl), hf2⟩
      have e11 : (c.kind == 11) = false := by simpa using k
      have HW : Hid (specialOk c = true) := by have := HT.out; simp only [textB, decide_eq_true_eq] at this; exact special_no (by omega) (by omega)
      as_aux_lemma =>
       go_wp2_with fail
       go_meet
       exact ⟨congrArg Value.bool (by rw [HW.out]; rfl), hf2⟩
      --H>
     case rest =>
      obtain ⟨rfl, hf3⟩ := hcut
      clear ca cb hf2 hz2
      have hf2 := hf3
      clear hf3
      have hz2 := hf2.size
      have ca := hf2.2.1.cell
      have cb := hf2.2.2.cell
      cases hS : specialOk c with
      | false =>
        --<I
        as_aux_lemma =>
         go_wp2_with fail
         go_ret
         exact ⟨ret_bool (validS_special hS).symm, hf2.1⟩
        --I>
      | true =>
      have HN : Hid (nodeOk d c loop made = true) := nodeOk_of HL.out HT.out HC.out HP.out hS
      clear hS HL HT HC HP
      go_wp2_with fail
      go_loopw [17] (fun i wr => ∃ k : Nat, k ≤ c.kids.length ∧ i = .int .i64 k ∧ Hid (∀ j y, j < k → c.kids[j]? = some y → validS d y (innerB c.kind j loop) (made || decide (c.kind = 26)) (deep + 1) = true) ∧ VFrm w wr #[.slice A1 d.routines c1, .slice A2 d.records c2, .slice A3 d.globals c3, .int .i64 m] #[.int .i64 c.kind, .int .i64 c.op, .int .i64 c.number, .int .i64 c.line, .string c.text, .slice A c.kids.length cap]) (fun i _ => c.kids.length - (intOf i).toNat)
      case atStart => exact ⟨0, Nat.zero_le _, rfl, (fun j y hj => absurd hj (by omega)), hf2⟩
      case round =>
       clear ca cb hf2 hz2
       obtain ⟨kk, hk', rfl, hgo, hf⟩ := hrel
       obtain ⟨wo, rfl⟩ : ∃ wo : World, wo = wr := ⟨_, rfl⟩
       have hz := hf.size
       have ca := hf.2.1.cell
       have cb := hf.2.2.cell
       by_cases hlt : kk < c.kids.length
       ·obtain ⟨g, off, kd, B, dd, rfl, hg1, hg2, hkd, hmem, hrep, k0, k1, k2, k3, k4, k5⟩ := (hk.below hf.1 hhi).kid hlt
        have HS := Lib.hid (HH.out kd hmem)
        have hbm := bulk_mem hmem
        have HK := Lib.hid hkd
        have HM := Lib.hid hrep
        clear hkd hmem hrep
        go_upto_region 17 with fail
        go_cut [18] from 196 to 241 (fun v wx => v = .bool (loop && !decide (c.kind = 20 ∨ c.kind = 26)) ∧ wx = wo)
        case first =>
         --<J
         cases loop with
         | false =>
           as_aux_lemma =>
            go_wp2_with fail
            go_meet
            exact ⟨rfl, rfl⟩
         | true =>
         by_cases k : c.kind = 20
         ·have k' := k
          clear k'
          have HD : Hid (decide (c.kind = 20 ∨ c.kind = 26) = true) := decide_eq_true (by omega)
          have f20 : (c.kind != 20) = false := by simp [k]
          have f26 : (c.kind != 26) = true := by simp; omega
          have ka : 20 ≤ c.kind := by omega
          have kb : c.kind ≤ 20 := by omega
          clear k
          as_aux_lemma =>
           go_wp2_with fail
           go_meet
           exact ⟨congrArg Value.bool (by rw [HD.out]; rfl), rfl⟩
         have n20 : ¬ c.kind = 20 := k
         clear k
         by_cases k : c.kind = 26
         ·have k' := k
          clear k'
          have HD : Hid (decide (c.kind = 20 ∨ c.kind = 26) = true) := decide_eq_true (by omega)
          have f20 : (c.kind != 20) = true := by simp; omega
          have f26 : (c.kind != 26) = false := by simp [k]
          have ka : 26 ≤ c.kind := by omega
          have kb : c.kind ≤ 26 := by omega
          clear k
          as_aux_lemma =>
           go_wp2_with fail
           go_meet
           exact ⟨congrArg Value.bool (by rw [HD.out]; rfl), rfl⟩
         have n26 : ¬ c.kind = 26 := k
         clear k
         have HD : Hid (decide (c.kind = 20 ∨ c.kind = 26) = false) := decide_eq_false (by omega)
         have f20 : (c.kind != 20) = true := by simpa using n20
         have f26 : (c.kind != 26) = true := by simpa using n26
         as_aux_lemma =>
          go_wp2_with fail
          go_meet
          exact ⟨congrArg Value.bool (by rw [HD.out]; rfl), rfl⟩
         --J>
        case rest =>
         obtain ⟨rfl, rfl⟩ := hcut
         go_upto_region 18 with fail
         go_cut [221] from 222 to 241 (fun v wx => v = .bool (decide (c.kind = 18 ∨ c.kind = 19)) ∧ wx = wc)
         case first =>
          --<K
          by_cases k : c.kind = 18
          ·have k' := k
           clear k'
           have HD : Hid (decide (c.kind = 18 ∨ c.kind = 19) = true) := decide_eq_true (by omega)
           have e18 : (c.kind == 18) = true := by simp [k]
           have e19 : (c.kind == 19) = false := by simp; omega
           have ka : 18 ≤ c.kind := by omega
           have kb : c.kind ≤ 18 := by omega
           clear k
           as_aux_lemma =>
            go_wp2_with fail
            go_meet
            exact ⟨congrArg Value.bool (by rw [HD.out]), rfl⟩
          have n18 : ¬ c.kind = 18 := k
          clear k
          by_cases k : c.kind = 19
          ·have k' := k
           clear k'
           have HD : Hid (decide (c.kind = 18 ∨ c.kind = 19) = true) := decide_eq_true (by omega)
           have e18 : (c.kind == 18) = false := by simp; omega
           have e19 : (c.kind == 19) = true := by simp [k]
           have ka : 19 ≤ c.kind := by omega
           have kb : c.kind ≤ 19 := by omega
           clear k
           as_aux_lemma =>
            go_wp2_with fail
            go_meet
            exact ⟨congrArg Value.bool (by rw [HD.out]), rfl⟩
          have n19 : ¬ c.kind = 19 := k
          clear k
          have HD : Hid (decide (c.kind = 18 ∨ c.kind = 19) = false) := decide_eq_false (by omega)
          have e18 : (c.kind == 18) = false := by simpa using n18
          have e19 : (c.kind == 19) = false := by simpa using n19
          as_aux_lemma =>
           go_wp2_with fail
           go_meet
           exact ⟨congrArg Value.bool (by rw [HD.out]), rfl⟩
          --K>
         case rest =>
          obtain ⟨rfl, rfl⟩ := hcut
          go_upto_if 221 with fail
          go_cut [18] from 221 to 241 (fun v wx => v = .bool (innerB c.kind kk loop) ∧ wx = wc)
          case first =>
           --<L
           by_cases k : c.kind = 18 ∨ c.kind = 19
           ·have HI := Lib.hid (innerB_yes kk loop k)
            rw [decide_eq_true k]
            clear k
            as_aux_lemma =>
             go_wp2_with fail
             go_meet
             exact ⟨congrArg Value.bool (by rw [HI.out]; rw [Bool.eq_iff_iff]; simp; omega), rfl⟩
           ·have HI := Lib.hid (innerB_no kk loop k)
            rw [decide_eq_false k]
            clear k
            as_aux_lemma =>
             go_wp2_with fail
             go_meet
             exact ⟨congrArg Value.bool HI.out.symm, rfl⟩
           --L>
          case rest =>
           obtain ⟨rfl, rfl⟩ := hcut
           have y1 : hi ≤ wc.drew.heap.size := Nat.le_trans hhi hf.1.size
           have y2 : w.heap.size < wc.drew.heap.size := hf.2.1.lt
           have y3 : w.heap.size + 1 < wc.drew.heap.size := hf.2.2.lt
           have e0 : (0 : Int) ≤ (kk : Int) := by omega
           have e8 : (kk : Int) < (c.kids.length : Int) := by omega
           have kbk : kd.bulk ≤ 1048576 := by have := c.bulk_eq; omega
           have x1 : 1 ≤ deep + 1 := by omega
           have x2 : deep + 1 ≤ 401 := by omega
           have ws : IntKind.i64.wrap (deep + 1) = deep + 1 := IntWalk.i64_in _ (by omega)
           cases made with
           | true =>
             --<Mt
             as_aux_lemma =>
              obtain ⟨r, hr⟩ : ∃ r, validS d kd (innerB c.kind kk loop) (true || decide (c.kind = 26)) (deep + 1) = r := ⟨_, rfl⟩
              have HR := Lib.hid hr
              clear hr
              go_wp2_with fail
              go_still_tail 16, (by kernel_rfl)
              change wpList _ _ _ _ _ wc.drew
              have hmr := HM.out.same (Same.refl wc).drew
              go_wp2_with fail
              refine (HS.out A1 A2 A3 c1 c2 c3 m _ (innerB c.kind kk loop) (true || decide (c.kind = 26)) (deep + 1) _ lo hi hmr y1 kbk x1 x2).mono ?_
              rw [HR.out]
              rintro e wA ⟨rfl, hbA⟩
              have hf3 := (hf.drewN 1).later hbA
              clear ca cb k0 k1 k2 k3 k4 k5 ws hmr hbA
              cases r with
              | false =>
                have HV := Lib.hid (validS_kid (made := true) HK.out HR.out)
                clear HR
                as_aux_lemma =>
                 go_wp2_with fail
                 go_ret
                 exact ⟨ret_bool HV.out.symm, hf3.1⟩
              | true =>
                have HG := Lib.hid (validS_upto (made := true) hgo.out HK.out HR.out)
                clear HR hgo
                as_aux_lemma =>
                 go_wp2_with fail
                 go_roundw
                 case rel =>
                  repeat apply Exists.intro
                  refine ⟨?_, ?_⟩
                  rotate_left
                  ·rfl
                  ·exact ⟨kk + 1, by omega, by go_num, HG, hf3⟩
                 case measure => simp [intOf]; omega
             --Mt>
           | false =>
             --<Mf
             as_aux_lemma =>
              obtain ⟨r, hr⟩ : ∃ r, validS d kd (innerB c.kind kk loop) (false || decide (c.kind = 26)) (deep + 1) = r := ⟨_, rfl⟩
              have HR := Lib.hid hr
              clear hr
              go_wp2_with fail
              go_still_tail 16, (by kernel_rfl)
              change wpList _ _ _ _ _ wc.drew
              have hmr := HM.out.same (Same.refl wc).drew
              go_wp2_with fail
              refine (HS.out A1 A2 A3 c1 c2 c3 m _ (innerB c.kind kk loop) (false || decide (c.kind = 26)) (deep + 1) _ lo hi hmr y1 kbk x1 x2).mono ?_
              rw [HR.out]
              rintro e wA ⟨rfl, hbA⟩
              have hf3 := (hf.drewN 1).later hbA
              clear ca cb k0 k1 k2 k3 k4 k5 ws hmr hbA
              cases r with
              | false =>
                have HV := Lib.hid (validS_kid (made := false) HK.out HR.out)
                clear HR
                as_aux_lemma =>
                 go_wp2_with fail
                 go_ret
                 exact ⟨ret_bool HV.out.symm, hf3.1⟩
              | true =>
                have HG := Lib.hid (validS_upto (made := false) hgo.out HK.out HR.out)
                clear HR hgo
                as_aux_lemma =>
                 go_wp2_with fail
                 go_roundw
                 case rel =>
                  repeat apply Exists.intro
                  refine ⟨?_, ?_⟩
                  rotate_left
                  ·rfl
                  ·exact ⟨kk + 1, by omega, by go_num, HG, hf3⟩
                 case measure => simp [intOf]; omega
             --Mf>
       ·obtain rfl : kk = c.kids.length := by omega
        have HV := Lib.hid (validS_all HN.out hgo.out g1)
        clear hgo
        as_aux_lemma =>
         go_wp2_with fail
         go_ret
         exact ⟨ret_bool HV.out.symm, hf.1⟩
theorem spec_l10Valid (d : WdT) (q1 : d.slots ≤ 1048576) (q2 : d.globals ≤ 1048576) (q3 : d.routines ≤ 1048576) (q4 : d.records ≤ 1048576) (c : CoreT) : ValidOk d c := CoreT.ind (spec_l10Valid_of d q1 q2 q3 q4) c
end Go.Proofs.YtjeomamdlmoghaaGreatDoor
end
