/- validCore of the program: a tree is valid as the plain law says. -/
import Derived.Test.YtjeomamdlmoghaaGreatDoorQ00
import Derived.Test.YtjeomamdlmoghaaGreatDoorQ07
import Derived.Test.YtjeomamdlmoghaaGreatDoorQ13
import Derived.Deep.DeepCutAuto
import Derived.Deep.CutBlock
import Derived.Deep.RegionHeld3
import Derived.IntWalk
import Derived.StillTailTactics
set_option maxRecDepth 100000
set_option maxHeartbeats 8000000
set_option linter.unusedVariables false
set_option linter.unusedSimpArgs false
section
namespace Go.Proofs.YtjeomamdlmoghaaGreatDoor
open Go.RowKit
def ValidIOk (d : WdT) (c : CoreT) : Prop := ∀ (x : Value) (loop create : Bool) (w : World) (lo hi : Nat), CRep w lo hi x c → hi ≤ w.heap.size → SpaceTab w → c.bulk ≤ 1048576 →
 Calls Tryz.prog 51 #[.agg #[.int .i64 d.slots, .int .i64 d.globals, .int .i64 d.routines, .int .i64 d.records], x, .bool loop, .bool create] w fun e w' => e = .returned (.bool (validT d c loop create)) ∧ Below w.heap.size w w'
def IFrm (w wx : World) (pc cc : Array Value) : Prop := Below w.heap.size w wx ∧ Blk wx w.heap.size 84 pc ∧ Blk wx (w.heap.size + 1) 45 cc
theorem IFrm.new (w : World) (pc cc : Array Value) : IFrm w ((w.alloc (.cells pc 84)).alloc (.cells cc 45)) pc cc :=
 ⟨((Below.refl _ _).alloc (Nat.le_refl _) _).alloc (by simp) _, (Blk.new w _ _).alloc _, Blk.newAt _ _ _ _ (by simp)⟩
theorem IFrm.later {w wx wy : World} {pc cc : Array Value} (h : IFrm w wx pc cc) (hb : Below wx.heap.size wx wy) : IFrm w wy pc cc := ⟨h.1.trans (hb.mono h.1.size), h.2.1.later hb, h.2.2.later hb⟩
theorem IFrm.drewN {w wx : World} {pc cc : Array Value} (h : IFrm w wx pc cc) (n : Nat) : IFrm w (wx.drewN n) pc cc := ⟨⟨h.1.os, h.1.tape, h.1.output, h.1.size, h.1.block⟩, h.2.1.drewN n, h.2.2.drewN n⟩
theorem IFrm.alloc {w wx : World} {pc cc : Array Value} (h : IFrm w wx pc cc) (o : Obj) : IFrm w (wx.alloc o) pc cc := ⟨h.1.alloc h.1.size o, h.2.1.alloc o, h.2.2.alloc o⟩
theorem IFrm.size {w wx : World} {pc cc : Array Value} (h : IFrm w wx pc cc) : w.heap.size + 1 < wx.heap.size := h.2.2.lt
theorem headOk_yes {c : CoreT} (h1 : 1 ≤ c.kind) (h2 : c.kind ≤ 28) (h3 : 0 ≤ c.line) (h4 : kidsLo c.kind c.op ≤ c.kids.length) (h5 : (c.kids.length : Int) ≤ kidsHi c.kind c.op) (h6 : c.kind = 11 ∨ c.op = 0) : headOk c = true := by
 simp only [headOk, Bool.and_eq_true, decide_eq_true_eq, Bool.or_eq_true]; exact ⟨⟨⟨⟨⟨h1, h2⟩, h3⟩, h4⟩, h5⟩, h6⟩
theorem headOk_no {c : CoreT} (h : ¬ (1 ≤ c.kind ∧ c.kind ≤ 28 ∧ 0 ≤ c.line ∧ kidsLo c.kind c.op ≤ c.kids.length ∧ (c.kids.length : Int) ≤ kidsHi c.kind c.op ∧ (c.kind = 11 ∨ c.op = 0))) : headOk c = false := by
 rw [Bool.eq_false_iff]; intro e; apply h
 simp only [headOk, Bool.and_eq_true, decide_eq_true_eq, Bool.or_eq_true] at e
 exact ⟨e.1.1.1.1.1, e.1.1.1.1.2, e.1.1.1.2, e.1.1.2, e.1.2, e.2⟩
theorem validT_head {d : WdT} {c : CoreT} {loop create : Bool} (h : headOk c = false) : validT d c loop create = false := validT_bad (by simp [nodeOk, h])
theorem impl_within (n : Nat) (num : Int) (g : Nat) (w : World) (hc : w.cell? ⟨g, 2, none⟩ = some (.int .i64 num)) : Calls Tryz.prog 79 #[.int .i64 n, .pointer (some ⟨g, 0, none⟩)] w fun e w' => e = .returned (.bool (inB num 0 (n - 1))) ∧ w = w' := by
 go_enter Tryz.func79, Tryz.ntmps79
 go_wp2_with fail
 all_goals
  go_ret
  exact ⟨ret_bool (by rw [Bool.eq_iff_iff]; simp [inB]; omega), rfl⟩
theorem textOk_else {c : CoreT} (h2 : ¬ c.kind = 2) (h3 : ¬ c.kind = 3) : textOk c = c.text.toList.isEmpty := by
 rw [textOk, if_neg h2, if_neg h3, Bool.eq_iff_iff, decide_eq_true_eq, ByteArray.toList_eq, List.isEmpty_iff]
 constructor
 ·intro h; exact List.eq_nil_of_length_eq_zero ((Array.length_toList (xs := c.text.data)).trans h)
 ·intro h; exact (Array.length_toList (xs := c.text.data)).symm.trans (by rw [h]; rfl)
theorem textOk_2 {c : CoreT} (h : c.kind = 2) : textOk c = decide (c.text.size ≤ 120) := by rw [textOk, if_pos h]
theorem textOk_3 {c : CoreT} (h : c.kind = 3) : textOk c = csetOk c.text := by rw [textOk, if_neg (by omega), if_pos h]
section
variable {d : WdT} {c : CoreT} {loop create : Bool}
def numOk (d : WdT) (c : CoreT) (loop create : Bool) : Bool := leafOk d c.kind c.number && placeOk c loop create
theorem num_1 (h : c.kind = 1) : numOk d c loop create = inB c.number (-999999999999) 999999999999 := by simp [numOk, leafOk, placeOk, h]
theorem num_5 (h : c.kind = 5) : numOk d c loop create = inB c.number 0 (d.slots - 1) := by simp [numOk, leafOk, placeOk, h]
theorem num_6 (h : c.kind = 6) : numOk d c loop create = inB c.number 0 (d.globals - 1) := by simp [numOk, leafOk, placeOk, h]
theorem num_7 (h : c.kind = 7) : numOk d c loop create = inB c.number 0 (d.routines - 1) := by simp [numOk, leafOk, placeOk, h]
theorem num_8 (h : c.kind = 8) : numOk d c loop create = inB c.number 0 ((55 : Nat) - 1) := by simp [numOk, leafOk, placeOk, h]
theorem num_9 (h : c.kind = 9) : numOk d c loop create = inB c.number 0 (d.records - 1) := by simp [numOk, leafOk, placeOk, h]
theorem num_10 (h : c.kind = 10) : numOk d c loop create = inB c.number 1 2 := by simp [numOk, leafOk, placeOk, h]
theorem num_20 (h : c.kind = 20) : numOk d c loop create = (decide (c.number = 0) && loop) := by simp [numOk, leafOk, placeOk, h]
theorem num_21 (h : c.kind = 21) : numOk d c loop create = (decide (c.number = 0) && loop) := by simp [numOk, leafOk, placeOk, h]
theorem num_23 (h : c.kind = 23) : numOk d c loop create = (decide (c.number = 0) && !create) := by simp [numOk, leafOk, placeOk, h]
theorem num_24 (h : c.kind = 24) : numOk d c loop create = (decide (c.number = 0) && !create) := by simp [numOk, leafOk, placeOk, h]
theorem num_25 (h : c.kind = 25) : numOk d c loop create = (decide (c.number = 0) && !create) := by simp [numOk, leafOk, placeOk, h]
theorem num_no (h : ¬ (c.kind = 1 ∨ c.kind = 5 ∨ c.kind = 6 ∨ c.kind = 7 ∨ c.kind = 8 ∨ c.kind = 9 ∨ c.kind = 10 ∨ c.kind = 20 ∨ c.kind = 21 ∨ (23 ≤ c.kind ∧ c.kind ≤ 25))) : numOk d c loop create = decide (c.number = 0) := by
 simp only [not_or] at h
 obtain ⟨h1, h5, h6, h7, h8, h9, h10, h20, h21, h23⟩ := h
 simp [numOk, leafOk, placeOk, h1, h5, h6, h7, h8, h9, h10, h20, h21, h23]
theorem validT_text (h : textOk c = false) : validT d c loop create = false := validT_bad (by simp [nodeOk, h])
theorem validT_num (h : numOk d c loop create = false) : validT d c loop create = false := validT_bad (by
 rw [numOk, Bool.and_eq_false_iff] at h
 rcases h with h | h <;> simp [nodeOk, h])
theorem validT_special (h : specialOk c = false) : validT d c loop create = false := validT_bad (by simp [nodeOk, h])
theorem nodeOk_ofI (h1 : headOk c = true) (h2 : textOk c = true) (h3 : numOk d c loop create = true) (h4 : specialOk c = true) : nodeOk d c loop create = true := by
 rw [numOk, Bool.and_eq_true] at h3
 simp [nodeOk, h1, h2, h3.1, h3.2, h4]
theorem special_79I {kd : CoreT} (h : c.op = 79) (hk : c.kids[1]? = some kd) : specialOk c = (decide (kd.kind = 2) && isNameB kd.text) := by
 simp [specialOk, h, hk]
theorem special_81I {kd : CoreT} (h : c.op = 81) (hk : c.kids[0]? = some kd) : specialOk c = decide (kd.kind = 5 ∨ kd.kind = 6) := by
 simp [specialOk, h, hk]
theorem special_noI (h1 : ¬ c.op = 79) (h2 : ¬ c.op = 81) : specialOk c = true := by simp [specialOk, h1, h2]
theorem special_rest (h : (decide (c.op = 79) && !specialOk c) = false) (h2 : ¬ c.op = 81) : specialOk c = true := by
 by_cases e : c.op = 79
 ·simpa [e] using h
 ·exact special_noI e h2
theorem innerB_yesI {k : Int} (i : Nat) (loop : Bool) (h : k = 18 ∨ k = 19) : innerB k i loop = decide (i = 1) := by simp [innerB, h]
theorem innerB_off {k : Int} (i : Nat) (loop : Bool) (h : k = 20 ∨ k = 26) : innerB k i loop = false := by
 rw [innerB, if_neg (by omega), if_pos h]
theorem innerB_other {k : Int} (i : Nat) (loop : Bool) (h1 : ¬ (k = 18 ∨ k = 19)) (h2 : ¬ (k = 20 ∨ k = 26)) : innerB k i loop = loop := by
 rw [innerB, if_neg h1, if_neg h2]
theorem validT_upto {kd : CoreT} {k : Nat} (hgo : ∀ j y, j < k → c.kids[j]? = some y → validT d y (innerB c.kind j loop) (create || decide (c.kind = 26)) = true) (hk : c.kids[k]? = some kd) (h : validT d kd (innerB c.kind k loop) (create || decide (c.kind = 26)) = true) :
 ∀ j y, j < k + 1 → c.kids[j]? = some y → validT d y (innerB c.kind j loop) (create || decide (c.kind = 26)) = true := by
 intro j y hj hy
 by_cases e : j = k
 ·subst e; rw [hk] at hy; injection hy with hy; subst hy; exact h
 ·exact hgo j y (by omega) hy
theorem validT_all (hn : nodeOk d c loop create = true) (hgo : ∀ j y, j < c.kids.length → c.kids[j]? = some y → validT d y (innerB c.kind j loop) (create || decide (c.kind = 26)) = true) : validT d c loop create = true :=
 (validT_iff d c loop create).2 ⟨hn, fun j y hy => hgo j y (List.getElem?_eq_some_iff.1 hy).1 hy⟩
end
theorem impl_validCore_of (d : WdT) (c : CoreT) (H : ∀ x ∈ c.kids, ValidIOk d x) : ValidIOk d c := by
 intro x loop create w lo hi h hhi hst hbk
 obtain ⟨A, cap, rfl, hk, hc1, hc2⟩ := h.form
 unfold maxLen at hc2
 have HH := Lib.hid H
 clear H
 go_enter Tryz.func51, Tryz.ntmps51
 go_wp2_with fail
 have hf0 := IFrm.new w #[.int .i64 d.slots, .int .i64 d.globals, .int .i64 d.routines, .int .i64 d.records] #[.int .i64 c.kind, .int .i64 c.op, .int .i64 c.number, .int .i64 c.line, .string c.text, .slice A c.kids.length cap]
 refine (impl_kids _ c _ lo hi ((h.alloc hhi _).alloc (by simp; omega) _) (hst.below hf0.1 hst.2)).mono ?_; rintro e w1 ⟨rfl, hb1⟩
 have hf1 := hf0.later hb1
 clear hb1 hf0
 have hz1 := hf1.size
 have ca := hf1.2.1.cell
 have cb := hf1.2.2.cell
 go_upto_region 2 with fail
 go_cut [58] (fun v wx => v = .bool (!headOk c) ∧ wx = w1)
 case first =>
  --<A
  by_cases e0 : c.kind < 1
  ·as_aux_lemma =>
    go_wp2_with fail
    go_meet
    exact ⟨congrArg Value.bool (by rw [headOk_no (by omega)]; first | rfl | (simp; omega) | simp), rfl⟩
  by_cases e1 : 28 < c.kind
  ·as_aux_lemma =>
    go_wp2_with fail
    go_meet
    exact ⟨congrArg Value.bool (by rw [headOk_no (by omega)]; first | rfl | (simp; omega) | simp), rfl⟩
  by_cases e2 : c.line < 0
  ·as_aux_lemma =>
    go_wp2_with fail
    go_meet
    exact ⟨congrArg Value.bool (by rw [headOk_no (by omega)]; first | rfl | (simp; omega) | simp), rfl⟩
  by_cases e3 : (c.kids.length : Int) < kidsLo c.kind c.op
  ·as_aux_lemma =>
    go_wp2_with fail
    go_meet
    exact ⟨congrArg Value.bool (by rw [headOk_no (by omega)]; first | rfl | (simp; omega) | simp), rfl⟩
  by_cases e4 : kidsHi c.kind c.op < (c.kids.length : Int)
  ·as_aux_lemma =>
    go_wp2_with fail
    go_meet
    exact ⟨congrArg Value.bool (by rw [headOk_no (by omega)]; first | rfl | (simp; omega) | simp), rfl⟩
  by_cases k : c.kind = 11
  ·have f11 : (c.kind != 11) = false := by simp [k]
   have ka : 11 ≤ c.kind := by omega
   have kb : c.kind ≤ 11 := by omega
   clear k
   as_aux_lemma =>
    go_wp2_with fail
    go_meet
    exact ⟨congrArg Value.bool (by rw [headOk_yes (by omega) (by omega) (by omega) (by omega) (by omega) (by omega)]; first | rfl | (simp; omega) | simp), rfl⟩
  have f11 : (c.kind != 11) = true := by simpa using k
  by_cases o0 : c.op = 0
  ·have f0 : (c.op != 0) = false := by simp [o0]
   have oa : 0 ≤ c.op := by omega
   have ob : c.op ≤ 0 := by omega
   clear o0
   as_aux_lemma =>
    go_wp2_with fail
    go_meet
    exact ⟨congrArg Value.bool (by rw [headOk_yes (by omega) (by omega) (by omega) (by omega) (by omega) (by omega)]; first | rfl | (simp; omega) | simp), rfl⟩
  have f0 : (c.op != 0) = true := by simpa using o0
  as_aux_lemma =>
   go_wp2_with fail
   go_meet
   exact ⟨congrArg Value.bool (by rw [headOk_no (by omega)]; first | rfl | (simp; omega) | simp), rfl⟩
  --A>
 case rest =>
  obtain ⟨rfl, rfl⟩ := hcut
  cases hH : headOk c with
  | false =>
    --<B
    as_aux_lemma =>
     go_wp2_with fail
     go_ret
     exact ⟨ret_bool (validT_head hH).symm, hf1.1⟩
    --B>
  | true =>
  have g2 : 1 ≤ c.kind := by simp [headOk] at hH; omega
  have g3 : c.kind ≤ 28 := by simp [headOk] at hH; omega
  have g4 : 0 ≤ c.line := by simp [headOk] at hH; omega
  have g5 : kidsLo c.kind c.op ≤ c.kids.length := by simp [headOk] at hH; omega
  have g6 : (c.kids.length : Int) ≤ kidsHi c.kind c.op := by simp [headOk] at hH; omega
  have HL := Lib.hid hH
  clear hH
  go_upto_block 0 with fail
  go_cut [11, 12] (fun t n wx => t = .bool (textOk c) ∧ n = .bool (numOk d c loop create) ∧ IFrm w wx #[.int .i64 d.slots, .int .i64 d.globals, .int .i64 d.routines, .int .i64 d.records] #[.int .i64 c.kind, .int .i64 c.op, .int .i64 c.number, .int .i64 c.line, .string c.text, .slice A c.kids.length cap])
  case first =>
   --<C
   by_cases k1 : c.kind = 1
   ·have k := k1
    have HN := Lib.hid (num_1 (d := d) (loop := loop) (create := create) k)
    have HT := Lib.hid (textOk_else (c := c) (by omega) (by omega))
    clear k1
    have e1 : (c.kind == 1) = true := by simp [k]
    have ka : 1 ≤ c.kind := by omega
    have kb : c.kind ≤ 1 := by omega
    clear k
    as_aux_lemma =>
     go_wp2_with fail
     all_goals
      go_meet
      exact ⟨congrArg Value.bool HT.out.symm, congrArg Value.bool (by rw [HN.out, Bool.eq_iff_iff]; simp [inB] <;> omega), hf1⟩
   by_cases k2 : c.kind = 2
   ·have k := k2
    have HN := Lib.hid (num_no (c := c) (d := d) (loop := loop) (create := create) (by omega))
    have HT := Lib.hid (textOk_2 k)
    clear k1 k2
    have e1 : (c.kind == 1) = false := by simp; omega
    have e2 : (c.kind == 2) = true := by simp [k]
    have ka : 2 ≤ c.kind := by omega
    have kb : c.kind ≤ 2 := by omega
    clear k
    as_aux_lemma =>
     go_wp2_with fail
     go_meet
     exact ⟨congrArg Value.bool (by rw [HT.out, Bool.eq_iff_iff]; simp <;> omega), congrArg Value.bool (by rw [HN.out]; rfl), hf1⟩
   by_cases k3 : c.kind = 3
   ·have k := k3
    have HN := Lib.hid (num_no (c := c) (d := d) (loop := loop) (create := create) (by omega))
    have HT := Lib.hid (textOk_3 k)
    clear k1 k2 k3
    have e1 : (c.kind == 1) = false := by simp; omega
    have e2 : (c.kind == 2) = false := by simp; omega
    have e3 : (c.kind == 3) = true := by simp [k]
    have ka : 3 ≤ c.kind := by omega
    have kb : c.kind ≤ 3 := by omega
    clear k
    as_aux_lemma =>
     go_wp2_with fail
     refine (impl_isCsetText c.text _ (by have := c.bulk_eq; omega)).mono ?_; rintro e w3 ⟨rfl, hb3⟩
     go_wp2_with fail
     go_meet
     exact ⟨congrArg Value.bool HT.out.symm, congrArg Value.bool (by rw [HN.out]; rfl), hf1.later (hb3.below _)⟩
   by_cases k5 : c.kind = 5
   ·have k := k5
    have HN := Lib.hid (num_5 (d := d) (loop := loop) (create := create) k)
    have HT := Lib.hid (textOk_else (c := c) (by omega) (by omega))
    clear k1 k2 k3 k5
    have e1 : (c.kind == 1) = false := by simp; omega
    have e2 : (c.kind == 2) = false := by simp; omega
    have e3 : (c.kind == 3) = false := by simp; omega
    have e5 : (c.kind == 5) = true := by simp [k]
    have ka : 5 ≤ c.kind := by omega
    have kb : c.kind ≤ 5 := by omega
    clear k
    as_aux_lemma =>
     have c2 := cb 2
     simp only [List.getElem?_toArray, List.getElem?_cons_succ, List.getElem?_cons_zero] at c2
     go_wp2_with fail
     refine (impl_within d.slots c.number _ _ c2).mono ?_; rintro e w3 ⟨rfl, rfl⟩
     clear c2
     go_wp2_with fail
     go_meet
     exact ⟨congrArg Value.bool HT.out.symm, congrArg Value.bool HN.out.symm, hf1⟩
   by_cases k6 : c.kind = 6
   ·have k := k6
    have HN := Lib.hid (num_6 (d := d) (loop := loop) (create := create) k)
    have HT := Lib.hid (textOk_else (c := c) (by omega) (by omega))
    clear k1 k2 k3 k5 k6
    have e1 : (c.kind == 1) = false := by simp; omega
    have e2 : (c.kind == 2) = false := by simp; omega
    have e3 : (c.kind == 3) = false := by simp; omega
    have e5 : (c.kind == 5) = false := by simp; omega
    have e6 : (c.kind == 6) = true := by simp [k]
    have ka : 6 ≤ c.kind := by omega
    have kb : c.kind ≤ 6 := by omega
    clear k
    as_aux_lemma =>
     have c2 := cb 2
     simp only [List.getElem?_toArray, List.getElem?_cons_succ, List.getElem?_cons_zero] at c2
     go_wp2_with fail
     refine (impl_within d.globals c.number _ _ c2).mono ?_; rintro e w3 ⟨rfl, rfl⟩
     clear c2
     go_wp2_with fail
     go_meet
     exact ⟨congrArg Value.bool HT.out.symm, congrArg Value.bool HN.out.symm, hf1⟩
   by_cases k7 : c.kind = 7
   ·have k := k7
    have HN := Lib.hid (num_7 (d := d) (loop := loop) (create := create) k)
    have HT := Lib.hid (textOk_else (c := c) (by omega) (by omega))
    clear k1 k2 k3 k5 k6 k7
    have e1 : (c.kind == 1) = false := by simp; omega
    have e2 : (c.kind == 2) = false := by simp; omega
    have e3 : (c.kind == 3) = false := by simp; omega
    have e5 : (c.kind == 5) = false := by simp; omega
    have e6 : (c.kind == 6) = false := by simp; omega
    have e7 : (c.kind == 7) = true := by simp [k]
    have ka : 7 ≤ c.kind := by omega
    have kb : c.kind ≤ 7 := by omega
    clear k
    as_aux_lemma =>
     have c2 := cb 2
     simp only [List.getElem?_toArray, List.getElem?_cons_succ, List.getElem?_cons_zero] at c2
     go_wp2_with fail
     refine (impl_within d.routines c.number _ _ c2).mono ?_; rintro e w3 ⟨rfl, rfl⟩
     clear c2
     go_wp2_with fail
     go_meet
     exact ⟨congrArg Value.bool HT.out.symm, congrArg Value.bool HN.out.symm, hf1⟩
   by_cases k8 : c.kind = 8
   ·have k := k8
    have HN := Lib.hid (num_8 (d := d) (loop := loop) (create := create) k)
    have HT := Lib.hid (textOk_else (c := c) (by omega) (by omega))
    clear k1 k2 k3 k5 k6 k7 k8
    have e1 : (c.kind == 1) = false := by simp; omega
    have e2 : (c.kind == 2) = false := by simp; omega
    have e3 : (c.kind == 3) = false := by simp; omega
    have e5 : (c.kind == 5) = false := by simp; omega
    have e6 : (c.kind == 6) = false := by simp; omega
    have e7 : (c.kind == 7) = false := by simp; omega
    have e8 : (c.kind == 8) = true := by simp [k]
    have ka : 8 ≤ c.kind := by omega
    have kb : c.kind ≤ 8 := by omega
    clear k
    as_aux_lemma =>
     have c2 := cb 2
     simp only [List.getElem?_toArray, List.getElem?_cons_succ, List.getElem?_cons_zero] at c2
     go_wp2_with fail
     refine (impl_within 55 c.number _ _ c2).mono ?_; rintro e w3 ⟨rfl, rfl⟩
     clear c2
     go_wp2_with fail
     go_meet
     exact ⟨congrArg Value.bool HT.out.symm, congrArg Value.bool HN.out.symm, hf1⟩
   by_cases k9 : c.kind = 9
   ·have k := k9
    have HN := Lib.hid (num_9 (d := d) (loop := loop) (create := create) k)
    have HT := Lib.hid (textOk_else (c := c) (by omega) (by omega))
    clear k1 k2 k3 k5 k6 k7 k8 k9
    have e1 : (c.kind == 1) = false := by simp; omega
    have e2 : (c.kind == 2) = false := by simp; omega
    have e3 : (c.kind == 3) = false := by simp; omega
    have e5 : (c.kind == 5) = false := by simp; omega
    have e6 : (c.kind == 6) = false := by simp; omega
    have e7 : (c.kind == 7) = false := by simp; omega
    have e8 : (c.kind == 8) = false := by simp; omega
    have e9 : (c.kind == 9) = true := by simp [k]
    have ka : 9 ≤ c.kind := by omega
    have kb : c.kind ≤ 9 := by omega
    clear k
    as_aux_lemma =>
     have c2 := cb 2
     simp only [List.getElem?_toArray, List.getElem?_cons_succ, List.getElem?_cons_zero] at c2
     go_wp2_with fail
     refine (impl_within d.records c.number _ _ c2).mono ?_; rintro e w3 ⟨rfl, rfl⟩
     clear c2
     go_wp2_with fail
     go_meet
     exact ⟨congrArg Value.bool HT.out.symm, congrArg Value.bool HN.out.symm, hf1⟩
   by_cases k10 : c.kind = 10
   ·have k := k10
    have HN := Lib.hid (num_10 (d := d) (loop := loop) (create := create) k)
    have HT := Lib.hid (textOk_else (c := c) (by omega) (by omega))
    clear k1 k2 k3 k5 k6 k7 k8 k9 k10
    have e1 : (c.kind == 1) = false := by simp; omega
    have e2 : (c.kind == 2) = false := by simp; omega
    have e3 : (c.kind == 3) = false := by simp; omega
    have e5 : (c.kind == 5) = false := by simp; omega
    have e6 : (c.kind == 6) = false := by simp; omega
    have e7 : (c.kind == 7) = false := by simp; omega
    have e8 : (c.kind == 8) = false := by simp; omega
    have e9 : (c.kind == 9) = false := by simp; omega
    have e10 : (c.kind == 10) = true := by simp [k]
    have ka : 10 ≤ c.kind := by omega
    have kb : c.kind ≤ 10 := by omega
    clear k
    as_aux_lemma =>
     by_cases z1 : c.number = 1
     ·have ez : (c.number == 1) = true := by simp [z1]
      have HZ : Hid (inB c.number 1 2 = true) := by show _ = _; rw [z1]; rfl
      clear z1
      go_wp2_with fail
      go_meet
      exact ⟨congrArg Value.bool HT.out.symm, congrArg Value.bool (by rw [HN.out, HZ.out]), hf1⟩
     have ez1 : (c.number == 1) = false := by simpa using z1
     by_cases z2 : c.number = 2
     ·have ez : (c.number == 2) = true := by simp [z2]
      have HZ : Hid (inB c.number 1 2 = true) := by show _ = _; rw [z2]; rfl
      clear z2
      go_wp2_with fail
      go_meet
      exact ⟨congrArg Value.bool HT.out.symm, congrArg Value.bool (by rw [HN.out, HZ.out]), hf1⟩
     have ez2 : (c.number == 2) = false := by simpa using z2
     have HZ : Hid (inB c.number 1 2 = false) := by show _ = _; rw [Bool.eq_false_iff]; simp [inB]; omega
     clear z1 z2
     go_wp2_with fail
     go_meet
     exact ⟨congrArg Value.bool HT.out.symm, congrArg Value.bool (by rw [HN.out, HZ.out]), hf1⟩
   by_cases k20 : c.kind = 20
   ·have k := k20
    have HN := Lib.hid (num_20 (d := d) (loop := loop) (create := create) k)
    have HT := Lib.hid (textOk_else (c := c) (by omega) (by omega))
    clear k1 k2 k3 k5 k6 k7 k8 k9 k10 k20
    have e1 : (c.kind == 1) = false := by simp; omega
    have e2 : (c.kind == 2) = false := by simp; omega
    have e3 : (c.kind == 3) = false := by simp; omega
    have e5 : (c.kind == 5) = false := by simp; omega
    have e6 : (c.kind == 6) = false := by simp; omega
    have e7 : (c.kind == 7) = false := by simp; omega
    have e8 : (c.kind == 8) = false := by simp; omega
    have e9 : (c.kind == 9) = false := by simp; omega
    have e10 : (c.kind == 10) = false := by simp; omega
    have e20 : (c.kind == 20) = true := by simp [k]
    have ka : 20 ≤ c.kind := by omega
    have kb : c.kind ≤ 20 := by omega
    clear k
    as_aux_lemma =>
     by_cases z : c.number = 0
     ·have ez : (c.number == 0) = true := by simp [z]
      have HZ : Hid (decide (c.number = 0) = true) := decide_eq_true z
      clear z
      go_wp2_with fail
      go_meet
      exact ⟨congrArg Value.bool HT.out.symm, congrArg Value.bool (by rw [HN.out, HZ.out]; first | rfl | simp), hf1⟩
     ·have ez : (c.number == 0) = false := by simpa using z
      have HZ : Hid (decide (c.number = 0) = false) := decide_eq_false z
      clear z
      go_wp2_with fail
      go_meet
      exact ⟨congrArg Value.bool HT.out.symm, congrArg Value.bool (by rw [HN.out, HZ.out]; first | rfl | simp), hf1⟩
   by_cases k21 : c.kind = 21
   ·have k := k21
    have HN := Lib.hid (num_21 (d := d) (loop := loop) (create := create) k)
    have HT := Lib.hid (textOk_else (c := c) (by omega) (by omega))
    clear k1 k2 k3 k5 k6 k7 k8 k9 k10 k20 k21
    have e1 : (c.kind == 1) = false := by simp; omega
    have e2 : (c.kind == 2) = false := by simp; omega
    have e3 : (c.kind == 3) = false := by simp; omega
    have e5 : (c.kind == 5) = false := by simp; omega
    have e6 : (c.kind == 6) = false := by simp; omega
    have e7 : (c.kind == 7) = false := by simp; omega
    have e8 : (c.kind == 8) = false := by simp; omega
    have e9 : (c.kind == 9) = false := by simp; omega
    have e10 : (c.kind == 10) = false := by simp; omega
    have e20 : (c.kind == 20) = false := by simp; omega
    have e21 : (c.kind == 21) = true := by simp [k]
    have ka : 21 ≤ c.kind := by omega
    have kb : c.kind ≤ 21 := by omega
    clear k
    as_aux_lemma =>
     by_cases z : c.number = 0
     ·have ez : (c.number == 0) = true := by simp [z]
      have HZ : Hid (decide (c.number = 0) = true) := decide_eq_true z
      clear z
      go_wp2_with fail
      go_meet
      exact ⟨congrArg Value.bool HT.out.symm, congrArg Value.bool (by rw [HN.out, HZ.out]; first | rfl | simp), hf1⟩
     ·have ez : (c.number == 0) = false := by simpa using z
      have HZ : Hid (decide (c.number = 0) = false) := decide_eq_false z
      clear z
      go_wp2_with fail
      go_meet
      exact ⟨congrArg Value.bool HT.out.symm, congrArg Value.bool (by rw [HN.out, HZ.out]; first | rfl | simp), hf1⟩
   by_cases k23 : c.kind = 23
   ·have k := k23
    have HN := Lib.hid (num_23 (d := d) (loop := loop) (create := create) k)
    have HT := Lib.hid (textOk_else (c := c) (by omega) (by omega))
    clear k1 k2 k3 k5 k6 k7 k8 k9 k10 k20 k21 k23
    have e1 : (c.kind == 1) = false := by simp; omega
    have e2 : (c.kind == 2) = false := by simp; omega
    have e3 : (c.kind == 3) = false := by simp; omega
    have e5 : (c.kind == 5) = false := by simp; omega
    have e6 : (c.kind == 6) = false := by simp; omega
    have e7 : (c.kind == 7) = false := by simp; omega
    have e8 : (c.kind == 8) = false := by simp; omega
    have e9 : (c.kind == 9) = false := by simp; omega
    have e10 : (c.kind == 10) = false := by simp; omega
    have e20 : (c.kind == 20) = false := by simp; omega
    have e21 : (c.kind == 21) = false := by simp; omega
    have e23 : (c.kind == 23) = true := by simp [k]
    have ka : 23 ≤ c.kind := by omega
    have kb : c.kind ≤ 23 := by omega
    clear k
    as_aux_lemma =>
     by_cases z : c.number = 0
     ·have ez : (c.number == 0) = true := by simp [z]
      have HZ : Hid (decide (c.number = 0) = true) := decide_eq_true z
      clear z
      go_wp2_with fail
      go_meet
      exact ⟨congrArg Value.bool HT.out.symm, congrArg Value.bool (by rw [HN.out, HZ.out]; first | rfl | simp), hf1⟩
     ·have ez : (c.number == 0) = false := by simpa using z
      have HZ : Hid (decide (c.number = 0) = false) := decide_eq_false z
      clear z
      go_wp2_with fail
      go_meet
      exact ⟨congrArg Value.bool HT.out.symm, congrArg Value.bool (by rw [HN.out, HZ.out]; first | rfl | simp), hf1⟩
   by_cases k24 : c.kind = 24
   ·have k := k24
    have HN := Lib.hid (num_24 (d := d) (loop := loop) (create := create) k)
    have HT := Lib.hid (textOk_else (c := c) (by omega) (by omega))
    clear k1 k2 k3 k5 k6 k7 k8 k9 k10 k20 k21 k23 k24
    have e1 : (c.kind == 1) = false := by simp; omega
    have e2 : (c.kind == 2) = false := by simp; omega
    have e3 : (c.kind == 3) = false := by simp; omega
    have e5 : (c.kind == 5) = false := by simp; omega
    have e6 : (c.kind == 6) = false := by simp; omega
    have e7 : (c.kind == 7) = false := by simp; omega
    have e8 : (c.kind == 8) = false := by simp; omega
    have e9 : (c.kind == 9) = false := by simp; omega
    have e10 : (c.kind == 10) = false := by simp; omega
    have e20 : (c.kind == 20) = false := by simp; omega
    have e21 : (c.kind == 21) = false := by simp; omega
    have e23 : (c.kind == 23) = false := by simp; omega
    have e24 : (c.kind == 24) = true := by simp [k]
    have ka : 24 ≤ c.kind := by omega
    have kb : c.kind ≤ 24 := by omega
    clear k
    as_aux_lemma =>
     by_cases z : c.number = 0
     ·have ez : (c.number == 0) = true := by simp [z]
      have HZ : Hid (decide (c.number = 0) = true) := decide_eq_true z
      clear z
      go_wp2_with fail
      go_meet
      exact ⟨congrArg Value.bool HT.out.symm, congrArg Value.bool (by rw [HN.out, HZ.out]; first | rfl | simp), hf1⟩
     ·have ez : (c.number == 0) = false := by simpa using z
      have HZ : Hid (decide (c.number = 0) = false) := decide_eq_false z
      clear z
      go_wp2_with fail
      go_meet
      exact ⟨congrArg Value.bool HT.out.symm, congrArg Value.bool (by rw [HN.out, HZ.out]; first | rfl | simp), hf1⟩
   by_cases k25 : c.kind = 25
   ·have k := k25
    have HN := Lib.hid (num_25 (d := d) (loop := loop) (create := create) k)
    have HT := Lib.hid (textOk_else (c := c) (by omega) (by omega))
    clear k1 k2 k3 k5 k6 k7 k8 k9 k10 k20 k21 k23 k24 k25
    have e1 : (c.kind == 1) = false := by simp; omega
    have e2 : (c.kind == 2) = false := by simp; omega
    have e3 : (c.kind == 3) = false := by simp; omega
    have e5 : (c.kind == 5) = false := by simp; omega
    have e6 : (c.kind == 6) = false := by simp; omega
    have e7 : (c.kind == 7) = false := by simp; omega
    have e8 : (c.kind == 8) = false := by simp; omega
    have e9 : (c.kind == 9) = false := by simp; omega
    have e10 : (c.kind == 10) = false := by simp; omega
    have e20 : (c.kind == 20) = false := by simp; omega
    have e21 : (c.kind == 21) = false := by simp; omega
    have e23 : (c.kind == 23) = false := by simp; omega
    have e24 : (c.kind == 24) = false := by simp; omega
    have e25 : (c.kind == 25) = true := by simp [k]
    have ka : 25 ≤ c.kind := by omega
    have kb : c.kind ≤ 25 := by omega
    clear k
    as_aux_lemma =>
     by_cases z : c.number = 0
     ·have ez : (c.number == 0) = true := by simp [z]
      have HZ : Hid (decide (c.number = 0) = true) := decide_eq_true z
      clear z
      go_wp2_with fail
      go_meet
      exact ⟨congrArg Value.bool HT.out.symm, congrArg Value.bool (by rw [HN.out, HZ.out]; first | rfl | simp), hf1⟩
     ·have ez : (c.number == 0) = false := by simpa using z
      have HZ : Hid (decide (c.number = 0) = false) := decide_eq_false z
      clear z
      go_wp2_with fail
      go_meet
      exact ⟨congrArg Value.bool HT.out.symm, congrArg Value.bool (by rw [HN.out, HZ.out]; first | rfl | simp), hf1⟩
   have HN := Lib.hid (num_no (d := d) (c := c) (loop := loop) (create := create) (by omega))
   have HT := Lib.hid (textOk_else k2 k3)
   have e1 : (c.kind == 1) = false := by simpa using k1
   have e2 : (c.kind == 2) = false := by simpa using k2
   have e3 : (c.kind == 3) = false := by simpa using k3
   have e5 : (c.kind == 5) = false := by simpa using k5
   have e6 : (c.kind == 6) = false := by simpa using k6
   have e7 : (c.kind == 7) = false := by simpa using k7
   have e8 : (c.kind == 8) = false := by simpa using k8
   have e9 : (c.kind == 9) = false := by simpa using k9
   have e10 : (c.kind == 10) = false := by simpa using k10
   have e20 : (c.kind == 20) = false := by simpa using k20
   have e21 : (c.kind == 21) = false := by simpa using k21
   have e23 : (c.kind == 23) = false := by simpa using k23
   have e24 : (c.kind == 24) = false := by simpa using k24
   have e25 : (c.kind == 25) = false := by simpa using k25
   as_aux_lemma =>
    go_wp2_with fail
    go_meet
    exact ⟨congrArg Value.bool HT.out.symm, congrArg Value.bool (by rw [HN.out]; rfl), hf1⟩
   --C>
  case rest =>
   obtain ⟨rfl, rfl, hf2⟩ := hcut
   clear ca cb hf1 hz1
   have hz2 := hf2.size
   have ca := hf2.2.1.cell
   have cb := hf2.2.2.cell
   cases hT : textOk c with
   | false =>
     --<D
     have HV := Lib.hid (validT_text (d := d) (loop := loop) (create := create) hT)
     clear hT
     as_aux_lemma =>
      go_wp2_with fail
      go_ret
      exact ⟨ret_bool HV.out.symm, hf2.1⟩
     --D>
   | true =>
   cases hN : numOk d c loop create with
   | false =>
     --<E
     have HV := Lib.hid (validT_num hN)
     clear hT hN
     as_aux_lemma =>
      go_wp2_with fail
      go_ret
      exact ⟨ret_bool HV.out.symm, hf2.1⟩
     --E>
   | true =>
   have HT := Lib.hid hT
   have HN := Lib.hid hN
   clear hT hN
   go_upto_region 35 with fail
   go_cut [168] (fun v wx => v = .bool (decide (c.op = 79) && !specialOk c) ∧ IFrm w wx #[.int .i64 d.slots, .int .i64 d.globals, .int .i64 d.routines, .int .i64 d.records] #[.int .i64 c.kind, .int .i64 c.op, .int .i64 c.number, .int .i64 c.line, .string c.text, .slice A c.kids.length cap])
   case first =>
    --<F
    by_cases o79 : c.op = 79
    ·have k11 : c.kind = 11 := by have := HL.out; simp only [headOk, Bool.and_eq_true, decide_eq_true_eq, Bool.or_eq_true] at this; omega
     have hlt : 1 < c.kids.length := by rw [(kids_op (op := c.op) k11).1, o79] at g5; have : arityLo 79 = 2 := (by decide); omega
     clear k11
     obtain ⟨g, off, kd, B, dd, rfl, hg1, hg2, hkd, hmem, hrep, c0, c1', c2', c3', c4, c5'⟩ := (hk.below hf2.1 hhi).kid hlt
     have HV := Lib.hid (special_79I o79 hkd)
     have HD : Hid (decide (c.op = 79) = true) := decide_eq_true o79
     have e79 : (c.op == 79) = true := by simp [o79]
     have hlt2 : (1 : Int) < (c.kids.length : Int) := by omega
     rw [Nat.one_mul] at c0 c4
     clear o79 hkd c1' c2' c3' c5' hrep hmem
     by_cases k2 : kd.kind = 2
     ·have f2 : (kd.kind != 2) = false := by simp [k2]
      have HK : Hid (decide (kd.kind = 2) = true) := decide_eq_true k2
      clear k2
      as_aux_lemma =>
       go_wp2_with fail
       refine (impl_IsName kd.text _ (hst.below hf2.1 hst.2)).mono ?_; rintro e w3 ⟨rfl, hb3⟩
       have hf3 := hf2.later hb3
       clear c0 c4 ca cb
       have ca := hf3.2.1.cell
       have cb := hf3.2.2.cell
       cases hN : isNameB kd.text with
       | false =>
         have HW : Hid (specialOk c = false) := by show _ = _; rw [HV.out, HK.out, hN]; rfl
         clear hN
         go_wp2_with fail
         go_meet
         exact ⟨congrArg Value.bool (by rw [HW.out, HD.out]; rfl), hf3⟩
       | true =>
         have HW : Hid (specialOk c = true) := by show _ = _; rw [HV.out, HK.out, hN]; rfl
         clear hN
         go_wp2_with fail
         go_meet
         exact ⟨congrArg Value.bool (by rw [HW.out, HD.out]; rfl), hf3⟩
     ·have f2 : (kd.kind != 2) = true := by simpa using k2
      have HW : Hid (specialOk c = false) := by show _ = _; rw [HV.out, decide_eq_false k2]; rfl
      clear k2
      as_aux_lemma =>
       go_wp2_with fail
       go_meet
       exact ⟨congrArg Value.bool (by rw [HW.out, HD.out]; rfl), hf2⟩
    have e79 : (c.op == 79) = false := by simpa using o79
    have HD : Hid (decide (c.op = 79) = false) := decide_eq_false o79
    clear o79
    as_aux_lemma =>
     go_wp2_with fail
     go_meet
     exact ⟨congrArg Value.bool (by rw [HD.out]; rfl), hf2⟩
    --F>
   case rest =>
    obtain ⟨rfl, hf3⟩ := hcut
    clear ca cb hf2 hz2
    have hf2 := hf3
    clear hf3
    have hz2 := hf2.size
    have ca := hf2.2.1.cell
    have cb := hf2.2.2.cell
    cases hS : (decide (c.op = 79) && !specialOk c) with
    | true =>
      --<G
      have HV := Lib.hid (validT_special (d := d) (loop := loop) (create := create) (c := c) (by simp at hS; exact hS.2))
      clear hS
      as_aux_lemma =>
       go_wp2_with fail
       go_ret
       exact ⟨ret_bool HV.out.symm, hf2.1⟩
      --G>
    | false =>
    have H9 := Lib.hid hS
    clear hS
    go_upto_region 37 with fail
    go_cut [187] (fun v wx => v = .bool (!specialOk c) ∧ wx = wc)
    case first =>
     --<H
     by_cases o81 : c.op = 81
     ·have k11 : c.kind = 11 := by have := HL.out; simp only [headOk, Bool.and_eq_true, decide_eq_true_eq, Bool.or_eq_true] at this; omega
      have hlt : 0 < c.kids.length := by rw [(kids_op (op := c.op) k11).1, o81] at g5; have : arityLo 81 = 1 := (by decide); omega
      clear k11
      obtain ⟨g, off, kd, B, dd, rfl, hg1, hg2, hkd, hmem, hrep, c0, c1', c2', c3', c4, c5'⟩ := (hk.below hf2.1 hhi).kid hlt
      have HV := Lib.hid (special_81I o81 hkd)
      have e81 : (c.op == 81) = true := by simp [o81]
      have hlt2 : (0 : Int) < (c.kids.length : Int) := by omega
      rw [Nat.zero_mul, Nat.add_zero] at c0
      clear o81 hkd c1' c2' c3' c4 c5' hrep hmem
      by_cases k5 : kd.kind = 5
      ·have f5 : (kd.kind != 5) = false := by simp [k5]
       have HW : Hid (specialOk c = true) := by show _ = _; rw [HV.out]; exact decide_eq_true (by omega)
       clear k5
       as_aux_lemma =>
        go_wp2_with fail
        go_meet
        exact ⟨congrArg Value.bool (by rw [HW.out]; rfl), rfl⟩
      have f5 : (kd.kind != 5) = true := by simpa using k5
      by_cases k6 : kd.kind = 6
      ·have f6 : (kd.kind != 6) = false := by simp [k6]
       have HW : Hid (specialOk c = true) := by show _ = _; rw [HV.out]; exact decide_eq_true (by omega)
       clear k6
       as_aux_lemma =>
        go_wp2_with fail
        go_meet
        exact ⟨congrArg Value.bool (by rw [HW.out]; rfl), rfl⟩
      have f6 : (kd.kind != 6) = true := by simpa using k6
      have HW : Hid (specialOk c = false) := by show _ = _; rw [HV.out]; exact decide_eq_false (by omega)
      clear k5 k6
      as_aux_lemma =>
       go_wp2_with fail
       go_meet
       exact ⟨congrArg Value.bool (by rw [HW.out]; rfl), rfl⟩
     have e81 : (c.op == 81) = false := by simpa using o81
     have HW := Lib.hid (special_rest H9.out o81)
     clear o81
     as_aux_lemma =>
      go_wp2_with fail
      go_meet
      exact ⟨congrArg Value.bool (by rw [HW.out]; rfl), rfl⟩
     --H>
    case rest =>
     obtain ⟨rfl, rfl⟩ := hcut
     cases hS : specialOk c with
     | false =>
       --<I
       have HV := Lib.hid (validT_special (d := d) (loop := loop) (create := create) hS)
       clear hS
       as_aux_lemma =>
        go_wp2_with fail
        go_ret
        exact ⟨ret_bool HV.out.symm, hf2.1⟩
       --I>
     | true =>
     have HA : Hid (nodeOk d c loop create = true) := nodeOk_ofI HL.out HT.out HN.out hS
     clear hS HL HT HN H9
     go_wp2_with fail
     go_loopw [191] (fun i wr => ∃ k : Nat, k ≤ c.kids.length ∧ i = .int .i64 k ∧ Hid (∀ j y, j < k → c.kids[j]? = some y → validT d y (innerB c.kind j loop) (create || decide (c.kind = 26)) = true) ∧ IFrm w wr #[.int .i64 d.slots, .int .i64 d.globals, .int .i64 d.routines, .int .i64 d.records] #[.int .i64 c.kind, .int .i64 c.op, .int .i64 c.number, .int .i64 c.line, .string c.text, .slice A c.kids.length cap]) (fun i _ => c.kids.length - (intOf i).toNat)
     case atStart => exact ⟨0, Nat.zero_le _, rfl, (fun j y hj => absurd hj (by omega)), hf2⟩
     case round =>
      clear ca cb hf2 hz2
      obtain ⟨kk, hk', rfl, hgo, hf⟩ := hrel
      obtain ⟨wo, rfl⟩ : ∃ wo : World, wo = wr := ⟨_, rfl⟩
      have hz := hf.size
      have ca := hf.2.1.cell
      have cb := hf.2.2.cell
      by_cases hlt : kk < c.kids.length
      ·obtain ⟨g, off, kd, B, dd, rfl, hg1, hg2, hkd, hmem, hrep, k0, k1, k2, k3, k4, k5⟩ := (hk.below hf.1 hhi).kid hlt
       have HS := Lib.hid (HH.out kd hmem)
       have hbm := bulk_mem hmem
       have HK := Lib.hid hkd
       have HM := Lib.hid hrep
       clear hkd hmem hrep
       go_upto_block 3 with fail
       go_cut [16] from 199 to 218 (fun v wx => v = .bool (innerB c.kind kk loop) ∧ wx = wo.alloc (.cells #[.int .i64 kd.kind, .int .i64 kd.op, .int .i64 kd.number, .int .i64 kd.line, .string kd.text, .slice B kd.kids.length dd] 45))
       case first =>
        --<J
        by_cases k : c.kind = 18
        ·have HI := Lib.hid (innerB_yesI kk loop (show c.kind = 18 ∨ c.kind = 19 by omega))
         have e18 : (c.kind == 18) = true := by simp [k]
         have e19 : (c.kind == 19) = false := by simp; omega
         have ka : 18 ≤ c.kind := by omega
         have kb : c.kind ≤ 18 := by omega
         clear k
         as_aux_lemma =>
          go_wp2_with fail
          go_meet
          exact ⟨congrArg Value.bool (by rw [HI.out, Bool.eq_iff_iff]; simp <;> omega), rfl⟩
        have n18 : ¬ c.kind = 18 := k
        clear k
        by_cases k : c.kind = 19
        ·have HI := Lib.hid (innerB_yesI kk loop (show c.kind = 18 ∨ c.kind = 19 by omega))
         have e18 : (c.kind == 18) = false := by simp; omega
         have e19 : (c.kind == 19) = true := by simp [k]
         have ka : 19 ≤ c.kind := by omega
         have kb : c.kind ≤ 19 := by omega
         clear k
         as_aux_lemma =>
          go_wp2_with fail
          go_meet
          exact ⟨congrArg Value.bool (by rw [HI.out, Bool.eq_iff_iff]; simp <;> omega), rfl⟩
        have n19 : ¬ c.kind = 19 := k
        clear k
        by_cases k : c.kind = 20
        ·have HI := Lib.hid (innerB_off kk loop (show c.kind = 20 ∨ c.kind = 26 by omega))
         have e18 : (c.kind == 18) = false := by simp; omega
         have e19 : (c.kind == 19) = false := by simp; omega
         have e20 : (c.kind == 20) = true := by simp [k]
         have e26 : (c.kind == 26) = false := by simp; omega
         have ka : 20 ≤ c.kind := by omega
         have kb : c.kind ≤ 20 := by omega
         clear k
         as_aux_lemma =>
          go_wp2_with fail
          go_meet
          exact ⟨congrArg Value.bool HI.out.symm, rfl⟩
        have n20 : ¬ c.kind = 20 := k
        clear k
        by_cases k : c.kind = 26
        ·have HI := Lib.hid (innerB_off kk loop (show c.kind = 20 ∨ c.kind = 26 by omega))
         have e18 : (c.kind == 18) = false := by simp; omega
         have e19 : (c.kind == 19) = false := by simp; omega
         have e20 : (c.kind == 20) = false := by simp; omega
         have e26 : (c.kind == 26) = true := by simp [k]
         have ka : 26 ≤ c.kind := by omega
         have kb : c.kind ≤ 26 := by omega
         clear k
         as_aux_lemma =>
          go_wp2_with fail
          go_meet
          exact ⟨congrArg Value.bool HI.out.symm, rfl⟩
        have n26 : ¬ c.kind = 26 := k
        clear k
        have HI := Lib.hid (innerB_other (k := c.kind) kk loop (by omega) (by omega))
        have e18 : (c.kind == 18) = false := by simpa using n18
        have e19 : (c.kind == 19) = false := by simpa using n19
        have e20 : (c.kind == 20) = false := by simpa using n20
        have e26 : (c.kind == 26) = false := by simpa using n26
        as_aux_lemma =>
         go_wp2_with fail
         go_meet
         exact ⟨congrArg Value.bool HI.out.symm, rfl⟩
        --J>
       case rest =>
        obtain ⟨rfl, hwc⟩ := hcut
        have hf3 := hf.alloc (.cells #[.int .i64 kd.kind, .int .i64 kd.op, .int .i64 kd.number, .int .i64 kd.line, .string kd.text, .slice B kd.kids.length dd] 45)
        have hx := Blk.new wo 45 #[.int .i64 kd.kind, .int .i64 kd.op, .int .i64 kd.number, .int .i64 kd.line, .string kd.text, .slice B kd.kids.length dd]
        have hm3 := HM.out.alloc (Nat.le_trans hhi hf.1.size) (.cells #[.int .i64 kd.kind, .int .i64 kd.op, .int .i64 kd.number, .int .i64 kd.line, .string kd.text, .slice B kd.kids.length dd] 45)
        rw [← hwc] at hf3 hx hm3
        clear hwc ca cb k0 k1 k2 k3 k4 k5 hf hz
        have ca := hf3.2.1.cell
        have cb := hf3.2.2.cell
        have cx := hx.cell
        have y1 : hi ≤ wc.heap.size := Nat.le_trans hhi hf3.1.size
        have kbk : kd.bulk ≤ 1048576 := by have := c.bulk_eq; omega
        cases create with
        | true =>
          --<Mt
          as_aux_lemma =>
           obtain ⟨r, hr⟩ : ∃ r, validT d kd (innerB c.kind kk loop) (true || decide (c.kind = 26)) = r := ⟨_, rfl⟩
           have HR := Lib.hid hr
           clear hr
           go_wp2_with fail
           refine (HS.out _ (innerB c.kind kk loop) (true || decide (c.kind = 26)) _ lo hi hm3 y1 (hst.below hf3.1 hst.2) kbk).mono ?_
           rw [HR.out]
           rintro e wA ⟨rfl, hbA⟩
           have hf4 := hf3.later hbA
           clear ca cb cx hm3 hbA
           cases r with
           | false =>
             have HV := Lib.hid (validT_kid (create := true) HK.out HR.out)
             clear HR
             as_aux_lemma =>
              go_wp2_with fail
              go_ret
              exact ⟨ret_bool HV.out.symm, hf4.1⟩
           | true =>
             have HG := Lib.hid (validT_upto (create := true) hgo.out HK.out HR.out)
             clear HR hgo
             as_aux_lemma =>
              go_wp2_with fail
              go_roundw
              case rel => first | exact ⟨kk + 1, by omega, by go_num, HG, hf4⟩ | ((repeat apply Exists.intro); refine ⟨?_, ?_⟩; rotate_left; rfl; exact ⟨kk + 1, by omega, by go_num, HG, hf4⟩)
              case measure => simp [intOf]; omega
          --Mt>
        | false =>
          --<Mf
          as_aux_lemma =>
           obtain ⟨r, hr⟩ : ∃ r, validT d kd (innerB c.kind kk loop) (false || decide (c.kind = 26)) = r := ⟨_, rfl⟩
           have HR := Lib.hid hr
           clear hr
           go_wp2_with fail
           refine (HS.out _ (innerB c.kind kk loop) (false || decide (c.kind = 26)) _ lo hi hm3 y1 (hst.below hf3.1 hst.2) kbk).mono ?_
           rw [HR.out]
           rintro e wA ⟨rfl, hbA⟩
           have hf4 := hf3.later hbA
           clear ca cb cx hm3 hbA
           cases r with
           | false =>
             have HV := Lib.hid (validT_kid (create := false) HK.out HR.out)
             clear HR
             as_aux_lemma =>
              go_wp2_with fail
              go_ret
              exact ⟨ret_bool HV.out.symm, hf4.1⟩
           | true =>
             have HG := Lib.hid (validT_upto (create := false) hgo.out HK.out HR.out)
             clear HR hgo
             as_aux_lemma =>
              go_wp2_with fail
              go_roundw
              case rel => first | exact ⟨kk + 1, by omega, by go_num, HG, hf4⟩ | ((repeat apply Exists.intro); refine ⟨?_, ?_⟩; rotate_left; rfl; exact ⟨kk + 1, by omega, by go_num, HG, hf4⟩)
              case measure => simp [intOf]; omega
          --Mf>
      ·obtain rfl : kk = c.kids.length := by omega
       have HV := Lib.hid (validT_all HA.out hgo.out)
       clear hgo
       as_aux_lemma =>
        go_wp2_with fail
        go_ret
        exact ⟨ret_bool HV.out.symm, hf.1⟩
theorem impl_validCore (d : WdT) (c : CoreT) : ValidIOk d c := CoreT.ind (impl_validCore_of d) c
end Go.Proofs.YtjeomamdlmoghaaGreatDoor
end
