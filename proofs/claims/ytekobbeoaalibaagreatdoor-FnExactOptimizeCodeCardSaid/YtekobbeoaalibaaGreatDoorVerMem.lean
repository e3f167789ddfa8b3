/- The verifier's memory: the row of shapes and the row of work, both of the call's own making. No program. -/
import Derived.Test.YtekobbeoaalibaaGreatDoorVer
import Derived.OneCell
import Derived.WalkSmall
namespace Go.Proofs.YtekobbeoaalibaaGreatDoor
open Go.RowKit
set_option linter.unusedVariables false

/-- the two rows lie in blocks of their own -/
def Two (v u : Value) : Prop := ∀ k, v.ownBlock = some k → u.ownBlock ≠ some k
theorem Two.symm {v u : Value} (h : Two v u) : Two u v := fun k hk e => h k e hk
theorem Two.ne {v u : Value} (h : Two v u) : v.ownBlock = none ∨ v.ownBlock ≠ u.ownBlock := by
  cases e : v.ownBlock with
  | none => exact .inl rfl
  | some k => exact .inr fun e2 => h k e e2.symm
def wkVals (l : List Nat) : List Value := l.map fun i : Nat => Value.int .i64 (i : Int)
theorem wkVals_len (l : List Nat) : (wkVals l).length = l.length := by simp [wkVals]
theorem wkVals_snoc (l : List Nat) (i : Nat) : wkVals (l ++ [i]) = wkVals l ++ [Value.int .i64 (i : Int)] := by simp [wkVals]
structure Rows (w0 wr : World) (n : Nat) (st : St) (sv tv : Value) : Prop where
  sho : wr.ownsRow w0.heap.size 9 1 sv n (st.sh.map Value.string)
  tdo : wr.ownsRow w0.heap.size 3 1 tv st.wk.length (wkVals st.wk)
  bel : Below w0.heap.size w0 wr
  two : Two sv tv
section
variable {w0 wr w2 : World} {n g cap p : Nat} {st : St} {sv tv : Value}
theorem Rows.len (h : Rows w0 wr n st sv tv) : st.sh.length = n := by have := h.sho.1; simpa using this
theorem Rows.later (h : Rows w0 wr n st sv tv) (hb : Below wr.heap.size wr w2) : Rows w0 w2 n st sv tv := ⟨own_later h.sho hb, own_later h.tdo hb, h.bel.trans (hb.mono h.bel.size), h.two⟩
theorem Rows.alloc (h : Rows w0 wr n st sv tv) (o : Obj) : Rows w0 (wr.alloc o) n st sv tv := h.later ((Below.refl _ _).alloc (Nat.le_refl _) o)
theorem Rows.same (h : Rows w0 wr n st sv tv) (hs : Same wr w2) : Rows w0 w2 n st sv tv := h.later (hs.below _)
theorem Rows.form (h : Rows w0 wr n st sv tv) (hn : 0 < n) : ∃ g cap, sv = .slice (some ⟨g, 0, none⟩) n cap ∧ w0.heap.size ≤ g ∧ g < wr.heap.size ∧ n ≤ cap ∧ cap ≤ maxLen := by
  rcases h.sho.2 with ⟨rfl, rfl⟩ | ⟨g, cap, cur, rfl, hb, hg, h1, h2, _⟩
  · exact absurd hn (by omega)
  · exact ⟨g, cap, rfl, hb, (Array.getElem?_eq_some_iff.1 hg).1, h1, h2⟩
theorem Rows.cell (h : Rows w0 wr n st (.slice (some ⟨g, 0, none⟩) n cap) tv) (hp : p < n) : wr.cell? ⟨g, p, none⟩ = some (.string (st.at_ p)) := by
  rw [h.sho.cellAt p (by omega), List.getElem?_map, at_lt (by rw [h.len]; exact hp)]; rfl
theorem Rows.frozen (h : Rows w0 wr n st (.slice (some ⟨g, 0, none⟩) n cap) tv) (p : Nat) : wr.frozen? ⟨g, p, none⟩ = false := h.sho.frozenAt p
theorem Rows.setSh (h : Rows w0 wr n st (.slice (some ⟨g, 0, none⟩) n cap) tv) (s : ByteArray) (p : Nat) : Rows w0 (wr.setCell ⟨g, p, none⟩ (.string s)) n ⟨st.sh.set p s, st.wk⟩ (.slice (some ⟨g, 0, none⟩) n cap) tv := by
  have hg : w0.heap.size ≤ g := (h.sho.lt g rfl).1
  refine ⟨?_, ownsRow_setCell_other h.tdo (h.two g rfl) _, h.bel.setCell hg _, h.two⟩
  have := (h.sho.stored p (.string s)).1
  rwa [← List.map_set] at this
theorem Rows.push {tv' : Value} {i : Nat} (h : Rows w0 wr n st sv tv) (ho : w2.ownsRow w0.heap.size 3 1 tv' (st.wk.length + 1) (wkVals st.wk ++ [.int .i64 (i : Int)])) (hg : wr.grownBy w2 tv.ownBlock) (hat : tv'.ownBlock = tv.ownBlock ∨ tv'.ownBlock = some (wr.heap.size + 1)) :
    Rows w0 w2 n ⟨st.sh, st.wk ++ [i]⟩ sv tv' := by
  refine ⟨h.sho.kept hg h.two.ne, ?_, below_push h.bel h.bel.size h.tdo hg, ?_⟩
  · rw [wkVals_snoc, List.length_append]; exact ho
  · intro k hk e
    rcases hat with h1 | h1
    · rw [h1] at e; exact h.two k hk e
    · rw [h1] at e; injection e with e; have := (h.sho.lt k hk).2; omega
theorem Rows.pop {sh : List ByteArray} {ws : List Nat} {i : Nat} (h : Rows w0 wr n ⟨sh, ws ++ [i]⟩ sv tv) :
    ∃ g cap, tv = .slice (some ⟨g, 0, none⟩) (ws.length + 1) cap ∧ g < wr.heap.size ∧ w0.heap.size ≤ g ∧ ws.length + 1 ≤ cap ∧ cap ≤ maxLen ∧ wr.cell? ⟨g, ws.length, none⟩ = some (.int .i64 (i : Int)) ∧ Rows w0 wr n ⟨sh, ws⟩ sv (.slice (some ⟨g, 0, none⟩) ws.length cap) := by
  have ht := h.tdo
  simp only [wkVals_snoc, List.length_append, List.length_singleton] at ht
  rcases ht.2 with ⟨rfl, h0⟩ | ⟨g, cap, cur, rfl, hb, hg, h1, h2, _⟩
  · omega
  · refine ⟨g, cap, rfl, (Array.getElem?_eq_some_iff.1 hg).1, hb, h1, h2, ?_, h.sho, ?_, h.bel, h.two⟩
    · rw [ht.cellAt ws.length (by omega), List.getElem?_append_right (by rw [wkVals_len]; exact Nat.le_refl _), wkVals_len, Nat.sub_self]; rfl
    · exact ownsRow_pop (by rw [wkVals_len, Nat.mul_one]) ht
end
/-- what a give leaves: the state, the mark 'bad' -/
def giveP (q : St × Bool) (p : Int) (s : ByteArray) : St × Bool := match reach q.1 p s with
  | some s1 => (s1, q.2)
  | none => (q.1, true)
theorem giveP_inv {n : Nat} {q : St × Bool} {p : Int} {s : ByteArray} (h : Inv n q.1) (hs : Fit n (empties q.1.sh) s) : Inv n (giveP q p s).1 ∧ empties (giveP q p s).1.sh ≤ empties q.1.sh := by
  unfold giveP
  cases hr : reach q.1 p s with
  | none => exact ⟨h, Nat.le_refl _⟩
  | some s1 => have := reach_inv h hs hr; exact ⟨this.1, this.2.2.1⟩
theorem giveP_bad {q : St × Bool} {p : Int} {s : ByteArray} (h : q.2 = true) : (giveP q p s).2 = true := by
  unfold giveP; split
  · exact h
  · rfl
theorem giveP_nil (q : St × Bool) (p : Int) : giveP q p ⟨#[]⟩ = q := by
  unfold giveP reach; rw [if_pos size_nil]
theorem step_q {c : List InsT} {st : St} {i : Nat} {x : InsT} {ok bk : Bool} {nx lb nx' lb' : ByteArray} (hb : backB c i x = bk) (ha : after x (st.at_ i) = if ok = true then some (nx, lb) else none) (hn : ok = true → nx' = nx) (hl : ok = true → lb' = lb) :
    stepAt c st i x = if (giveP (giveP (st, bk || !ok) ((i : Int) + 1) nx') x.a lb').2 = true then none else some (giveP (giveP (st, bk || !ok) ((i : Int) + 1) nx') x.a lb').1 := by
  unfold stepAt
  rw [hb]
  cases bk with
  | true => rw [if_pos rfl, if_pos (giveP_bad (giveP_bad rfl))]
  | false =>
    rw [if_neg (by decide), ha]
    cases ok with
    | false => rw [if_neg (by decide), if_pos (giveP_bad (giveP_bad rfl))]
    | true =>
      obtain rfl := hn rfl
      obtain rfl := hl rfl
      rw [if_pos rfl]
      simp only [Bool.not_true, Bool.or_false]
      cases h1 : reach st ((i : Int) + 1) nx' with
      | none =>
        have e1 : giveP (st, false) ((i : Int) + 1) nx' = (st, true) := by unfold giveP; rw [h1]
        rw [e1, if_pos (giveP_bad rfl)]; rfl
      | some s1 =>
        have e1 : giveP (st, false) ((i : Int) + 1) nx' = (s1, false) := by unfold giveP; rw [h1]
        rw [e1, Option.bind_some]
        cases h2 : reach s1 x.a lb' with
        | none =>
          have e2 : giveP (s1, false) x.a lb' = (s1, true) := by unfold giveP; rw [h2]
          rw [e2]; rfl
        | some s2 =>
          have e2 : giveP (s1, false) x.a lb' = (s2, false) := by unfold giveP; rw [h2]
          rw [e2]; rfl
/-- a shape without an end, or itself -/
def cutE (s t : ByteArray) : ByteArray := if endsB s t = true then cutN s t.size else s
theorem cutE_yes {s t : ByteArray} (h : endsB s t = true) : cutE s t = cutN s t.size := if_pos h
theorem cutE_size (s t : ByteArray) (h : 0 < s.size) : 0 < (cutE s t).size ∧ (cutE s t).size ≤ s.size := by
  unfold cutE; split
  · rename_i he; have := ends_size he; rw [cut_size]; omega
  · omega
theorem cutE_good {s t : ByteArray} (h : goodB s = true) : goodB (cutE s t) = true := by
  unfold cutE; split
  · rename_i he; exact good_cut h (ends_size he)
  · exact h
theorem fit_app {n k : Nat} {s : ByteArray} (hg : goodB s = true) (hk : s.size + k ≤ n + 1) (b : UInt8) : Fit n k (s ++ ⟨#[b]⟩) := fun _ => ⟨good_append _ _ hg, by rw [ByteArray.size_append, size_one]; omega⟩
theorem fit_self {n k : Nat} {s : ByteArray} (hg : goodB s = true) (hk : s.size + k ≤ n + 1) : Fit n k s := fun _ => ⟨hg, by omega⟩
theorem Fit.less {n k k' : Nat} {s : ByteArray} (h : Fit n k s) (hk : k' ≤ k) : Fit n k' s := fun hp => ⟨(h hp).1, by have := (h hp).2; omega⟩
/-- what is known of a valid instruction -/
structure InsV (n : Nat) (x : InsT) : Prop where
  op : 1 ≤ x.op ∧ x.op ≤ 30
  lab : jumpB x.op = true → (0 ≤ x.a ∧ x.a < n) ∨ (x.op = 13 ∧ x.a = -1)
  arg : x.op = 11 ∨ x.op = 12 → 0 ≤ x.b ∧ x.b ≤ 9
theorem back_no {c : List InsT} {i : Nat} {x : InsT} (h : jumpB x.op = false) : backB c i x = false := by unfold backB; rw [h]; rfl
theorem back_far {c : List InsT} {i : Nat} {x : InsT} (h : ¬ (0 ≤ x.a ∧ x.a ≤ i)) : backB c i x = false := by unfold backB; rw [decide_eq_false h, Bool.and_false, Bool.false_and]
theorem back_at {c : List InsT} {i : Nat} {x y : InsT} (hj : jumpB x.op = true) (h : 0 ≤ x.a ∧ x.a ≤ i) (hy : c[x.a.toNat]? = some y) : backB c i x = !(y.op == 18) := by unfold backB; rw [hj, decide_eq_true h, hy]; rfl
/-- other boxes that must stay as they are: number, type, cells -/
abbrev Boxes := List (Nat × TypeId × Array Value)
/-- the program's verifier: its box -/
structure VB (w0 wr : World) (n b : Nat) (v0 v1 v2 v3 : Value) (Ai : Option Addr) (ni : Nat) (E : Boxes) (q : St × Bool) (sv tv : Value) : Prop where
  rows : Rows w0 wr n q.1 sv tv
  box : Blk wr b 85 #[v0, v1, v2, v3, .slice Ai n ni, sv, tv, .bool q.2]
  hb : w0.heap.size ≤ b
  f1 : sv.ownBlock ≠ some b
  f2 : tv.ownBlock ≠ some b
  ex : ∀ x ∈ E, Blk wr x.1 x.2.1 x.2.2 ∧ sv.ownBlock ≠ some x.1 ∧ tv.ownBlock ≠ some x.1 ∧ x.1 ≠ b
section
variable {w0 wr w2 : World} {n b ni : Nat} {v0 v1 v2 v3 : Value} {Ai : Option Addr} {E : Boxes} {q : St × Bool} {sv tv : Value}
theorem VB.later (h : VB w0 wr n b v0 v1 v2 v3 Ai ni E q sv tv) (hb : Below wr.heap.size wr w2) : VB w0 w2 n b v0 v1 v2 v3 Ai ni E q sv tv := ⟨h.rows.later hb, h.box.later hb, h.hb, h.f1, h.f2, fun x hx => ⟨(h.ex x hx).1.later hb, (h.ex x hx).2⟩⟩
theorem VB.alloc (h : VB w0 wr n b v0 v1 v2 v3 Ai ni E q sv tv) (o : Obj) : VB w0 (wr.alloc o) n b v0 v1 v2 v3 Ai ni E q sv tv := h.later ((Below.refl _ _).alloc (Nat.le_refl _) o)
theorem VB.same (h : VB w0 wr n b v0 v1 v2 v3 Ai ni E q sv tv) (hs : Same wr w2) : VB w0 w2 n b v0 v1 v2 v3 Ai ni E q sv tv := h.later (hs.below _)
theorem VB.less (h : VB w0 wr n b v0 v1 v2 v3 Ai ni E q sv tv) : VB w0 wr n b v0 v1 v2 v3 Ai ni [] q sv tv := ⟨h.rows, h.box, h.hb, h.f1, h.f2, fun x hx => by cases hx⟩
theorem VB.more (h : VB w0 wr n b v0 v1 v2 v3 Ai ni E q sv tv) (cs : Array Value) (t : TypeId) : VB w0 (wr.alloc (.cells cs t)) n b v0 v1 v2 v3 Ai ni ((wr.heap.size, t, cs) :: E) q sv tv := by
  have h' := h.alloc (.cells cs t)
  refine ⟨h'.rows, h'.box, h.hb, h.f1, h.f2, fun x hx => ?_⟩
  rcases List.mem_cons.1 hx with rfl | hx
  · refine ⟨Blk.new wr t cs, fun e => ?_, fun e => ?_, ?_⟩
    · have := (h.rows.sho.lt _ e).2; simp at this
    · have := (h.rows.tdo.lt _ e).2; simp at this
    · have := h.box.lt; simp; omega
  · exact h'.ex x hx
theorem VB.one {k : Nat} {t : TypeId} {cs : Array Value} (h : VB w0 wr n b v0 v1 v2 v3 Ai ni ((k, t, cs) :: E) q sv tv) : Blk wr k t cs := (h.ex _ List.mem_cons_self).1
/-- a store into the box -/
theorem Rows.box_ {st : St} (h : Rows w0 wr n st sv tv) (hb : w0.heap.size ≤ b) (f1 : sv.ownBlock ≠ some b) (f2 : tv.ownBlock ≠ some b) (i : Nat) (u : Value) : Rows w0 (wr.setCell ⟨b, i, none⟩ u) n st sv tv :=
  ⟨ownsRow_setCell_other h.sho f1 _, ownsRow_setCell_other h.tdo f2 _, h.bel.setCell hb _, h.two⟩
theorem VB.bad (h : VB w0 wr n b v0 v1 v2 v3 Ai ni E q sv tv) : VB w0 (wr.setCell ⟨b, 7, none⟩ (.bool true)) n b v0 v1 v2 v3 Ai ni E (q.1, true) sv tv :=
  ⟨h.rows.box_ h.hb h.f1 h.f2 _ _, h.box.set_ 7 _, h.hb, h.f1, h.f2, fun x hx => ⟨(h.ex x hx).1.far (h.ex x hx).2.2.2 _, (h.ex x hx).2⟩⟩
theorem VB.setSh {g cap : Nat} (h : VB w0 wr n b v0 v1 v2 v3 Ai ni E q (.slice (some ⟨g, 0, none⟩) n cap) tv) (s : ByteArray) (p : Nat) : VB w0 (wr.setCell ⟨g, p, none⟩ (.string s)) n b v0 v1 v2 v3 Ai ni E (⟨q.1.sh.set p s, q.1.wk⟩, q.2) (.slice (some ⟨g, 0, none⟩) n cap) tv :=
  ⟨h.rows.setSh s p, h.box.far (fun e => h.f1 (by rw [e]; rfl)) _, h.hb, h.f1, h.f2, fun x hx => ⟨(h.ex x hx).1.far (fun e => (h.ex x hx).2.1 (by rw [e]; rfl)) _, (h.ex x hx).2⟩⟩
theorem VB.push {tv' : Value} {i : Nat} (h : VB w0 wr n b v0 v1 v2 v3 Ai ni E q sv tv) (ho : w2.ownsRow w0.heap.size 3 1 tv' (q.1.wk.length + 1) (wkVals q.1.wk ++ [.int .i64 (i : Int)])) (hg : wr.grownBy w2 tv.ownBlock) (hat : tv'.ownBlock = tv.ownBlock ∨ tv'.ownBlock = some (wr.heap.size + 1)) :
    VB w0 (w2.setCell ⟨b, 6, none⟩ tv') n b v0 v1 v2 v3 Ai ni E (⟨q.1.sh, q.1.wk ++ [i]⟩, q.2) sv tv' := by
  have f2' : ∀ k, tv.ownBlock ≠ some k → k < wr.heap.size → tv'.ownBlock ≠ some k := fun k hk hl e => by
    rcases hat with h1 | h1
    · rw [h1] at e; exact hk e
    · rw [h1] at e; injection e with e; omega
  have hf2 := f2' b h.f2 h.box.lt
  exact ⟨(h.rows.push ho hg hat).box_ h.hb h.f1 hf2 _ _, (h.box.grown hg (Ne.symm h.f2)).set_ 6 _, h.hb, h.f1, hf2, fun x hx => by
    obtain ⟨x1, x2, x3, x4⟩ := h.ex x hx
    exact ⟨(x1.grown hg (Ne.symm x3)).far x4 _, x2, f2' _ x3 x1.lt, x4⟩⟩
end
/-- what a method of the verifier leaves -/
def VPost (w0 : World) (n b : Nat) (v0 v1 v2 v3 : Value) (Ai : Option Addr) (ni : Nat) (E : Boxes) (q : St × Bool) (w' : World) : Prop := ∃ sv tv, VB w0 w' n b v0 v1 v2 v3 Ai ni E q sv tv
theorem eEmpty {s : ByteArray} (h : s.size = 0) : s.toList.isEmpty = true := by
  rw [ByteArray.toList_eq, List.isEmpty_iff]; exact List.eq_nil_of_length_eq_zero ((Array.length_toList (xs := s.data)).trans h)
theorem eFull {s : ByteArray} (h : ¬ s.size = 0) : s.toList.isEmpty = false := by
  rw [Bool.eq_false_iff, ByteArray.toList_eq, ne_eq, List.isEmpty_iff]
  intro hn
  exact h ((Array.length_toList (xs := s.data)).symm.trans (by rw [hn]; rfl))
end Go.Proofs.YtekobbeoaalibaaGreatDoor
