/- What VerifyCode answers: words for both sides. -/
import Derived.Test.YtekobbeoaalibaaGreatDoorVerMem
namespace Go.Proofs.YtekobbeoaalibaaGreatDoor
open Go.RowKit
set_option linter.unusedVariables false

/-- what is known of a valid code -/
structure CodeV (c : CodeT) : Prop where
  n1 : 0 < c.instrs.length
  n2 : c.instrs.length ≤ 60000
  r2 : c.routines.length ≤ 12
  ros : ∀ r ∈ c.routines, 0 ≤ r.slots ∧ r.slots ≤ 24 ∧ 0 ≤ r.entry ∧ r.entry < c.instrs.length
  ins : ∀ x ∈ c.instrs, InsV c.instrs.length x
def verOf (vb : Bool) (c : CodeT) : Option (List ByteArray) := if vb = true then verdict c else none
/-- the answer of VerifyCode: the shapes in a row of the call's own, or nil -/
def VerPost (r : Option (List ByteArray)) (w : World) (e : Ending) (w' : World) : Prop := ∃ v, e = .returned (.tuple #[v, .bool r.isSome]) ∧ Below w.heap.size w w' ∧ ∀ l, r = some l → w'.ownsRow w.heap.size 9 1 v l.length (l.map .string)
def VerNil (r : Option (List ByteArray)) (e : Ending) : Prop := r = none → e = .returned (.tuple #[.slice none 0 0, .bool false])
theorem start_step {rs : List CRoT} {r : CRoT} {st : St} {q : St × Bool} (h : startsP rs st = if q.2 = true then none else some q.1) : startsP (rs ++ [r]) st = if (giveP q r.entry (startS r)).2 = true then none else some (giveP q r.entry (startS r)).1 := by
  rw [startsP_snoc, h]
  obtain ⟨s, b⟩ := q
  cases b with
  | true => rw [if_pos rfl, if_pos (giveP_bad rfl)]; rfl
  | false =>
    rw [if_neg (by simp), Option.bind_some]
    cases hr : reach s r.entry (startS r) with
    | none =>
      have e1 : giveP (s, false) r.entry (startS r) = (s, true) := by unfold giveP; rw [hr]
      rw [e1]; rfl
    | some s1 =>
      have e1 : giveP (s, false) r.entry (startS r) = (s1, false) := by unfold giveP; rw [hr]
      rw [e1]; rfl
theorem own_low {w : World} {base base' : Nat} {e : TypeId} {size n : Nat} {v : Value} {xs : List Value} (h : w.ownsRow base e size v n xs) (hb : base' ≤ base) : w.ownsRow base' e size v n xs := by
  refine ⟨h.1, ?_⟩
  rcases h.2 with h | ⟨g, cap, cur, h1, h2, h3⟩
  · exact .inl h
  · exact .inr ⟨g, cap, cur, h1, Nat.le_trans hb h2, h3⟩
theorem ver_no {r : Option (List ByteArray)} {w w' : World} {e : Ending} (hr : r = none) (hb : Below w.heap.size w w') (he : e = .returned (.tuple #[.slice none 0 0, .bool false])) : VerPost r w e w' ∧ VerNil r e := by
  subst hr
  exact ⟨⟨_, he, hb, fun l hl => by cases hl⟩, fun _ => he⟩
theorem ver_yes {r : Option (List ByteArray)} {l : List ByteArray} {v : Value} {w w' : World} {e : Ending} (hr : r = some l) (hb : Below w.heap.size w w') (he : e = .returned (.tuple #[v, .bool true])) (ho : w'.ownsRow w.heap.size 9 1 v l.length (l.map .string)) : VerPost r w e w' ∧ VerNil r e := by
  subst hr
  exact ⟨⟨v, he, hb, fun l hl => by injection hl with hl; subst hl; exact ho⟩, fun h => by cases h⟩
theorem run_step {n : Nat} {c : List InsT} {sh : List ByteArray} {ws : List Nat} {i : Nat} {q : St × Bool} (h : Inv n ⟨sh, ws ++ [i]⟩) (hs : step c ⟨sh, ws⟩ i = if q.2 = true then none else some q.1) :
    verd c ⟨sh, ws ++ [i]⟩ = (if q.2 = true then none else verd c q.1) ∧ (if q.2 = true then 0 else q.1.mu + 1) < (St.mk sh (ws ++ [i])).mu + 1 := by
  obtain ⟨s1, b⟩ := q
  cases b with
  | true =>
    rw [if_pos rfl] at hs ⊢
    rw [if_pos rfl]
    exact ⟨verd_bad hs, by omega⟩
  | false =>
    rw [if_neg (by simp)] at hs ⊢
    rw [if_neg (by simp)]
    obtain ⟨h1, h2, h3⟩ := verd_go h hs
    exact ⟨h1, by omega⟩
theorem Rows.todo {w0 wr : World} {n : Nat} {st : St} {sv tv : Value} (h : Rows w0 wr n st sv tv) : ∃ A cap, tv = .slice A st.wk.length cap ∧ st.wk.length ≤ cap ∧ cap ≤ maxLen := by
  rcases h.tdo.2 with ⟨rfl, h0⟩ | ⟨g, cap, cur, rfl, hb, hg, h1, h2, _⟩
  · exact ⟨none, 0, by rw [h0], by omega, by unfold maxLen; omega⟩
  · exact ⟨_, cap, rfl, h1, h2⟩
end Go.Proofs.YtekobbeoaalibaaGreatDoor
