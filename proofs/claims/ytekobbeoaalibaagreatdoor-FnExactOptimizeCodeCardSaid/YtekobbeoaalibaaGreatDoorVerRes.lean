/- VerifyCode of both sides: the answer as data of the call's own. -/
import Derived.Test.YtekobbeoaalibaaGreatDoorIsVer
import Derived.Test.YtekobbeoaalibaaGreatDoorOwn
namespace Go.Proofs.YtekobbeoaalibaaGreatDoor
open Go.RowKit
set_option linter.unusedVariables false

noncomputable def verL (c : CodeT) : List ByteArray := (verC c).getD []
noncomputable def verB (c : CodeT) : Bool := (verC c).isSome
/-- the shapes in a row of the call's own, and whether there are any -/
def VerRes (c : CodeT) (w : World) (e : Ending) (w' : World) : Prop := ∃ v, e = .returned (.tuple #[v, .bool (verB c)]) ∧ OwnLR w' w.heap.size w'.heap.size 1 strDats v (verL c) ∧ Below w.heap.size w w'
theorem VerRes.of {c : CodeT} {w w' : World} {e : Ending} (h : VerPost (verC c) w e w' ∧ VerNil (verC c) e) : VerRes c w e w' := by
  obtain ⟨⟨v, he, hb, ho⟩, hn⟩ := h
  unfold VerRes verL verB
  cases hr : verC c with
  | none =>
    rw [hr] at he
    refine ⟨.slice none 0 0, hn hr, ?_, hb⟩
    exact OwnLR.texts (l := []) (World.ownsRow_nil _ _ 9 _) (Nat.le_refl _)
  | some l =>
    rw [hr] at he
    exact ⟨v, he, OwnLR.texts (ho l hr) (Nat.le_refl _), hb⟩
theorem impl_VerifyR (c : CodeT) (x : Value) (w : World) (lo hi : Nat) (h : SRep w lo hi CodeT.dats x c) (hhi : hi ≤ w.heap.size) (hst : SpaceTab w) (htx : ∀ y ∈ c.instrs, y.text.size ≤ 1048576) :
    Calls Tryz.prog 15 #[x] w (VerRes c w) := (impl_VerifyCode' c x w lo hi h hhi hst htx).mono fun _ _ => VerRes.of
theorem spec_VerifyR (c : CodeT) (x : Value) (w : World) (lo hi : Nat) (h : SRep w lo hi CodeT.dats x c) (hhi : hi ≤ w.heap.size) (htx : ∀ y ∈ c.instrs, y.text.size ≤ 1048576) :
    Calls Tryz.prog 14 #[x] w (VerRes c w) := (spec_VerifyCode' c x w lo hi h hhi htx).mono fun _ _ => VerRes.of
theorem reach_len {st s1 : St} {p : Int} {s : ByteArray} (h : reach st p s = some s1) : s1.sh.length = st.sh.length := by
  unfold reach at h
  split at h
  · injection h with h; rw [h]
  · split at h
    · cases h
    · split at h
      · injection h with h; subst h; simp
      · split at h
        · injection h with h; rw [h]
        · cases h
theorem step_len {c : List InsT} {st s1 : St} {i : Nat} (h : step c st i = some s1) : s1.sh.length = st.sh.length := by
  unfold step at h
  split at h
  · cases h
  · unfold stepAt at h
    split at h
    · cases h
    · split at h
      · cases h
      · obtain ⟨s2, h1, h2⟩ := Option.bind_eq_some_iff.1 h
        rw [reach_len h2, reach_len h1]
theorem runV_len {c : List InsT} : ∀ (f : Nat) {st : St} {l : List ByteArray}, runV c f st = some l → l.length = st.sh.length
  | 0, st, l, h => by simp only [runV] at h; injection h with h; rw [h]
  | f + 1, st, l, h => by
    simp only [runV] at h
    split at h
    · injection h with h; rw [h]
    · split at h
      · cases h
      · next hs => rw [runV_len f h, step_len hs]
theorem starts_len : ∀ {rs : List CRoT} {st s1 : St}, startsP rs st = some s1 → s1.sh.length = st.sh.length
  | [], st, s1, h => by simp only [startsP] at h; injection h with h; rw [h]
  | r :: rs, st, s1, h => by
    simp only [startsP] at h
    obtain ⟨s2, h1, h2⟩ := Option.bind_eq_some_iff.1 h
    rw [starts_len h2, reach_len h1]
theorem verC_len {c : CodeT} {l : List ByteArray} (h : verC c = some l) : l.length = c.instrs.length := by
  unfold verC verOf at h
  split at h
  · obtain ⟨s1, h1, h2⟩ := Option.bind_eq_some_iff.1 h
    rw [runV_len _ h2, starts_len h1]; simp [st0]
  · cases h
theorem verC_valid {c : CodeT} (h : verB c = true) : CodeV c := by
  unfold verB verC verOf at h
  split at h
  · next hv => exact valid_v hv
  · cases h
theorem verL_yes {c : CodeT} (h : verB c = true) : verC c = some (verL c) ∧ (verL c).length = c.instrs.length := by
  unfold verB at h
  unfold verL
  cases hr : verC c with
  | none => rw [hr] at h; cases h
  | some l => exact ⟨rfl, verC_len hr⟩
theorem verL_len (c : CodeT) : (verL c).length ≤ c.instrs.length := by
  unfold verL
  cases hr : verC c with
  | none => simp
  | some l => exact Nat.le_of_eq (verC_len hr)
end Go.Proofs.YtekobbeoaalibaaGreatDoor
