/- OptAll: several texts in one. -/
import Derived.Test.YtekobbeoaalibaaGreatDoorApAll
import Derived.Test.YtekobbeoaalibaaGreatDoorFind
import Derived.Test.YtekobbeoaalibaaGreatDoorMarkAll
import Derived.BigRegion
import Derived.Deep.RegionHeld3
section
namespace Go.Proofs.YtekobbeoaalibaaGreatDoor
open Go.RowKit
set_option linter.unusedVariables false

def runE (l : List InsT) (es : List EditT) : List InsT := es.foldl stepI l
theorem runE_snoc (l : List InsT) (es : List EditT) (d : EditT) : runE l (es ++ [d]) = stepI (runE l es) d := by simp [runE]
theorem runE_len (l : List InsT) : ∀ es : List EditT, (runE l es).length = l.length := by
  intro es
  unfold runE
  induction es generalizing l with
  | nil => rfl
  | cons d es ih => rw [List.foldl_cons, ih, stepI_len]
/-- every instruction is fit for its place -/
def Fine (l : List InsT) : Prop := ∀ x ∈ l, InsV l.length x
theorem Fine.set_ {l : List InsT} {p : Nat} {y : InsT} (h : Fine l) (hy : InsV l.length y) : Fine (l.set p y) := by
  intro x hx
  rw [List.length_set]
  rcases List.mem_or_eq_of_mem_set hx with hx | rfl
  · exact h x hx
  · exact hy
theorem insV_fail (n : Nat) : InsV n ⟨16, 0, 0, 0, ⟨#[]⟩⟩ := ⟨by decide, fun h => by simp [jumpB] at h, fun h => by rcases h with h | h <;> simp at h⟩
theorem insV_pop (n : Nat) (z : Int) : InsV n ⟨30, 0, 0, z, ⟨#[]⟩⟩ := ⟨by show (1 : Int) ≤ 30 ∧ (30 : Int) ≤ 30; decide, fun h => by simp [jumpB] at h, fun h => by rcases h with h | h <;> simp at h⟩
theorem insV_goto {n p : Nat} (z : Int) (h : p + 1 < n) : InsV n ⟨15, (p : Int) + 1, 0, z, ⟨#[]⟩⟩ := ⟨by show (1 : Int) ≤ 15 ∧ (15 : Int) ≤ 30; decide, fun _ => .inl ⟨by show (0 : Int) ≤ (p : Int) + 1; omega, by show (p : Int) + 1 < (n : Int); omega⟩, fun h => by rcases h with h | h <;> simp at h⟩
theorem insV_a {n : Nat} {x : InsT} {a : Int} (h : InsV n x) (h0 : 0 ≤ a) (h1 : a < n) : InsV n { x with a := a } := ⟨h.op, fun _ => .inl ⟨h0, h1⟩, h.arg⟩
/-- what lies between a mark and its unmark -/
theorem close_mid : ∀ {l : List InsT} {i e : Nat} {n : Int}, closeT noTg (l.drop i) i n = some e → (∀ m, i ≤ m → m < e → ∃ x, l[m]? = some x ∧ x.op ≠ 14 ∧ x.op ≠ 13) ∧ ∃ z, l[e]? = some z ∧ z.op = 14 := by
  intro l i e n h
  have hi : i < l.length := by
    rcases Nat.lt_or_ge i l.length with h1 | h1
    · exact h1
    · rw [List.drop_eq_nil_of_le h1] at h; cases h
  obtain ⟨x, hx⟩ : ∃ x, l[i]? = some x := ⟨_, List.getElem?_eq_getElem hi⟩
  rw [drop_at hx] at h
  simp only [closeT, show noTg i = false from rfl, Bool.false_eq_true, if_false] at h
  split at h
  · next h14 =>
    split at h
    · injection h with h; subst h
      exact ⟨fun m h1 h2 => by omega, x, hx, h14⟩
    · cases h
  · next h14 =>
    split at h
    · cases h
    · next m' hs =>
      have hge := closeT_ge h
      obtain ⟨h1, h2⟩ := close_mid (l := l) (i := i + 1) h
      refine ⟨fun m g1 g2 => ?_, h2⟩
      rcases Nat.eq_or_lt_of_le g1 with rfl | g1
      · refine ⟨x, hx, h14, fun h13 => ?_⟩
        unfold stillN at hs
        rw [if_neg (by omega), if_neg (by omega), if_neg (by omega)] at hs
        cases hs
      · exact h1 m g1 g2
termination_by l i => l.length - i
/-- the search looks no further than the unmark -/
theorem close_same : ∀ {l l' : List InsT} {i e : Nat} {n : Int}, l'.length = l.length → closeT noTg (l.drop i) i n = some e → (∀ m, i ≤ m → m ≤ e → l'[m]? = l[m]?) → closeT noTg (l'.drop i) i n = some e := by
  intro l l' i e n hl h hs
  have hi : i < l.length := by
    rcases Nat.lt_or_ge i l.length with h1 | h1
    · exact h1
    · rw [List.drop_eq_nil_of_le h1] at h; cases h
  obtain ⟨x, hx⟩ : ∃ x, l[i]? = some x := ⟨_, List.getElem?_eq_getElem hi⟩
  have hie : i ≤ e := (closeT_ge h).1
  have hx' : l'[i]? = some x := by rw [hs i (Nat.le_refl _) hie]; exact hx
  rw [drop_at hx] at h
  rw [drop_at hx']
  simp only [closeT, show noTg i = false from rfl, Bool.false_eq_true, if_false] at h ⊢
  split at h
  · next h14 => rw [if_pos h14]; exact h
  · next h14 =>
    rw [if_neg h14]
    split at h
    · cases h
    · next m' hst =>
      exact close_same hl h fun m g1 g2 => hs m (by omega) g2
termination_by l l' i => l.length - i
theorem edit_out_of {c : CodeT} {sh : List ByteArray} {k : Int} {m : Nat} (h : editB c sh k m = true) : ∃ x, c.instrs[m]? = some x ∧ editAt c sh k m x = true := by
  unfold editB at h
  rw [if_neg (by omega), Int.toNat_natCast] at h
  cases hx : c.instrs[m]? with
  | none => rw [hx] at h; cases h
  | some x => rw [hx] at h; exact ⟨x, rfl, h⟩
/-- kind 1: places not yet met are as they were, and no operation changes -/
def St1 (c : CodeT) (m : Nat) (l : List InsT) : Prop := l.length = c.instrs.length ∧ Fine l ∧ (∀ i, m ≤ i → l[i]? = c.instrs[i]?) ∧ ∀ i : Nat, (l[i]?).map InsT.op = (c.instrs[i]?).map InsT.op
theorem st1_next {c : CodeT} {sh : List ByteArray} {m : Nat} {l : List InsT} (hcv : CodeV c) (h : St1 c m l) (he : editB c sh 1 m = true) : ∃ x, l[m]? = some x ∧ CanE l 1 m x ∧ St1 c (m + 1) (stepI l ⟨1, m⟩) := by
  obtain ⟨h1, h2, h3, h4⟩ := h
  obtain ⟨x, hx, hed⟩ := edit_out_of he
  have hx' : l[m]? = some x := (h3 m (Nat.le_refl _)).trans hx
  have hc := can_of_edit hcv hx hed
  obtain ⟨a0, a1⟩ := hc.2.1 rfl
  have hca : CanE l 1 m x := ⟨.inl rfl, fun _ => ⟨a0, by rw [h1]; exact a1⟩, fun e => absurd e (by decide)⟩
  refine ⟨x, hx', hca, ?_⟩
  obtain ⟨q, hq⟩ : ∃ q : Nat, x.a = q := ⟨x.a.toNat, by omega⟩
  have hql : q < l.length := by omega
  obtain ⟨y, hy⟩ : ∃ y, l[q]? = some y := ⟨_, List.getElem?_eq_getElem hql⟩
  have e1 : stepI l ⟨1, m⟩ = l.set m { x with a := y.a } := by
    rw [step_at (d := ⟨1, m⟩) (q := m) rfl hx']
    unfold applyI
    rw [if_pos rfl, hq, Int.toNat_natCast, hy]
  have hy15 : y.op = 15 := by
    unfold editAt at hed
    rw [if_pos rfl] at hed
    unfold threadB at hed
    simp only [Bool.and_eq_true, decide_eq_true_eq] at hed
    obtain ⟨-, hg⟩ := hed
    unfold gotoB at hg
    rw [hq, Int.toNat_natCast] at hg
    have hop := h4 q
    rw [hy] at hop
    cases hz : c.instrs[q]? with
    | none => rw [hz] at hg; cases hg
    | some z =>
      rw [hz] at hg hop
      simp only [decide_eq_true_eq] at hg
      simp only [Option.map_some, Option.some.injEq] at hop
      rw [hop]; exact hg
  have hyv := h2 y (List.mem_of_getElem? hy)
  have hya : 0 ≤ y.a ∧ y.a < l.length := by
    rcases hyv.lab (by simp [jumpB, hy15]) with h | h
    · exact h
    · omega
  rw [e1]
  refine ⟨by rw [List.length_set]; exact h1, h2.set_ (insV_a (h2 x (List.mem_of_getElem? hx')) hya.1 hya.2), fun i hi => ?_, fun i => ?_⟩
  · rw [List.getElem?_set_ne (by omega)]; exact h3 i (by omega)
  · by_cases hi : i = m
    · subst hi
      rw [List.getElem?_set_self (by have := (List.getElem?_eq_some_iff.1 hx').1; omega), hx]; rfl
    · rw [List.getElem?_set_ne (fun e => hi e.symm)]; exact h4 i
/-- kind 3: nothing is asked -/
theorem st3_next {c : CodeT} {sh : List ByteArray} {m : Nat} {l : List InsT} (h1 : l.length = c.instrs.length) (h2 : Fine l) (he : editB c sh 3 m = true) : ∃ x, l[m]? = some x ∧ CanE l 3 m x ∧ (stepI l ⟨3, m⟩).length = c.instrs.length ∧ Fine (stepI l ⟨3, m⟩) := by
  obtain ⟨x, hx, hed⟩ := edit_out_of he
  have hm : m < l.length := by have := (List.getElem?_eq_some_iff.1 hx).1; omega
  obtain ⟨y, hy⟩ : ∃ y, l[m]? = some y := ⟨_, List.getElem?_eq_getElem hm⟩
  have e1 : stepI l ⟨3, m⟩ = l.set m ⟨16, 0, 0, 0, ⟨#[]⟩⟩ := by
    rw [step_at (d := ⟨3, m⟩) (q := m) rfl hy]
    unfold applyI
    rw [if_neg (show ¬ (3 : Int) = 1 by decide), if_neg (show ¬ (3 : Int) = 2 by decide)]
  refine ⟨y, hy, ⟨.inr (.inr rfl), fun e => absurd e (by decide), fun e => absurd e (by decide)⟩, ?_⟩
  rw [e1]
  exact ⟨by rw [List.length_set]; exact h1, h2.set_ (insV_fail _)⟩
/-- kind 2: what has changed are marks met before, and their unmarks -/
def St2 (c : CodeT) (m : Nat) (l : List InsT) : Prop := l.length = c.instrs.length ∧ Fine l ∧ ∀ i : Nat, l[i]? = c.instrs[i]? ∨ ∃ p e, p < m ∧ closeP c.instrs p = some e ∧ (∃ x, c.instrs[p]? = some x ∧ x.op = 13) ∧ (i = p ∨ i = e)
theorem st2_next {c : CodeT} {sh : List ByteArray} {m : Nat} {l : List InsT} (hcv : CodeV c) (h : St2 c m l) (he : editB c sh 2 m = true) : ∃ x, l[m]? = some x ∧ CanE l 2 m x ∧ St2 c (m + 1) (stepI l ⟨2, m⟩) := by
  obtain ⟨h1, h2, h3⟩ := h
  obtain ⟨x, hx, hed⟩ := edit_out_of he
  have hc := can_of_edit hcv hx hed
  obtain ⟨hx13, e, hce⟩ := hc.2.2 rfl
  obtain ⟨hme, hel⟩ := close_lt hce
  obtain ⟨hmid, z, hz, hz14⟩ := close_mid hce
  -- nothing of m .. e has changed
  have hsame : ∀ i, m ≤ i → i ≤ e → l[i]? = c.instrs[i]? := by
    intro i hi hie
    rcases h3 i with h | ⟨p, e', hp, hpe, ⟨xp, hxp, hp13⟩, h⟩
    · exact h
    · exfalso
      obtain ⟨hpm, z', hz', hz14'⟩ := close_mid hpe
      obtain ⟨hpe1, hpe2⟩ := close_lt hpe
      rcases h with rfl | rfl
      · omega
      · -- the unmark of an earlier mark lies at m .. e
        rcases Nat.eq_or_lt_of_le hi with rfl | hi
        · rw [hx] at hz'; injection hz' with hz'; subst hz'; omega
        · rcases Nat.lt_or_ge i e with hlt | hge
          · obtain ⟨u, hu, hu14, -⟩ := hmid i (by omega) hlt
            rw [hu] at hz'; injection hz' with hz'; subst hz'; exact hu14 hz14'
          · -- one unmark for two marks: m lies inside the earlier region
            obtain ⟨u, hu, -, hu13⟩ := hpm m (by omega) (by omega)
            rw [hx] at hu; injection hu with hu; subst hu; exact hu13 hx13
  have hx' : l[m]? = some x := (hsame m (Nat.le_refl _) (by omega)).trans hx
  have hz' : l[e]? = some z := (hsame e (by omega) (Nat.le_refl _)).trans hz
  have hcl : closeP l m = some e := close_same h1 hce fun i g1 g2 => hsame i (by omega) g2
  refine ⟨x, hx', ⟨.inr (.inl rfl), fun e => absurd e (by decide), fun _ => ⟨hx13, e, hcl⟩⟩, ?_⟩
  have e1 : stepI l ⟨2, m⟩ = (l.set m ⟨15, (m : Int) + 1, 0, x.line, ⟨#[]⟩⟩).set e ⟨30, 0, 0, z.line, ⟨#[]⟩⟩ := by
    rw [step_at (d := ⟨2, m⟩) (q := m) rfl hx']
    unfold applyI
    rw [if_neg (show ¬ (2 : Int) = 1 by decide), if_pos rfl, hcl]
    simp only []
    rw [hz']
  rw [e1]
  have hf1 : Fine (l.set m ⟨15, (m : Int) + 1, 0, x.line, ⟨#[]⟩⟩) := h2.set_ (insV_goto _ (by omega))
  refine ⟨by rw [List.length_set, List.length_set]; exact h1, hf1.set_ (by rw [List.length_set]; exact insV_pop _ _), fun i => ?_⟩
  by_cases him : i = m
  · exact .inr ⟨m, e, Nat.lt_succ_self _, hce, ⟨x, hx, hx13⟩, .inl him⟩
  · by_cases hie : i = e
    · exact .inr ⟨m, e, Nat.lt_succ_self _, hce, ⟨x, hx, hx13⟩, .inr hie⟩
    · rw [List.getElem?_set_ne (fun h => hie h.symm), List.getElem?_set_ne (fun h => him h.symm)]
      rcases h3 i with h | ⟨p, e', hp, h⟩
      · exact .inl h
      · exact .inr ⟨p, e', Nat.lt_succ_of_lt hp, h⟩
end Go.Proofs.YtekobbeoaalibaaGreatDoor
end

section
namespace Go.Proofs.YtekobbeoaalibaaGreatDoor
open Go.RowKit
set_option linter.unusedVariables false

theorem found_pos {c : CodeT} {sh : List ByteArray} {k : Int} : ∀ {n j : Nat} {d : EditT}, (foundL c sh k n)[j]? = some d → ∃ m, m < n ∧ editB c sh k m = true ∧ d = ⟨k, m⟩ ∧ foundL c sh k m = (foundL c sh k n).take j
  | 0, j, d, h => by simp [foundL] at h
  | n + 1, j, d, h => by
    cases he : editB c sh k n with
    | false =>
      rw [found_no he] at h ⊢
      obtain ⟨m, h1, h2, h3, h4⟩ := found_pos h
      exact ⟨m, by omega, h2, h3, h4⟩
    | true =>
      rw [found_yes he] at h ⊢
      by_cases hj : j < (foundL c sh k n).length
      · rw [List.getElem?_append_left hj] at h
        obtain ⟨m, h1, h2, h3, h4⟩ := found_pos h
        exact ⟨m, by omega, h2, h3, by rw [List.take_append_of_le_length (by omega)]; exact h4⟩
      · rw [List.getElem?_append_right (by omega)] at h
        have hj0 : j - (foundL c sh k n).length = 0 := by
          rcases Nat.eq_zero_or_pos (j - (foundL c sh k n).length) with h0 | h0
          · exact h0
          · rw [List.getElem?_eq_none (by simp; omega)] at h; cases h
        rw [hj0] at h
        injection h with h
        refine ⟨n, Nat.lt_succ_self _, he, h.symm, ?_⟩
        rw [List.take_append_of_le_length (by omega), List.take_of_length_le (by omega)]
/-- the state ahead of place m in a pass of kind k -/
def StK (c : CodeT) (k : Int) (m : Nat) (l : List InsT) : Prop := l.length = c.instrs.length ∧ Fine l ∧ (k = 1 → St1 c m l) ∧ (k = 2 → St2 c m l)
theorem fine_of {c : CodeT} (hcv : CodeV c) : Fine c.instrs := hcv.ins
theorem stK_zero {c : CodeT} {k : Int} (hcv : CodeV c) : StK c k 0 c.instrs :=
  ⟨rfl, hcv.ins, fun _ => ⟨rfl, hcv.ins, fun _ _ => rfl, fun _ => rfl⟩, fun _ => ⟨rfl, hcv.ins, fun _ => .inl rfl⟩⟩
theorem stK_yes {c : CodeT} {sh : List ByteArray} {k : Int} {m : Nat} {l : List InsT} (hcv : CodeV c) (hk : k = 1 ∨ k = 2 ∨ k = 3) (h : StK c k m l) (he : editB c sh k m = true) : ∃ x, l[m]? = some x ∧ CanE l k m x ∧ StK c k (m + 1) (stepI l ⟨k, m⟩) := by
  obtain ⟨h1, h2, h3, h4⟩ := h
  rcases hk with rfl | rfl | rfl
  · obtain ⟨x, a, b, s⟩ := st1_next hcv (h3 rfl) he
    exact ⟨x, a, b, s.1, s.2.1, fun _ => s, fun e => absurd e (by decide)⟩
  · obtain ⟨x, a, b, s⟩ := st2_next hcv (h4 rfl) he
    exact ⟨x, a, b, s.1, s.2.1, fun e => absurd e (by decide), fun _ => s⟩
  · obtain ⟨x, a, b, s, t⟩ := st3_next h1 h2 he
    exact ⟨x, a, b, s, t, fun e => absurd e (by decide), fun e => absurd e (by decide)⟩
theorem stK_no {c : CodeT} {k : Int} {m : Nat} {l : List InsT} (h : StK c k m l) : StK c k (m + 1) l := by
  obtain ⟨h1, h2, h3, h4⟩ := h
  refine ⟨h1, h2, fun e => ?_, fun e => ?_⟩
  · obtain ⟨a, b, d, f⟩ := h3 e
    exact ⟨a, b, fun i hi => d i (by omega), f⟩
  · obtain ⟨a, b, d⟩ := h4 e
    refine ⟨a, b, fun i => ?_⟩
    rcases d i with d | ⟨p, q, hp, d⟩
    · exact .inl d
    · exact .inr ⟨p, q, by omega, d⟩
theorem stK_all {c : CodeT} {sh : List ByteArray} {k : Int} (hcv : CodeV c) (hk : k = 1 ∨ k = 2 ∨ k = 3) : ∀ m : Nat, StK c k m (runE c.instrs (foundL c sh k m))
  | 0 => stK_zero hcv
  | m + 1 => by
    have ih := stK_all (sh := sh) hcv hk m
    cases he : editB c sh k m with
    | false => rw [found_no he]; exact stK_no ih
    | true =>
      rw [found_yes he, runE_snoc]
      obtain ⟨x, -, -, h⟩ := stK_yes hcv hk ih he
      exact h
/-- the next edit of a pass: where it stands, and that it can be carried out -/
theorem pass_step {c : CodeT} {k : Int} {j : Nat} {d : EditT} (hk : k = 1 ∨ k = 2 ∨ k = 3) (h : (findL c k)[j]? = some d) : ∃ (q : Nat) (x : InsT), d.kind = k ∧ d.place = (q : Int) ∧ (runE c.instrs ((findL c k).take j))[q]? = some x ∧ CanE (runE c.instrs ((findL c k).take j)) k q x ∧ Fine (runE c.instrs ((findL c k).take j)) ∧ c.instrs.length ≤ 60000 := by
  unfold findL at h ⊢
  split at h
  · next hv =>
    have hcv := verC_valid hv
    rw [if_pos hv]
    obtain ⟨m, h1, h2, rfl, h4⟩ := found_pos h
    rw [← h4]
    have hs := stK_all (sh := verL c) hcv hk m
    obtain ⟨x, a, b, -⟩ := stK_yes hcv hk hs h2
    exact ⟨m, x, rfl, rfl, a, b, hs.2.1, hcv.n2⟩
  · simp at h
theorem run_take {l : List InsT} {es : List EditT} {j : Nat} {d : EditT} (h : es[j]? = some d) : runE l (es.take (j + 1)) = stepI (runE l (es.take j)) d := by
  rw [take_snoc_of h, runE_snoc]
/-- after the passes of kinds 1 .. k: the instructions, and the edits made -/
noncomputable def optI_ (c : CodeT) : Nat → List InsT
  | 0 => c.instrs
  | k + 1 => runE (optI_ c k) (findL { c with instrs := optI_ c k } (k + 1 : Nat))
noncomputable def optE_ (c : CodeT) : Nat → List EditT
  | 0 => []
  | k + 1 => optE_ c k ++ findL { c with instrs := optI_ c k } (k + 1 : Nat)
noncomputable def optC (c : CodeT) : CodeT := if verB c = true then { c with instrs := optI_ c 3 } else zeroC
noncomputable def optE (c : CodeT) : List EditT := if verB c = true then optE_ c 3 else []
theorem optI_len (c : CodeT) : ∀ k, (optI_ c k).length = c.instrs.length
  | 0 => rfl
  | k + 1 => by rw [optI_, runE_len, optI_len c k]
theorem optE_len (c : CodeT) : ∀ k, (optE_ c k).length ≤ k * c.instrs.length
  | 0 => by simp [optE_]
  | k + 1 => by
    have h1 := optE_len c k
    have h2 := findL_len { c with instrs := optI_ c k } (k + 1 : Nat)
    have h3 : (optI_ c k).length = c.instrs.length := optI_len c k
    rw [optE_, List.length_append, Nat.succ_mul]
    have h4 : (findL { c with instrs := optI_ c k } (k + 1 : Nat)).length ≤ (optI_ c k).length := h2
    omega
theorem run_text : ∀ {es : List EditT} {l : List InsT}, (∀ y ∈ l, y.text.size ≤ 1048576) → ∀ y ∈ runE l es, y.text.size ≤ 1048576
  | [], l, h => h
  | d :: es, l, h => by
    show ∀ y ∈ runE (stepI l d) es, _
    refine run_text (es := es) ?_
    unfold stepI
    split
    · next x hx => exact apply_text hx h
    · exact h
end Go.Proofs.YtekobbeoaalibaaGreatDoor
end

section
namespace Go.Proofs.YtekobbeoaalibaaGreatDoor
open Go.RowKit
set_option linter.unusedVariables false

/-- the row v of the edits l is the call's own, in the block that F names -/
def EdOwn (w : World) (F : List Nat) (v : Value) (l : List EditT) : Prop :=
  (v = .slice none 0 0 ∧ l = [] ∧ F = []) ∨ ∃ g cap c' t, v = .slice (some ⟨g, 0, none⟩) l.length cap ∧ l.length ≤ cap ∧ cap ≤ c' ∧ w.ownsRow 0 t 2 (.slice (some ⟨g, 0, none⟩) l.length c') l.length (edVals l) ∧ F = [g]
theorem edVals_len : ∀ l : List EditT, (edVals l).length = l.length * 2
  | [] => rfl
  | d :: l => by have := edVals_len l; simp only [edVals, List.flatMap_cons, List.length_append, List.length_cons, List.length_nil] at this ⊢; omega
theorem edVals_rep {w : World} {lo hi : Nat} (l : List EditT) : RepL w lo hi (flat EditT.dats l) (edVals l) := (OwnR.edits (w := w) (lo := lo) (hi := hi) l).rep
section
variable {w w' : World} {F G : List Nat} {v : Value} {l : List EditT} {lo hi : Nat}
theorem EdOwn.nil_ : EdOwn w [] (.slice none 0 0) [] := .inl ⟨rfl, rfl, rfl⟩
theorem EdOwn.lt (h : EdOwn w F v l) : ∀ b ∈ F, b < w.heap.size := by
  rcases h with ⟨-, -, rfl⟩ | ⟨g, cap, c', t, -, -, -, h, rfl⟩
  · simp
  · intro b hb; rw [List.mem_singleton.1 hb]; exact (h.lt g rfl).2
theorem EdOwn.nodup (h : EdOwn w F v l) : F.Nodup := by
  rcases h with ⟨-, -, rfl⟩ | ⟨g, cap, c', t, -, -, -, h, rfl⟩ <;> simp
theorem EdOwn.fr (h : EdOwn w F v l) (hf : Fr G w w') (hd : ∀ b ∈ F, b ∉ G) : EdOwn w' F v l := by
  rcases h with h | ⟨g, cap, c', t, h1, h2, h3, h4, rfl⟩
  · exact .inl h
  · exact .inr ⟨g, cap, c', t, h1, h2, h3, own_fr h4 hf (hd g (by simp)), rfl⟩
theorem EdOwn.rep (h : EdOwn w F v l) (hb : ∀ b ∈ F, lo ≤ b ∧ b < hi) : LRep w lo hi 2 EditT.dats v l := by
  rcases h with ⟨rfl, rfl, -⟩ | ⟨g, cap, c', t, rfl, h2, h3, h4, rfl⟩
  · exact Rep.mkRow Rds.none_ (by rw [flat_nil]; exact .nil_)
  · have hr := Rds.own_in (lo := lo) (hi := hi) h4 (fun b hb' => by injection hb' with hb'; subst hb'; exact hb g (by simp))
    obtain ⟨A, c2, hv, g1, g2, -⟩ := hr.shape
    injection hv with e1 _ e3
    subst e3
    exact Rep.mkRow (hr.recap h2 (by omega) (fun e => by cases e)) (edVals_rep l)
theorem EdOwn.of {base : Nat} {t : TypeId} {cap c' : Nat} {g : Nat} (h : w.ownsRow base t 2 (.slice (some ⟨g, 0, none⟩) l.length c') l.length (edVals l)) (h1 : l.length ≤ cap) (h2 : cap ≤ c') : EdOwn w [g] (.slice (some ⟨g, 0, none⟩) l.length cap) l :=
  .inr ⟨g, cap, c', t, rfl, h1, h2, own_base h fun _ _ => Nat.zero_le _, rfl⟩
end
def edMark (k : Nat) (l : List EditT) : List EditT := markL EditT.mark EditT.cnt k l
theorem edMark_len (k : Nat) (l : List EditT) : (edMark k l).length = l.length := markL_len _ _
theorem edVals_app (a b : List EditT) : edVals (a ++ b) = edVals a ++ edVals b := by simp [edVals]
theorem ed_half {k j : Nat} {l : List EditT} {c : EditT} (h : l[j]? = some c) : ((edVals (halfM EditT.mark EditT.cnt k l j)).set (j * 2) (.int .i64 ((k + sumOf EditT.cnt (l.take j) : Nat) : Int))).set (j * 2 + 1) (.int .i64 (((k + sumOf EditT.cnt (l.take j) : Nat) : Int) + 1)) = edVals (halfM EditT.mark EditT.cnt k l (j + 1)) := by
  obtain ⟨hj, rfl⟩ := List.getElem?_eq_some_iff.1 h
  have hl : (edVals (markL EditT.mark EditT.cnt k (l.take j))).length = j * 2 := by rw [edVals_len, markL_len, List.length_take, Nat.min_eq_left (by omega)]
  have e1 : edVals (halfM EditT.mark EditT.cnt k l j) = edVals (markL EditT.mark EditT.cnt k (l.take j)) ++ ([.int .i64 l[j].kind, .int .i64 l[j].place] ++ edVals (l.drop (j + 1))) := by
    rw [halfM, edVals_app, List.drop_eq_getElem_cons hj]; rfl
  have e2 : edVals (halfM EditT.mark EditT.cnt k l (j + 1)) = edVals (markL EditT.mark EditT.cnt k (l.take j)) ++ ([.int .i64 ((k + sumOf EditT.cnt (l.take j) : Nat) : Int), .int .i64 (((k + sumOf EditT.cnt (l.take j) : Nat) : Int) + 1)] ++ edVals (l.drop (j + 1))) := by
    rw [halfM, markL_snoc h, edVals_app, edVals_app, List.append_assoc]; rfl
  rw [e1, e2]
  simp (disch := simp) only [set_mid0 hl, set_mid hl]
  rfl
set_option maxRecDepth 100000 in
set_option maxHeartbeats 1000000 in
theorem markEditS_clip (l : List EditT) (v : Value) (F : List Nat) (x : Int) (k : Nat) (w : World) (hx : x = (k : Int)) (h : EdOwn w F v l) (hk0 : 0 < k) (hk1 : k + sumOf EditT.cnt l ≤ 1099511627776) :
    Calls Tryz.prog 26 #[v, .int .i64 x] w fun e w' => e = .returned (.int .i64 ((k + sumOf EditT.cnt l : Nat) : Int)) ∧ EdOwn w' F v (edMark k l) ∧ Fr F w w' := by
  subst hx
  obtain ⟨A0, cap0, hv0, hc1, hc2⟩ := (h.rep (lo := 0) (hi := w.heap.size) (fun g hg => ⟨Nat.zero_le _, h.lt g hg⟩)).shape
  unfold maxLen at hc2
  rcases h with ⟨rfl, rfl, rfl⟩ | ⟨g, cap, c', t, rfl, h2, h3, h4, rfl⟩
  · clear hv0
    go_enter Tryz.func26, Tryz.ntmps26
    go_wp2_with fail
    go_loopw [1, 5] (fun m i wr => i = .int .i64 0 ∧ m = .int .i64 k ∧ wr = w) (fun _ i _ => 0)
    case atStart => exact ⟨rfl, rfl, rfl⟩
    case round =>
      obtain ⟨rfl, rfl, rfl⟩ := hrel
      go_wp2_with fail
      go_ret
      exact ⟨ret_int (by simp [sumOf]), .nil_, Fr.refl _ _⟩
  · injection hv0 with e1 e2 e3
    subst e3
    clear e1 e2
    go_enter Tryz.func26, Tryz.ntmps26
    go_wp2_with fail
    go_loopw [1, 5] (fun m i wr => ∃ j q : Nat, j ≤ l.length ∧ i = .int .i64 j ∧ m = .int .i64 q ∧ Hid (q = k + sumOf EditT.cnt (l.take j)) ∧ wr.ownsRow 0 t 2 (.slice (some ⟨g, 0, none⟩) l.length c') l.length (edVals (halfM EditT.mark EditT.cnt k l j)) ∧ Fr [g] w wr) (fun _ i _ => l.length - (intOf i).toNat)
    case atStart => exact ⟨0, k, Nat.zero_le _, rfl, rfl, by simp [sumOf, Hid], by rw [halfM_zero]; exact h4, Fr.refl _ _⟩
    case round =>
      clear h4
      obtain ⟨j, q, hj, rfl, rfl, hq, hown, hfr⟩ := hrel
      by_cases hlt : j < l.length
      · obtain ⟨c, hc⟩ : ∃ c, l[j]? = some c := ⟨_, List.getElem?_eq_getElem hlt⟩
        have hle := sumOf_take_le EditT.cnt l (j + 1)
        rw [sumOf_snoc (b := EditT.cnt) hc] at hle
        have q0 : 0 < q := by have := hq.out; omega
        have q1 : q + c.cnt ≤ 1099511627776 := by have := hq.out; omega
        have hc0 : c.cnt = 1 + 1 := rfl
        rw [hc0] at q1
        have HN := Lib.hid (ed_half (k := k) hc)
        have HQ := Lib.hid (sumOf_snoc (b := EditT.cnt) hc)
        obtain ⟨⟨u0, d0⟩, f0⟩ := own_at hown (j * 2) (by omega)
        obtain ⟨⟨u1, d1⟩, f1⟩ := own_at hown (j * 2 + 1) (by omega)
        have HW := Lib.hid hown
        clear hle hc hc0 hown
        go_wp2_with fail
        go_roundw
        case rel =>
          refine ⟨j + 1, q + 1 + 1, by omega, by go_num, by go_num, ?_, ?_, ?_⟩
          · have := HQ.out; have := hq.out; have hc0 : c.cnt = 1 + 1 := rfl; show _ = _; omega
          · rw [← HN.out, ← hq.out]
            exact ((HW.out.stored _ _).1.stored _ _).1
          · exact (hfr.set_ (p := ⟨g, _, none⟩) (by simp) _).set_ (p := ⟨g, _, none⟩) (by simp) _
        case measure => simp [intOf]; omega
      · obtain rfl : j = l.length := by omega
        rw [halfM_all] at hown
        rw [List.take_length] at hq
        go_wp2_with fail
        go_ret
        refine ⟨by rw [hq.out]; rfl, .inr ⟨g, cap, c', t, by rw [edMark_len], by rw [edMark_len]; exact h2, h3, by rw [edMark_len]; exact hown, rfl⟩, hfr⟩
end Go.Proofs.YtekobbeoaalibaaGreatDoor
end

section
namespace Go.Proofs.YtekobbeoaalibaaGreatDoor
open Go.RowKit
set_option linter.unusedVariables false

theorem COwn.grown {lo hi g cap n1 n2 n3 : Nat} {w w2 : World} {c : CodeT} {A1 A2 A3 : Option Addr} {l : List InsT} {row : Option Nat} (h : COwn lo hi w c A1 A2 A3 n1 n2 n3 g cap l) (hg : w.grownBy w2 row) (hhi : hi ≤ w.heap.size) (hr : ∀ b, row = some b → hi ≤ b) : COwn lo hi w2 c A1 A2 A3 n1 n2 n3 g cap l := by
  obtain ⟨F1, F2, F3, h1, h2, h3, ⟨t, h4⟩, h5, h6⟩ := h
  have hk : ∀ b, b ∈ F1 ++ (F2 ++ (F3 ++ [g])) → w2.heap[b]? = w.heap[b]? := fun b hb => by
    have h7 := h6 b hb
    exact hg.block b (by omega) (fun e => by have := hr b e.symm; omega)
  refine ⟨F1, F2, F3, h1.kept fun b hb => hk b (by simp [hb]), h2.kept fun b hb => hk b (by simp [hb]), h3.kept fun b hb => hk b (by simp [hb]), ⟨t, own_block h4 fun b hb => hk b ?_⟩, h5, h6⟩
  have : g = b := by simpa [Value.ownBlock] using hb
  subst this; simp
set_option maxRecDepth 100000 in
theorem clip_edits (A : Option Addr) (n cap : Nat) (w : World) (h1 : n ≤ cap) (h2 : cap ≤ maxLen) : Calls Tryz.prog 69 #[.slice A n cap] w fun e w' => e = .returned (.slice A n n) ∧ w' = w := by
  unfold maxLen at h2
  go_enter Tryz.func69, Tryz.ntmps69
  go_wp2_with fail
  go_ret
  exact ⟨rfl, rfl⟩
theorem ed_clip {w : World} {base : Nat} {t : TypeId} {A : Option Addr} {cap : Nat} {l : List EditT} (h : w.ownsRow base t 2 (.slice A l.length cap) l.length (edVals l)) : ∃ G, EdOwn w G (.slice A l.length l.length) l ∧ ∀ b ∈ G, base ≤ b := by
  obtain ⟨hc1, -⟩ : l.length ≤ cap ∧ cap ≤ maxLen := by
    obtain ⟨A', C', hv, h1, h2, -⟩ := (Rds.of_own h).shape
    injection hv with e1 e2 e3
    subst e3; exact ⟨h1, h2⟩
  have h' := h
  rcases h.2 with ⟨hv, h0⟩ | ⟨g2, cap2, cur, hv, hb2, -⟩
  · injection hv with e1 e2 e3
    have hl : l = [] := List.eq_nil_of_length_eq_zero e2
    subst hl e1
    exact ⟨[], .nil_, by simp⟩
  · injection hv with e1 e2 e3
    subst e1
    exact ⟨[g2], EdOwn.of h' (Nat.le_refl _) hc1, by simpa using hb2⟩
/-- the code and the edits that OptimizeCode answers, of the call's own and apart -/
def OptRes (c : CodeT) (w : World) (e : Ending) (w' : World) : Prop := ∃ (cs : List Value) (v : Value) (F G : List Nat), e = .returned (.tuple #[.agg cs.toArray, v]) ∧ OwnVs w' (optC c).dats F cs ∧ F.Nodup ∧ EdOwn w' G v (optE c) ∧ (∀ b ∈ F, w.heap.size ≤ b) ∧ (∀ b ∈ G, w.heap.size ≤ b) ∧ (∀ b ∈ F, b ∉ G) ∧ Below w.heap.size w w'
set_option maxRecDepth 100000 in
set_option maxHeartbeats 4000000 in
theorem impl_OptimizeCode (c : CodeT) (x : Value) (w : World) (lo hi : Nat) (h : SRep w lo hi CodeT.dats x c) (hhi : hi ≤ w.heap.size) (hst : SpaceTab w) (htx : ∀ y ∈ c.instrs, y.text.size ≤ 1048576) (hbk : c.bulk ≤ 1048576) :
    Calls Tryz.prog 34 #[x] w (OptRes c w) := by
  have h0 := Lib.hid h
  obtain ⟨Aroutines, nroutines, Arecords, nrecords, Aglobals, nglobals, Ainstrs, ninstrs, rfl, -⟩ := CodeT.form h
  have hw1 : Below w.heap.size w ((w.alloc (.cells #[Value.slice Aroutines c.routines.length nroutines, .slice Arecords c.records.length nrecords, .slice Aglobals c.globals.length nglobals, .int .i64 c.main, .slice Ainstrs c.instrs.length ninstrs] 34)).alloc (.cells #[Value.slice none 0 0, .slice none 0 0, .slice none 0 0, .int .i64 0, .slice none 0 0] 34)) := ((Below.refl _ _).alloc (Nat.le_refl _) _).alloc (by simp) _
  have ba := (Blk.new w 34 #[Value.slice Aroutines c.routines.length nroutines, .slice Arecords c.records.length nrecords, .slice Aglobals c.globals.length nglobals, .int .i64 c.main, .slice Ainstrs c.instrs.length ninstrs]).alloc (.cells #[Value.slice none 0 0, .slice none 0 0, .slice none 0 0, .int .i64 0, .slice none 0 0] 34)
  have bz := Blk.newAt (w.alloc (.cells #[Value.slice Aroutines c.routines.length nroutines, .slice Arecords c.records.length nrecords, .slice Aglobals c.globals.length nglobals, .int .i64 c.main, .slice Ainstrs c.instrs.length ninstrs] 34)) 34 #[Value.slice none 0 0, .slice none 0 0, .slice none 0 0, .int .i64 0, .slice none 0 0] (w.heap.size + 1) (by simp)
  have HI := Lib.hid (impl_IsVerified c _ _ lo hi (h0.out.below hw1 hhi) (Nat.le_trans hhi hw1.size) (hst.below hw1 hst.2) htx)
  obtain ⟨b, hb⟩ : ∃ b, verB c = b := ⟨_, rfl⟩
  have HB := Lib.hid hb
  have HB2 : Hid ((verC c).isSome = b) := hb
  have HTX := Lib.hid htx
  have HST := Lib.hid hst
  clear h htx hb hst
  go_enter Tryz.func34, Tryz.ntmps34
  go_wp2_with fail
  refine HI.out.mono ?_; rw [HB2.out]; rintro e w2 ⟨rfl, hb⟩
  have z2 : w.heap.size + 2 ≤ w2.heap.size := by have hh := hb.size; simp at hh; omega
  have hw2 := hw1.trans (hb.mono hw1.size)
  have ba2 := ba.later hb
  have bz2 := bz.later hb
  clear hb ba bz hw1 HI
  have cba := ba2.cell
  have lba := ba2.lt
  have cbz := bz2.cell
  have fbz := bz2.frozen
  have lbz := bz2.lt
  cases b with
  | false =>
    have HN : Hid (optC c = zeroC ∧ optE c = []) := by show _ ∧ _; unfold optC optE; rw [HB.out]; exact ⟨rfl, rfl⟩
    go_wp2_with fail
    refine bodyPost_ret (v := .tuple #[.agg #[Value.slice none 0 0, .slice none 0 0, .slice none 0 0, .int .i64 0, .slice none 0 0], .slice none 0 0]) ?_ rfl ⟨_, _, [], [], rfl, ?_, List.nodup_nil, ?_, by simp, by simp, by simp, ?_⟩
    · simp [results, Tryz.results34, go_sem, cbz]
    · rw [HN.out.1]; exact CodeT.ownIn (c := zeroC) .nilRow .nilRow .nilRow .nilRow
    · rw [HN.out.2]; exact .nil_
    · repeat (first | exact hw2 | refine Below.setCell ?_ (by simp <;> omega) _ | refine Below.drew ?_)
  | true =>
    have hcv := verC_valid HB.out
    have hn1 := hcv.n1
    have hn2 := hcv.n2
    clear hcv
    go_wp2_with fail
    refine (impl_copyCode c _ _ lo hi (h0.out.below hw2 hhi) (Nat.le_trans hhi hw2.size) hbk).mono ?_; rintro e w3 ⟨cs, rfl, hr, hb⟩
    obtain ⟨A1, A2, A3, n1, n2, n3, g, cap, rfl, hco⟩ := COwn.of hr hn1
    have hw3 := hw2.trans (hb.mono hw2.size)
    have bz3 := bz2.later hb
    have z3 := hb.size
    have hgb := hco.at_
    obtain ⟨hg1, hg2⟩ := hgb
    obtain ⟨hcc1, hcc2⟩ : c.instrs.length ≤ cap ∧ cap ≤ maxLen := by obtain ⟨t, ho⟩ := hco.ins; exact own_cap ho
    unfold maxLen at hcc2
    clear hb bz2 ba2 hr cba lba cbz fbz lbz
    have k4 : Below w3.heap.size w3 ((w3.alloc (.cells #[Value.slice A1 c.routines.length n1, .slice A2 c.records.length n2, .slice A3 c.globals.length n3, .int .i64 c.main, .slice (some ⟨g, 0, none⟩) c.instrs.length cap] 34)).alloc (.cells #[] 46)) := ((Below.refl _ _).alloc (Nat.le_refl _) _).alloc (by simp) _
    have hw4 := hw3.trans (k4.mono hw3.size)
    have bz4 := bz3.later k4
    have bo4 := (Blk.new w3 34 #[Value.slice A1 c.routines.length n1, .slice A2 c.records.length n2, .slice A3 c.globals.length n3, .int .i64 c.main, .slice (some ⟨g, 0, none⟩) c.instrs.length cap]).alloc (.cells #[] 46)
    have hco4 := hco.later k4
    have own4 : ((w3.alloc (.cells #[Value.slice A1 c.routines.length n1, .slice A2 c.records.length n2, .slice A3 c.globals.length n3, .int .i64 c.main, .slice (some ⟨g, 0, none⟩) c.instrs.length cap] 34)).alloc (.cells #[] 46)).ownsRow (w3.heap.size + 1) 46 2 (.slice (some ⟨w3.heap.size + 1, 0, none⟩) 0 0) 0 [] := by
      have := World.ownsRow_made (base := w3.heap.size + 1) (e := 46) (size := 2) (w3.alloc (.cells #[Value.slice A1 c.routines.length n1, .slice A2 c.records.length n2, .slice A3 c.globals.length n3, .int .i64 c.main, .slice (some ⟨g, 0, none⟩) c.instrs.length cap] 34)) #[] 0 (by simp) (by unfold maxLen; omega) rfl
      simpa using this
    have z4 : w3.heap.size + 1 < ((w3.alloc (.cells #[Value.slice A1 c.routines.length n1, .slice A2 c.records.length n2, .slice A3 c.globals.length n3, .int .i64 c.main, .slice (some ⟨g, 0, none⟩) c.instrs.length cap] 34)).alloc (.cells #[] 46)).heap.size := by simp
    clear hco hw3 bz3 k4
    go_wp2_with fail
    go_loopw [5, 6] (fun ov i wr => ∃ kk : Nat, kk ≤ 3 ∧ i = .int .i64 ((kk : Int) + 1) ∧ wr.ownsRow (w3.heap.size + 1) 46 2 ov (optE_ c kk).length (edVals (optE_ c kk)) ∧ Hid (∀ y ∈ optI_ c kk, y.text.size ≤ 1048576) ∧ COwn w2.heap.size w3.heap.size wr c A1 A2 A3 n1 n2 n3 g cap (optI_ c kk) ∧ Below w.heap.size w wr ∧ Blk wr (w.heap.size + 1) 34 #[Value.slice none 0 0, .slice none 0 0, .slice none 0 0, .int .i64 0, .slice none 0 0] ∧ Blk wr w3.heap.size 34 #[Value.slice A1 c.routines.length n1, .slice A2 c.records.length n2, .slice A3 c.globals.length n3, .int .i64 c.main, .slice (some ⟨g, 0, none⟩) c.instrs.length cap] ∧ w3.heap.size + 1 < wr.heap.size) (fun _ i _ => 4 - (intOf i).toNat)
    case atStart => exact ⟨0, by omega, rfl, own4, HTX.out, hco4, hw4, bz4, bo4, z4⟩
    case round =>
      clear hco4 hw4 bz4 bo4 z4 own4
      obtain ⟨kk, hkk, rfl, own, HT, hco, hw, bz, bo, hz⟩ := hrel
      obtain ⟨wo, rfl⟩ : ∃ wo : World, wo = wr := ⟨_, rfl⟩
      have hl := optI_len c kk
      by_cases hlt : kk < 3
      · have hs := hco.srep
        rw [hl] at hs
        have HC := Lib.hid (impl_FindEdits { c with instrs := optI_ c kk } _ ((kk : Int) + 1) wo _ _ hs (Nat.le_of_lt (by omega)) (HST.out.below hw HST.out.2) HT.out)
        have cbo := bo.cell
        have lbo := bo.lt
        clear hs
        go_wp2_with fail
        refine HC.out.mono ?_; rintro e w6 ⟨u, rfl, gu, hb⟩
        have hw6 := hw.trans (hb.mono hw.size)
        have bz6 := bz.later hb
        have bo6 := bo.later hb
        have hco6 := hco.later hb
        have own6 := own_later own hb
        have z6 := hb.size
        have hap6 : Apart _ wo.heap.size w6.heap.size := Apart.of_own own w6.heap.size
        have HP := Lib.hid (fun (j : Nat) (d : EditT) (hd : (findL { c with instrs := optI_ c kk } ((kk : Int) + 1))[j]? = some d) => pass_step (c := { c with instrs := optI_ c kk }) (k := (kk : Int) + 1) (by omega) hd)
        have hfl : (findL { c with instrs := optI_ c kk } ((kk : Int) + 1)).length ≤ (optI_ c kk).length := findL_len _ _
        have hel := optE_len c kk
        have HE1 : Hid (optE_ c (kk + 1) = optE_ c kk ++ findL { c with instrs := optI_ c kk } ((kk : Int) + 1)) := rfl
        have HI1 : Hid (optI_ c (kk + 1) = runE (optI_ c kk) (findL { c with instrs := optI_ c kk } ((kk : Int) + 1))) := rfl
        obtain ⟨es, hes⟩ : ∃ es, findL { c with instrs := optI_ c kk } ((kk : Int) + 1) = es := ⟨_, rfl⟩
        rw [hes] at gu HP hfl HE1 HI1
        have gu := gu.rep
        obtain ⟨Au, cu, rfl, hcu1, hcu2⟩ := gu.shape
        unfold maxLen at hcu2
        have hroom : (optE_ c kk).length + es.length ≤ 240000 := by
          have : kk * c.instrs.length ≤ 3 * 60000 := Nat.mul_le_mul (by omega) hn2
          omega
        clear hes hb hw bz bo hco own HC cbo lbo hfl hel
        have cbo := bo6.cell
        have lbo := bo6.lt
        go_wp2_with fail
        go_loopw [5, 24] (fun ov i wr => ∃ j : Nat, j ≤ es.length ∧ i = .int .i64 j ∧ wr.ownsRow (w3.heap.size + 1) 46 2 ov (optE_ c kk ++ es.take j).length (edVals (optE_ c kk ++ es.take j)) ∧ Hid (∀ y ∈ runE (optI_ c kk) (es.take j), y.text.size ≤ 1048576) ∧ COwn w2.heap.size w3.heap.size wr c A1 A2 A3 n1 n2 n3 g cap (runE (optI_ c kk) (es.take j)) ∧ Below w.heap.size w wr ∧ Blk wr (w.heap.size + 1) 34 #[Value.slice none 0 0, .slice none 0 0, .slice none 0 0, .int .i64 0, .slice none 0 0] ∧ Blk wr w3.heap.size 34 #[Value.slice A1 c.routines.length n1, .slice A2 c.records.length n2, .slice A3 c.globals.length n3, .int .i64 c.main, .slice (some ⟨g, 0, none⟩) c.instrs.length cap] ∧ LRep wr wo.heap.size w6.heap.size 2 EditT.dats (.slice Au es.length cu) es ∧ Apart ov wo.heap.size w6.heap.size ∧ w6.heap.size ≤ wr.heap.size) (fun _ i _ => es.length - (intOf i).toNat)
        case atStart => exact ⟨0, Nat.zero_le _, rfl, by simpa using own6, HT.out, hco6, hw6, bz6, bo6, gu, hap6, Nat.le_refl _⟩
        case round =>
          clear own6 hco6 hw6 bz6 bo6 gu hap6 cbo lbo
          obtain ⟨j, hj, rfl, own, HT2, hco, hw, bz, bo, gu, hap, hz2⟩ := hrel
          obtain ⟨wp, rfl⟩ : ∃ wp : World, wp = wr := ⟨_, rfl⟩
          by_cases hlt2 : j < es.length
          · obtain ⟨d, hd⟩ : ∃ d, es[j]? = some d := ⟨_, List.getElem?_eq_getElem hlt2⟩
            obtain ⟨ge, off, rfl, hge1, hge2, hmem, -, q0, q1⟩ := EditT.at_ gu hd
            obtain ⟨q, x, hdk, hdp, hx, hcan, hfine, -⟩ := HP.out j d hd
            have hrl : (runE (optI_ c kk) (es.take j)).length = c.instrs.length := by rw [runE_len]; exact hl
            have hx : (runE (optI_ c kk) (es.take j))[q]? = some x := hx
            have hcan : CanE (runE (optI_ c kk) (es.take j)) ((kk : Int) + 1) q x := hcan
            have hst2 := step_at (l := runE (optI_ c kk) (es.take j)) hdp hx
            have HR := Lib.hid (run_take (l := optI_ c kk) hd)
            have HTK := Lib.hid (take_snoc_of hd)
            have HT3 : Hid (∀ y ∈ runE (optI_ c kk) (es.take (j + 1)), y.text.size ≤ 1048576) := by rw [HR.out, hst2]; exact apply_text hx HT2.out
            have bb : Below wp.heap.size wp (wp.alloc (.cells #[Value.int .i64 d.kind, .int .i64 d.place] 46)) := (Below.refl _ _).alloc (Nat.le_refl _) _
            have bo5 := bo.later bb
            have HM := make_any c _ x ((kk : Int) + 1) q (wp.alloc (.cells #[Value.int .i64 d.kind, .int .i64 d.place] 46)) _ _ A1 A2 A3 n1 n2 n3 g cap w3.heap.size (hco.later bb) (by simp; omega) (by rw [hrl]; exact bo5) (by omega) (by rw [hrl]; exact hn2) hfine hx hcan
            rw [← hdk, ← hst2, ← hdp, ← HR.out] at HM
            have HMM := Lib.hid HM
            have bx := Blk.new wp 46 #[Value.int .i64 d.kind, .int .i64 d.place]
            have bz5 := bz.later bb
            have own5 := own_later own bb
            have gu5 := gu.below bb hz2
            have hw5 := hw.trans (bb.mono hw.size)
            have hgel : ge < wp.heap.size := by omega
            have z5 : wp.heap.size < (wp.alloc (.cells #[Value.int .i64 d.kind, .int .i64 d.place] 46)).heap.size := by simp
            clear HM hst2 hx hcan hfine hdk hdp hd hmem hco hw bz bo gu own HT2 bb
            go_wp2_with fail
            refine HMM.out.mono ?_; rintro e w7 ⟨rfl, hco7, hf⟩
            have hz7 := hf.size
            have bx7 := bx.fr hf (by simp; omega)
            have bz7 := bz5.fr hf (by simp; omega)
            have bo7 := bo5.fr hf (by simp; omega)
            have own7 : w7.ownsRow (w3.heap.size + 1) 46 2 _ (optE_ c kk ++ es.take j).length (edVals (optE_ c kk ++ es.take j)) := own_block own5 (fun b hb => hf.block b (own5.lt b hb).2 (by have := (own5.lt b hb).1; simp; omega))
            have gu7 := gu5.fr hf (fun b hb => by rw [List.mem_singleton.1 hb]; omega) (by omega)
            have hw7 := hw5.trans (hf.below (B := w.heap.size) (fun b hb => by rw [List.mem_singleton.1 hb]; omega) hw5.size)
            clear hf bx bz5 bo5 own5 gu5 hw5 HMM q0 q1
            have cbx := bx7.cell
            have lbx := bx7.lt
            have hroom2 : ((optE_ c kk ++ es.take j).length + 1) * 16 ≤ 140737488355328 := by rw [List.length_append, List.length_take]; omega
            go_wp2_with (first | (at_builtin; refine wpList_push rfl (.tmp 30) (.tmp 32) 49 rfl 46 _ 2 16 info_edit Tryz.underlying49 rfl (by decide) (by decide) (w3.heap.size + 1) _ _ _ rfl own7 #[.int .i64 d.kind, .int .i64 d.place] 1 _ rfl rfl (by simp [Value.oneCell']) hroom2 (by omega) ?_))
            intro v2 w8 hown8 hg8 hat8
            have a8 := bz7.grown hg8 (fun e => by have := (own7.lt _ e.symm).1; omega)
            have b8 := bo7.grown hg8 (fun e => by have := (own7.lt _ e.symm).1; omega)
            have hw8 := below_push hw7 hw7.size (own_base own7 (fun b hb => by have := (own7.lt b hb).1; omega)) hg8
            have gu8 := LRep.grown gu7 hg8 (by omega) (fun g hg => by rcases hap g hg with h | h <;> omega)
            have hap8 := hap.push hat8 (by omega)
            have z8 := hg8.size
            have hco8 : COwn w2.heap.size w3.heap.size w8 c A1 A2 A3 n1 n2 n3 g cap (runE (optI_ c kk) (es.take (j + 1))) := hco7.grown hg8 (by omega) (fun b hb => by have := (own7.lt b hb).1; omega)
            have hown9 : w8.ownsRow (w3.heap.size + 1) 46 2 v2 (optE_ c kk ++ es.take (j + 1)).length (edVals (optE_ c kk ++ es.take (j + 1))) := by
              have e5 : (optE_ c kk ++ es.take (j + 1)).length = (optE_ c kk).length + j + 1 := by rw [List.length_append, List.length_take]; omega
              have e6 : edVals (optE_ c kk ++ es.take (j + 1)) = edVals (optE_ c kk ++ es.take j) ++ [.int .i64 d.kind, .int .i64 d.place] := by rw [HTK.out, ← List.append_assoc, edVals_snoc]
              rw [e5, e6]; exact hown8
            clear hown8 own7 bz7 bo7 hw7 gu7 hco7 hat8 hg8 hap cbx lbx bx7 hroom2
            go_wp2_with fail
            go_roundw
            case rel => exact ⟨j + 1, by omega, by go_num, hown9, HT3, hco8, hw8, a8, b8, gu8, hap8, by omega⟩
            case measure => simp [intOf]; omega
          · obtain rfl : j = es.length := by omega
            rw [List.take_length] at own hco HT2
            rw [← HE1.out] at own
            rw [← HI1.out] at hco HT2
            go_wp2_with fail
            go_roundw
            case rel => exact ⟨kk + 1, by omega, by go_num, own, HT2, hco, hw, bz, bo, by omega⟩
            case measure => simp [intOf]; omega
      · obtain rfl : kk = 3 := by omega
        have HY : Hid (optC c = { c with instrs := optI_ c 3 } ∧ optE c = optE_ c 3) := by show _ ∧ _; unfold optC optE; rw [HB.out]; exact ⟨rfl, rfl⟩
        obtain ⟨Am, cm, hAm, hm1, hm2⟩ : ∃ A cap, u5 = .slice A (optE_ c 3).length cap ∧ (optE_ c 3).length ≤ cap ∧ cap ≤ maxLen := by obtain ⟨A, cap, h1, h2, h3, -⟩ := (Rds.of_own own).shape; exact ⟨A, cap, h1, h2, h3⟩
        subst hAm
        have hal := hco.all
        rw [hl] at hal
        have HAL := Lib.hid hal
        have hed : ∃ G, EdOwn wo G (.slice Am (optE_ c 3).length (optE_ c 3).length) (optE_ c 3) ∧ ∀ b ∈ G, w3.heap.size + 1 ≤ b := ed_clip own
        have HOW := Lib.hid hed
        have cbz := bz.cell
        have fbz := bz.frozen
        have lbz := bz.lt
        have cbo := bo.cell
        have lbo := bo.lt
        clear hal hco own hed
        go_wp2_with fail
        go_region_with ((go_at_call 69; refine (clip_edits Am _ cm _ hm1 hm2).mono ?_; rintro e w7 ⟨rfl, rfl⟩))
        all_goals
          go_wp2_with fail
          obtain ⟨F, hF1, hF2, hF3⟩ := HAL.out
          obtain ⟨G, hG1, hG2⟩ := HOW.out
          refine bodyPost_ret (v := .tuple #[.agg #[Value.slice A1 c.routines.length n1, .slice A2 c.records.length n2, .slice A3 c.globals.length n3, .int .i64 c.main, .slice (some ⟨g, 0, none⟩) c.instrs.length cap], .slice Am (optE_ c 3).length (optE_ c 3).length]) ?_ rfl ⟨_, _, F, G, rfl, ?_, hF2, ?_, fun b hb => by have := hF3 b hb; omega, fun b hb => by have := hG2 b hb; omega, fun b hb hg => by have := hF3 b hb; have := hG2 b hg; omega, ?_⟩
          · simp [results, Tryz.results34, go_sem, cbz]
          · rw [HY.out.1]
            refine OwnVs.fr (F := [w.heap.size + 1]) hF1 ?_ (fun b hb => by have := hF3 b hb; simp; omega)
            repeat (first | exact Fr.refl _ _ | refine Fr.set_ ?_ (by simp) _ | refine Fr.drew ?_)
          · rw [HY.out.2]
            refine EdOwn.fr (G := [w.heap.size + 1]) hG1 ?_ (fun b hb => by have := hG2 b hb; simp; omega)
            repeat (first | exact Fr.refl _ _ | refine Fr.set_ ?_ (by simp) _ | refine Fr.drew ?_)
          · repeat (first | exact hw | refine Below.setCell ?_ (by simp <;> omega) _ | refine Below.drew ?_)
end Go.Proofs.YtekobbeoaalibaaGreatDoor
end

section
namespace Go.Proofs.YtekobbeoaalibaaGreatDoor
open Go.RowKit
set_option linter.unusedVariables false

theorem RepL.eq {w : World} {lo hi : Nat} {l : List EditT} {us vs : List Value} (h : RepL w lo hi (flat EditT.dats l) us) (h' : RepL w lo hi (flat EditT.dats l) vs) : us = vs := by
  have key : ∀ {l : List EditT} {us : List Value}, RepL w lo hi (flat EditT.dats l) us → us = edVals l := by
    intro l
    induction l with
    | nil => intro us h; exact h.outNil
    | cons d l ih =>
      intro us h
      rw [flat_cons] at h
      obtain ⟨v0, t0, rfl, a0, h⟩ := RepL.out (d := .int .i64 d.kind) (ds := [.int .i64 d.place] ++ flat EditT.dats l) h
      obtain ⟨v1, t1, rfl, a1, h⟩ := RepL.out (d := .int .i64 d.place) (ds := flat EditT.dats l) h
      rw [a0.int_, a1.int_, ih h]; rfl
  rw [key h, key h']
theorem ed_plain {w : World} {base : Nat} {t : TypeId} {A : Option Addr} {cap : Nat} {l : List EditT} (h : w.ownsRow base t 2 (.slice A l.length cap) l.length (edVals l)) : ∃ G, EdOwn w G (.slice A l.length cap) l ∧ ∀ b ∈ G, base ≤ b := by
  obtain ⟨hc1, -⟩ : l.length ≤ cap ∧ cap ≤ maxLen := by
    obtain ⟨A', C', hv, h1, h2, -⟩ := (Rds.of_own h).shape
    injection hv with e1 e2 e3
    subst e3; exact ⟨h1, h2⟩
  have h' := h
  rcases h.2 with ⟨hv, h0⟩ | ⟨g2, cap2, cur, hv, hb2, -⟩
  · injection hv with e1 e2 e3
    have hl : l = [] := List.eq_nil_of_length_eq_zero e2
    subst hl e1 e3
    exact ⟨[], .nil_, by simp⟩
  · injection hv with e1 e2 e3
    subst e1
    exact ⟨[g2], EdOwn.of h' hc1 (Nat.le_refl _), by simpa using hb2⟩
set_option maxRecDepth 100000 in
set_option maxHeartbeats 4000000 in
theorem spec_OptimizeCode (c : CodeT) (x : Value) (w : World) (lo hi : Nat) (h : SRep w lo hi CodeT.dats x c) (hhi : hi ≤ w.heap.size) (htx : ∀ y ∈ c.instrs, y.text.size ≤ 1048576) (hbk : c.bulk ≤ 1048576) :
    Calls Tryz.prog 33 #[x] w (OptRes c w) := by
  have h0 := Lib.hid h
  obtain ⟨Aroutines, nroutines, Arecords, nrecords, Aglobals, nglobals, Ainstrs, ninstrs, rfl, -⟩ := CodeT.form h
  have hw1 : Below w.heap.size w ((w.alloc (.cells #[Value.slice Aroutines c.routines.length nroutines, .slice Arecords c.records.length nrecords, .slice Aglobals c.globals.length nglobals, .int .i64 c.main, .slice Ainstrs c.instrs.length ninstrs] 34)).alloc (.cells #[Value.slice none 0 0, .slice none 0 0, .slice none 0 0, .int .i64 0, .slice none 0 0] 34)) := ((Below.refl _ _).alloc (Nat.le_refl _) _).alloc (by simp) _
  have ba := (Blk.new w 34 #[Value.slice Aroutines c.routines.length nroutines, .slice Arecords c.records.length nrecords, .slice Aglobals c.globals.length nglobals, .int .i64 c.main, .slice Ainstrs c.instrs.length ninstrs]).alloc (.cells #[Value.slice none 0 0, .slice none 0 0, .slice none 0 0, .int .i64 0, .slice none 0 0] 34)
  have bz := Blk.newAt (w.alloc (.cells #[Value.slice Aroutines c.routines.length nroutines, .slice Arecords c.records.length nrecords, .slice Aglobals c.globals.length nglobals, .int .i64 c.main, .slice Ainstrs c.instrs.length ninstrs] 34)) 34 #[Value.slice none 0 0, .slice none 0 0, .slice none 0 0, .int .i64 0, .slice none 0 0] (w.heap.size + 1) (by simp)
  have HI := Lib.hid (spec_IsVerified c _ _ lo hi (h0.out.below hw1 hhi) (Nat.le_trans hhi hw1.size) htx)
  obtain ⟨b, hb⟩ : ∃ b, verB c = b := ⟨_, rfl⟩
  have HB := Lib.hid hb
  have HB2 : Hid ((verC c).isSome = b) := hb
  have HTX := Lib.hid htx
  clear h htx hb
  go_enter Tryz.func33, Tryz.ntmps33
  go_wp2_with fail
  refine HI.out.mono ?_; rw [HB2.out]; rintro e w2 ⟨rfl, hb⟩
  have z2 : w.heap.size + 2 ≤ w2.heap.size := by have hh := hb.size; simp at hh; omega
  have hw2 := hw1.trans (hb.mono hw1.size)
  have ba2 := ba.later hb
  have bz2 := bz.later hb
  clear hb ba bz hw1 HI
  have cba := ba2.cell
  have lba := ba2.lt
  have cbz := bz2.cell
  have fbz := bz2.frozen
  have lbz := bz2.lt
  cases b with
  | false =>
    have HN : Hid (optC c = zeroC ∧ optE c = []) := by show _ ∧ _; unfold optC optE; rw [HB.out]; exact ⟨rfl, rfl⟩
    go_wp2_with fail
    refine bodyPost_ret (v := .tuple #[.agg #[Value.slice none 0 0, .slice none 0 0, .slice none 0 0, .int .i64 0, .slice none 0 0], .slice none 0 0]) ?_ rfl ⟨_, _, [], [], rfl, ?_, List.nodup_nil, ?_, by simp, by simp, by simp, ?_⟩
    · simp [results, Tryz.results33, go_sem, cbz]
    · rw [HN.out.1]; exact CodeT.ownIn (c := zeroC) .nilRow .nilRow .nilRow .nilRow
    · rw [HN.out.2]; exact .nil_
    · repeat (first | exact hw2 | refine Below.setCell ?_ (by simp <;> omega) _ | refine Below.drew ?_)
  | true =>
    have hcv := verC_valid HB.out
    have hn1 := hcv.n1
    have hn2 := hcv.n2
    clear hcv
    go_wp2_with fail
    refine (spec_l31CloneCode c _ _ lo hi (h0.out.below hw2 hhi) (Nat.le_trans hhi hw2.size) hbk).mono ?_; rintro e w3 ⟨cs, rfl, hr, hb⟩
    obtain ⟨A1, A2, A3, n1, n2, n3, g, cap, rfl, hco⟩ := COwn.of hr hn1
    have hw3 := hw2.trans (hb.mono hw2.size)
    have bz3 := bz2.later hb
    have z3 := hb.size
    have hgb := hco.at_
    obtain ⟨hg1, hg2⟩ := hgb
    obtain ⟨hcc1, hcc2⟩ : c.instrs.length ≤ cap ∧ cap ≤ maxLen := by obtain ⟨t, ho⟩ := hco.ins; exact own_cap ho
    unfold maxLen at hcc2
    clear hb bz2 ba2 hr cba lba cbz fbz lbz
    have k4 : Below w3.heap.size w3 ((w3.alloc (.cells #[Value.slice A1 c.routines.length n1, .slice A2 c.records.length n2, .slice A3 c.globals.length n3, .int .i64 c.main, .slice (some ⟨g, 0, none⟩) c.instrs.length cap] 34)).alloc (.cells #[] 46)) := ((Below.refl _ _).alloc (Nat.le_refl _) _).alloc (by simp) _
    have hw4 := hw3.trans (k4.mono hw3.size)
    have bz4 := bz3.later k4
    have bo4 := (Blk.new w3 34 #[Value.slice A1 c.routines.length n1, .slice A2 c.records.length n2, .slice A3 c.globals.length n3, .int .i64 c.main, .slice (some ⟨g, 0, none⟩) c.instrs.length cap]).alloc (.cells #[] 46)
    have hco4 := hco.later k4
    have own4 : ((w3.alloc (.cells #[Value.slice A1 c.routines.length n1, .slice A2 c.records.length n2, .slice A3 c.globals.length n3, .int .i64 c.main, .slice (some ⟨g, 0, none⟩) c.instrs.length cap] 34)).alloc (.cells #[] 46)).ownsRow (w3.heap.size + 1) 46 2 (.slice (some ⟨w3.heap.size + 1, 0, none⟩) 0 0) 0 [] := by
      have := World.ownsRow_made (base := w3.heap.size + 1) (e := 46) (size := 2) (w3.alloc (.cells #[Value.slice A1 c.routines.length n1, .slice A2 c.records.length n2, .slice A3 c.globals.length n3, .int .i64 c.main, .slice (some ⟨g, 0, none⟩) c.instrs.length cap] 34)) #[] 0 (by simp) (by unfold maxLen; omega) rfl
      simpa using this
    have z4 : w3.heap.size + 1 < ((w3.alloc (.cells #[Value.slice A1 c.routines.length n1, .slice A2 c.records.length n2, .slice A3 c.globals.length n3, .int .i64 c.main, .slice (some ⟨g, 0, none⟩) c.instrs.length cap] 34)).alloc (.cells #[] 46)).heap.size := by simp
    clear hco hw3 bz3 k4
    go_wp2_with fail
    go_loopw [5, 6] (fun ov i wr => ∃ kk : Nat, kk ≤ 3 ∧ i = .int .i64 ((kk : Int) + 1) ∧ wr.ownsRow (w3.heap.size + 1) 46 2 ov (optE_ c kk).length (edVals (optE_ c kk)) ∧ Hid (∀ y ∈ optI_ c kk, y.text.size ≤ 1048576) ∧ COwn w2.heap.size w3.heap.size wr c A1 A2 A3 n1 n2 n3 g cap (optI_ c kk) ∧ Below w.heap.size w wr ∧ Blk wr (w.heap.size + 1) 34 #[Value.slice none 0 0, .slice none 0 0, .slice none 0 0, .int .i64 0, .slice none 0 0] ∧ Blk wr w3.heap.size 34 #[Value.slice A1 c.routines.length n1, .slice A2 c.records.length n2, .slice A3 c.globals.length n3, .int .i64 c.main, .slice (some ⟨g, 0, none⟩) c.instrs.length cap] ∧ w3.heap.size + 1 < wr.heap.size) (fun _ i _ => 4 - (intOf i).toNat)
    case atStart => exact ⟨0, by omega, rfl, own4, HTX.out, hco4, hw4, bz4, bo4, z4⟩
    case round =>
      clear hco4 hw4 bz4 bo4 z4 own4
      obtain ⟨kk, hkk, rfl, own, HT, hco, hw, bz, bo, hz⟩ := hrel
      obtain ⟨wo, rfl⟩ : ∃ wo : World, wo = wr := ⟨_, rfl⟩
      have hl := optI_len c kk
      by_cases hlt : kk < 3
      · have hs := hco.srep
        rw [hl] at hs
        have HC := Lib.hid (spec_l35Pass { c with instrs := optI_ c kk } _ ((kk : Int) + 1) wo _ _ hs (Nat.le_of_lt (by omega)) HT.out)
        have cbo := bo.cell
        have lbo := bo.lt
        clear hs
        go_wp2_with fail
        refine HC.out.mono ?_; rintro e w6 ⟨u, rfl, gu, hb⟩
        have hw6 := hw.trans (hb.mono hw.size)
        have bz6 := bz.later hb
        have bo6 := bo.later hb
        have hco6 := hco.later hb
        have own6 := own_later own hb
        have z6 := hb.size
        have hap6 : Apart _ wo.heap.size w6.heap.size := Apart.of_own own w6.heap.size
        have HP := Lib.hid (fun (j : Nat) (d : EditT) (hd : (findL { c with instrs := optI_ c kk } ((kk : Int) + 1))[j]? = some d) => pass_step (c := { c with instrs := optI_ c kk }) (k := (kk : Int) + 1) (by omega) hd)
        have hfl : (findL { c with instrs := optI_ c kk } ((kk : Int) + 1)).length ≤ (optI_ c kk).length := findL_len _ _
        have hel := optE_len c kk
        have HE1 : Hid (optE_ c (kk + 1) = optE_ c kk ++ findL { c with instrs := optI_ c kk } ((kk : Int) + 1)) := rfl
        have HI1 : Hid (optI_ c (kk + 1) = runE (optI_ c kk) (findL { c with instrs := optI_ c kk } ((kk : Int) + 1))) := rfl
        obtain ⟨es, hes⟩ : ∃ es, findL { c with instrs := optI_ c kk } ((kk : Int) + 1) = es := ⟨_, rfl⟩
        rw [hes] at gu HP hfl HE1 HI1
        have gu := gu.rep
        obtain ⟨Au, cu, rfl, hcu1, hcu2⟩ := gu.shape
        unfold maxLen at hcu2
        have hroom : (optE_ c kk).length + es.length ≤ 240000 := by
          have : kk * c.instrs.length ≤ 3 * 60000 := Nat.mul_le_mul (by omega) hn2
          omega
        clear hes hb hw bz bo hco own HC cbo lbo hfl hel
        have cbo := bo6.cell
        have lbo := bo6.lt
        go_wp2_with fail
        go_loopw [8] (fun i wr => ∃ j : Nat, j ≤ es.length ∧ i = .int .i64 j ∧ Hid (∀ y ∈ runE (optI_ c kk) (es.take j), y.text.size ≤ 1048576) ∧ COwn w2.heap.size w3.heap.size wr c A1 A2 A3 n1 n2 n3 g cap (runE (optI_ c kk) (es.take j)) ∧ wr.ownsRow (w3.heap.size + 1) 46 2 u5 (optE_ c kk).length (edVals (optE_ c kk)) ∧ Below w.heap.size w wr ∧ Blk wr (w.heap.size + 1) 34 #[Value.slice none 0 0, .slice none 0 0, .slice none 0 0, .int .i64 0, .slice none 0 0] ∧ Blk wr w3.heap.size 34 #[Value.slice A1 c.routines.length n1, .slice A2 c.records.length n2, .slice A3 c.globals.length n3, .int .i64 c.main, .slice (some ⟨g, 0, none⟩) c.instrs.length cap] ∧ LRep wr wo.heap.size w6.heap.size 2 EditT.dats (.slice Au es.length cu) es ∧ w6.heap.size ≤ wr.heap.size) (fun i _ => es.length - (intOf i).toNat)
        case atStart => exact ⟨0, Nat.zero_le _, rfl, HT.out, hco6, own6, hw6, bz6, bo6, gu, Nat.le_refl _⟩
        case round =>
          clear own6 hco6 hw6 bz6 bo6 gu hap6 cbo lbo
          obtain ⟨j, hj, rfl, HT2, hco, own, hw, bz, bo, gu, hz2⟩ := hrel
          obtain ⟨wp, rfl⟩ : ∃ wp : World, wp = wr := ⟨_, rfl⟩
          have cbo := bo.cell
          have fbo := bo.frozen
          have lbo := bo.lt
          by_cases hlt2 : j < es.length
          · obtain ⟨d, hd⟩ : ∃ d, es[j]? = some d := ⟨_, List.getElem?_eq_getElem hlt2⟩
            obtain ⟨ge, off, rfl, hge1, hge2, hmem, -, q0, q1⟩ := EditT.at_ gu hd
            obtain ⟨q, x, hdk, hdp, hx, hcan, hfine, -⟩ := HP.out j d hd
            have hrl : (runE (optI_ c kk) (es.take j)).length = c.instrs.length := by rw [runE_len]; exact hl
            have hx : (runE (optI_ c kk) (es.take j))[q]? = some x := hx
            have hcan : CanE (runE (optI_ c kk) (es.take j)) ((kk : Int) + 1) q x := hcan
            have hst2 := step_at (l := runE (optI_ c kk) (es.take j)) hdp hx
            have HR := Lib.hid (run_take (l := optI_ c kk) hd)
            have HT3 : Hid (∀ y ∈ runE (optI_ c kk) (es.take (j + 1)), y.text.size ≤ 1048576) := by rw [HR.out, hst2]; exact apply_text hx HT2.out
            have HM := fun (W : World) (hW : Below wp.heap.size wp W) => apply_any c _ x ((kk : Int) + 1) q W _ _ A1 A2 A3 n1 n2 n3 g cap (hco.later hW) (by have := hW.size; omega) (by rw [hrl]; exact hn2) hfine hx hcan
            rw [← hdk, ← hst2, ← hdp, ← HR.out, hrl] at HM
            have HMM := Lib.hid HM
            have e0 : (0 : Int) ≤ (j : Int) := by omega
            have e8 : (j : Int) < (es.length : Int) := by omega
            have hgl6 : ge < wp.heap.size := by omega
            have hgeB : ge ≠ w3.heap.size := by omega
            have hgeg : ge ≠ g := by omega
            clear HM hst2 hx hcan hfine hdk hdp hd hmem HT2
            go_wp2_with fail
            have sD0 : ∀ i, wp.drew.cell? ⟨w3.heap.size, i, none⟩ = #[Value.slice A1 c.routines.length n1, .slice A2 c.records.length n2, .slice A3 c.globals.length n3, .int .i64 c.main, .slice (some ⟨g, 0, none⟩) c.instrs.length cap][i]? := cbo
            have sD1 : wp.drew.cell? ⟨ge, off + j * 2, none⟩ = some (.int .i64 d.kind) := q0
            have sD2 : wp.drew.cell? ⟨ge, off + j * 2 + 1, none⟩ = some (.int .i64 d.place) := q1
            go_region_held3 (fun w' => (∀ i, w'.cell? ⟨w3.heap.size, i, none⟩ = #[Value.slice A1 c.routines.length n1, .slice A2 c.records.length n2, .slice A3 c.globals.length n3, .int .i64 c.main, .slice (some ⟨g, 0, none⟩) c.instrs.length cap][i]?) ∧ w'.cell? ⟨ge, off + j * 2, none⟩ = some (.int .i64 d.kind) ∧ w'.cell? ⟨ge, off + j * 2 + 1, none⟩ = some (.int .i64 d.place))
              (first | with_reducible exact ⟨sD0, sD1, sD2⟩ | with_reducible exact ⟨s70, s71, s72⟩ | with_reducible exact ⟨s80, s81, s82⟩)
              (first
                | (go_at_call 63; refine (HMM.out _ (Below.refl wp.heap.size wp).drew).mono ?_; rintro e w7 ⟨rfl, hco7, hf⟩; have fbo7 := (bo.drew.fr hf (by simp; omega)).frozen; have s70 : ∀ i, w7.cell? ⟨w3.heap.size, i, none⟩ = #[Value.slice A1 c.routines.length n1, .slice A2 c.records.length n2, .slice A3 c.globals.length n3, .int .i64 c.main, .slice (some ⟨g, 0, none⟩) c.instrs.length cap][i]? := (bo.drew.fr hf (by simp; omega)).cell; have s71 : w7.cell? ⟨ge, off + j * 2, none⟩ = some (.int .i64 d.kind) := (World.cell?_of_block (hf.block ge hgl6 (by simp; omega))).trans q0; have s72 : w7.cell? ⟨ge, off + j * 2 + 1, none⟩ = some (.int .i64 d.place) := (World.cell?_of_block (hf.block ge hgl6 (by simp; omega))).trans q1; have s80 : ∀ i, (((((w7.setCell ⟨w3.heap.size, 0, none⟩ (Value.slice A1 c.routines.length n1)).setCell ⟨w3.heap.size, 1, none⟩ (.slice A2 c.records.length n2)).setCell ⟨w3.heap.size, 2, none⟩ (.slice A3 c.globals.length n3)).setCell ⟨w3.heap.size, 3, none⟩ (.int .i64 c.main)).setCell ⟨w3.heap.size, 4, none⟩ (.slice (some ⟨g, 0, none⟩) c.instrs.length cap)).cell? ⟨w3.heap.size, i, none⟩ = #[Value.slice A1 c.routines.length n1, .slice A2 c.records.length n2, .slice A3 c.globals.length n3, .int .i64 c.main, .slice (some ⟨g, 0, none⟩) c.instrs.length cap][i]? := ((((((bo.drew.fr hf (by simp; omega)).set_ 0 _).set_ 1 _).set_ 2 _).set_ 3 _).set_ 4 _).cell; have s81 : (((((w7.setCell ⟨w3.heap.size, 0, none⟩ (Value.slice A1 c.routines.length n1)).setCell ⟨w3.heap.size, 1, none⟩ (.slice A2 c.records.length n2)).setCell ⟨w3.heap.size, 2, none⟩ (.slice A3 c.globals.length n3)).setCell ⟨w3.heap.size, 3, none⟩ (.int .i64 c.main)).setCell ⟨w3.heap.size, 4, none⟩ (.slice (some ⟨g, 0, none⟩) c.instrs.length cap)).cell? ⟨ge, off + j * 2, none⟩ = some (.int .i64 d.kind) := (World.cell?_setCell_other _ _ _ _ (by simp <;> omega)).trans ((World.cell?_setCell_other _ _ _ _ (by simp <;> omega)).trans ((World.cell?_setCell_other _ _ _ _ (by simp <;> omega)).trans ((World.cell?_setCell_other _ _ _ _ (by simp <;> omega)).trans ((World.cell?_setCell_other _ _ _ _ (by simp <;> omega)).trans s71)))); have s82 : (((((w7.setCell ⟨w3.heap.size, 0, none⟩ (Value.slice A1 c.routines.length n1)).setCell ⟨w3.heap.size, 1, none⟩ (.slice A2 c.records.length n2)).setCell ⟨w3.heap.size, 2, none⟩ (.slice A3 c.globals.length n3)).setCell ⟨w3.heap.size, 3, none⟩ (.int .i64 c.main)).setCell ⟨w3.heap.size, 4, none⟩ (.slice (some ⟨g, 0, none⟩) c.instrs.length cap)).cell? ⟨ge, off + j * 2 + 1, none⟩ = some (.int .i64 d.place) := (World.cell?_setCell_other _ _ _ _ (by simp <;> omega)).trans ((World.cell?_setCell_other _ _ _ _ (by simp <;> omega)).trans ((World.cell?_setCell_other _ _ _ _ (by simp <;> omega)).trans ((World.cell?_setCell_other _ _ _ _ (by simp <;> omega)).trans ((World.cell?_setCell_other _ _ _ _ (by simp <;> omega)).trans s72))))))
            have bz7 := bz.drew.fr hf (by simp; omega)
            have bo7 := bo.drew.fr hf (by simp; omega)
            have own7 : w7.ownsRow (w3.heap.size + 1) 46 2 u5 (optE_ c kk).length (edVals (optE_ c kk)) := own_block own (fun b hb => hf.block b (own.lt b hb).2 (by have := (own.lt b hb).1; simp; omega))
            have gu7 := LRep.fr (w := wp.drew) (LRep.same gu (Same.refl wp).drew) hf (fun b hb => by rw [List.mem_singleton.1 hb]; omega) hz2
            have hw7 : Below w.heap.size w w7 := (hw.drew).trans (hf.below (B := w.heap.size) (fun b hb => by rw [List.mem_singleton.1 hb]; omega) hw.size)
            have z7 : wp.heap.size ≤ w7.heap.size := hf.size
            have bz8 : Blk (((((w7.setCell ⟨w3.heap.size, 0, none⟩ (Value.slice A1 c.routines.length n1)).setCell ⟨w3.heap.size, 1, none⟩ (.slice A2 c.records.length n2)).setCell ⟨w3.heap.size, 2, none⟩ (.slice A3 c.globals.length n3)).setCell ⟨w3.heap.size, 3, none⟩ (.int .i64 c.main)).setCell ⟨w3.heap.size, 4, none⟩ (.slice (some ⟨g, 0, none⟩) c.instrs.length cap)) (w.heap.size + 1) 34 #[Value.slice none 0 0, .slice none 0 0, .slice none 0 0, .int .i64 0, .slice none 0 0] := ((((bz7.far (by simp; omega) _).far (by simp; omega) _).far (by simp; omega) _).far (by simp; omega) _).far (by simp; omega) _
            have bo8 : Blk (((((w7.setCell ⟨w3.heap.size, 0, none⟩ (Value.slice A1 c.routines.length n1)).setCell ⟨w3.heap.size, 1, none⟩ (.slice A2 c.records.length n2)).setCell ⟨w3.heap.size, 2, none⟩ (.slice A3 c.globals.length n3)).setCell ⟨w3.heap.size, 3, none⟩ (.int .i64 c.main)).setCell ⟨w3.heap.size, 4, none⟩ (.slice (some ⟨g, 0, none⟩) c.instrs.length cap)) w3.heap.size 34 #[Value.slice A1 c.routines.length n1, .slice A2 c.records.length n2, .slice A3 c.globals.length n3, .int .i64 c.main, .slice (some ⟨g, 0, none⟩) c.instrs.length cap] := ((((bo7.set_ 0 _).set_ 1 _).set_ 2 _).set_ 3 _).set_ 4 _
            have hw8 : Below w.heap.size w (((((w7.setCell ⟨w3.heap.size, 0, none⟩ (Value.slice A1 c.routines.length n1)).setCell ⟨w3.heap.size, 1, none⟩ (.slice A2 c.records.length n2)).setCell ⟨w3.heap.size, 2, none⟩ (.slice A3 c.globals.length n3)).setCell ⟨w3.heap.size, 3, none⟩ (.int .i64 c.main)).setCell ⟨w3.heap.size, 4, none⟩ (.slice (some ⟨g, 0, none⟩) c.instrs.length cap)) := ((((hw7.setCell (by simp; omega) _).setCell (by simp; omega) _).setCell (by simp; omega) _).setCell (by simp; omega) _).setCell (by simp; omega) _
            have hco8 : COwn w2.heap.size w3.heap.size (((((w7.setCell ⟨w3.heap.size, 0, none⟩ (Value.slice A1 c.routines.length n1)).setCell ⟨w3.heap.size, 1, none⟩ (.slice A2 c.records.length n2)).setCell ⟨w3.heap.size, 2, none⟩ (.slice A3 c.globals.length n3)).setCell ⟨w3.heap.size, 3, none⟩ (.int .i64 c.main)).setCell ⟨w3.heap.size, 4, none⟩ (.slice (some ⟨g, 0, none⟩) c.instrs.length cap)) c A1 A2 A3 n1 n2 n3 g cap (runE (optI_ c kk) (es.take (j + 1))) := ((((hco7.far (Nat.le_refl _) _).far (Nat.le_refl _) _).far (Nat.le_refl _) _).far (Nat.le_refl _) _).far (Nat.le_refl _) _
            have gu8 : LRep (((((w7.setCell ⟨w3.heap.size, 0, none⟩ (Value.slice A1 c.routines.length n1)).setCell ⟨w3.heap.size, 1, none⟩ (.slice A2 c.records.length n2)).setCell ⟨w3.heap.size, 2, none⟩ (.slice A3 c.globals.length n3)).setCell ⟨w3.heap.size, 3, none⟩ (.int .i64 c.main)).setCell ⟨w3.heap.size, 4, none⟩ (.slice (some ⟨g, 0, none⟩) c.instrs.length cap)) wo.heap.size w6.heap.size 2 EditT.dats (.slice (some ⟨ge, off, none⟩) es.length cu) es := ((((gu7.setFar (.inl (by simp; omega)) _).setFar (.inl (by simp; omega)) _).setFar (.inl (by simp; omega)) _).setFar (.inl (by simp; omega)) _).setFar (.inl (by simp; omega)) _
            have own8 : ((((((w7.setCell ⟨w3.heap.size, 0, none⟩ (Value.slice A1 c.routines.length n1)).setCell ⟨w3.heap.size, 1, none⟩ (.slice A2 c.records.length n2)).setCell ⟨w3.heap.size, 2, none⟩ (.slice A3 c.globals.length n3)).setCell ⟨w3.heap.size, 3, none⟩ (.int .i64 c.main)).setCell ⟨w3.heap.size, 4, none⟩ (.slice (some ⟨g, 0, none⟩) c.instrs.length cap))).ownsRow (w3.heap.size + 1) 46 2 u5 (optE_ c kk).length (edVals (optE_ c kk)) := by
              have hne : u5.ownBlock ≠ some w3.heap.size := fun e => by have := (own.lt _ e).1; omega
              exact ownsRow_setCell_other (ownsRow_setCell_other (ownsRow_setCell_other (ownsRow_setCell_other (ownsRow_setCell_other own7 hne _) hne _) hne _) hne _) hne _
            have z8 : ((((((w7.setCell ⟨w3.heap.size, 0, none⟩ (Value.slice A1 c.routines.length n1)).setCell ⟨w3.heap.size, 1, none⟩ (.slice A2 c.records.length n2)).setCell ⟨w3.heap.size, 2, none⟩ (.slice A3 c.globals.length n3)).setCell ⟨w3.heap.size, 3, none⟩ (.int .i64 c.main)).setCell ⟨w3.heap.size, 4, none⟩ (.slice (some ⟨g, 0, none⟩) c.instrs.length cap))).heap.size = w7.heap.size := by simp [World.setCell]
            clear s70 s71 s72 s80 s81 s82 sD0 sD1 sD2 bz7 bo7 hw7 hco7 hf fbo7 bz bo hw hco cbo fbo lbo q0 q1 HMM own own7 gu gu7
            obtain ⟨V, hV⟩ : ∃ V, (((((w7.setCell ⟨w3.heap.size, 0, none⟩ (Value.slice A1 c.routines.length n1)).setCell ⟨w3.heap.size, 1, none⟩ (.slice A2 c.records.length n2)).setCell ⟨w3.heap.size, 2, none⟩ (.slice A3 c.globals.length n3)).setCell ⟨w3.heap.size, 3, none⟩ (.int .i64 c.main)).setCell ⟨w3.heap.size, 4, none⟩ (.slice (some ⟨g, 0, none⟩) c.instrs.length cap)) = V := ⟨_, rfl⟩
            rw [hV] at bz8 bo8 hw8 hco8 z8 gu8 own8 ⊢
            clear hV
            go_wp2_with fail
            go_roundw
            case rel => exact ⟨j + 1, by omega, by go_num, HT3, hco8, own8, hw8, bz8, bo8, gu8, by omega⟩
            case measure => simp [intOf]; omega
          · obtain rfl : j = es.length := by omega
            rw [List.take_length] at hco HT2
            rw [← HI1.out] at hco HT2
            obtain ⟨us, hu1, hu2⟩ := Rep.row_ gu
            have hone := hu2.one
            have hus : us = edVals es := RepL.eq hu2 (edVals_rep es)
            subst hus
            obtain ⟨i1, hi1, hza, hzb, hzc⟩ := info_parts info_edit
            have hm : (optE_ c kk).length + es.length ≤ maxLen := by unfold maxLen; omega
            have hm2 : ((optE_ c kk).length + es.length) * 16 ≤ 140737488355328 := by omega
            go_wp2_with (first | (at_builtin; refine wpList_append_any _ rfl (.tmp 35) (.tmp 36) 49 rfl (w3.heap.size + 1) 46 i1 _ 2 16 Tryz.underlying49 hi1 hza hzb hzc rfl (by decide) _ _ _ rfl own _ _ _ es.length (edVals es) rfl hu1 hone hm hm2 (by omega) ?_))
            intro v2 w8 hown8 hg8 hat8
            have a8 := bz.grown hg8 (fun e => by have := (own.lt _ e.symm).1; omega)
            have b8 := bo.grown hg8 (fun e => by have := (own.lt _ e.symm).1; omega)
            have hw8 := below_push hw hw.size (own_base own (fun b hb => by have := (own.lt b hb).1; omega)) hg8
            have z8 := hg8.size
            have hco8 := hco.grown hg8 (by omega) (fun b hb => by have := (own.lt b hb).1; omega)
            have hown9 : w8.ownsRow (w3.heap.size + 1) 46 2 v2 (optE_ c (kk + 1)).length (edVals (optE_ c (kk + 1))) := by
              rw [HE1.out, List.length_append, edVals_app]; exact hown8
            clear hown8 own bz bo hw hco gu hat8 hg8 hu1 hu2 hone cbo fbo lbo
            go_wp2_with fail
            go_roundw
            case rel => exact ⟨kk + 1, by omega, by go_num, hown9, HT2, hco8, hw8, a8, b8, by omega⟩
            case measure => simp [intOf]; omega
      · obtain rfl : kk = 3 := by omega
        have HY : Hid (optC c = { c with instrs := optI_ c 3 } ∧ optE c = optE_ c 3) := by show _ ∧ _; unfold optC optE; rw [HB.out]; exact ⟨rfl, rfl⟩
        obtain ⟨Am, cm, hAm, hm1, hm2⟩ : ∃ A cap, u5 = .slice A (optE_ c 3).length cap ∧ (optE_ c 3).length ≤ cap ∧ cap ≤ maxLen := by obtain ⟨A, cap, h1, h2, h3, -⟩ := (Rds.of_own own).shape; exact ⟨A, cap, h1, h2, h3⟩
        subst hAm
        have hal := hco.all
        rw [hl] at hal
        have HAL := Lib.hid hal
        have hed : ∃ G, EdOwn wo G (.slice Am (optE_ c 3).length cm) (optE_ c 3) ∧ ∀ b ∈ G, w3.heap.size + 1 ≤ b := ed_plain own
        have HOW := Lib.hid hed
        have cbz := bz.cell
        have fbz := bz.frozen
        have lbz := bz.lt
        have cbo := bo.cell
        have lbo := bo.lt
        clear hal hco own hed
        go_wp2_with fail
        all_goals
          go_wp2_with fail
          obtain ⟨F, hF1, hF2, hF3⟩ := HAL.out
          obtain ⟨G, hG1, hG2⟩ := HOW.out
          refine bodyPost_ret (v := .tuple #[.agg #[Value.slice A1 c.routines.length n1, .slice A2 c.records.length n2, .slice A3 c.globals.length n3, .int .i64 c.main, .slice (some ⟨g, 0, none⟩) c.instrs.length cap], .slice Am (optE_ c 3).length cm]) ?_ rfl ⟨_, _, F, G, rfl, ?_, hF2, ?_, fun b hb => by have := hF3 b hb; omega, fun b hb => by have := hG2 b hb; omega, fun b hb hg => by have := hF3 b hb; have := hG2 b hg; omega, ?_⟩
          · simp [results, Tryz.results33, go_sem, cbz]
          · rw [HY.out.1]
            refine OwnVs.fr (F := [w.heap.size + 1]) hF1 ?_ (fun b hb => by have := hF3 b hb; simp; omega)
            repeat (first | exact Fr.refl _ _ | refine Fr.set_ ?_ (by simp) _ | refine Fr.drew ?_)
          · rw [HY.out.2]
            refine EdOwn.fr (G := [w.heap.size + 1]) hG1 ?_ (fun b hb => by have := hG2 b hb; simp; omega)
            repeat (first | exact Fr.refl _ _ | refine Fr.set_ ?_ (by simp) _ | refine Fr.drew ?_)
          · repeat (first | exact hw | refine Below.setCell ?_ (by simp <;> omega) _ | refine Below.drew ?_)
end Go.Proofs.YtekobbeoaalibaaGreatDoor
end

section
namespace Go.Proofs.YtekobbeoaalibaaGreatDoor
open Go.RowKit
set_option linter.unusedVariables false

theorem opt_cnt (c : CodeT) : (optC c).cnt ≤ c.cnt := by
  unfold optC
  split
  · unfold CodeT.cnt
    simp only []
    rw [sumOf_len (b := InsT.cnt) (n := 5) (fun _ => rfl), sumOf_len (b := InsT.cnt) (n := 5) (fun _ => rfl), optI_len c 3]
    exact Nat.le_refl _
  · exact Nat.zero_le _
theorem optE_cnt (c : CodeT) : sumOf EditT.cnt (optE c) ≤ 360000 := by
  rw [sumOf_len (b := EditT.cnt) (n := 2) (fun _ => rfl)]
  unfold optE
  split
  · next hv =>
    have h1 := optE_len c 3
    have h2 := (verC_valid hv).n2
    omega
  · simp
end Go.Proofs.YtekobbeoaalibaaGreatDoor
end
