/- The verifier of codes, in plain words: shapes of the stack, a list of work, one step, the whole run. No program. -/
import Derived.Test.YtekobbeoaalibaaGreatDoorTyAll
import Derived.Lib.Strings
import Derived.Lib.LastIndexByte
import Derived.Lib.Repeat
namespace Go.Proofs.YtekobbeoaalibaaGreatDoor
open Go.RowKit
set_option linter.unusedVariables false

/-- is A of an operation a label? -/
def jumpB (op : Int) : Bool := decide (op = 13 ∨ op = 15 ∨ op = 17 ∨ op = 19 ∨ op = 27)
/-- the first byte of a shape -/
def headN (s : ByteArray) : Nat := byteAt s 0
/-- is it a routine's? -/
def routB (s : ByteArray) : Bool := decide (headN s ≤ 90)
def slotsN (s : ByteArray) : Nat := if headN s ≤ 90 then headN s - 65 else headN s - 97
def goodB (s : ByteArray) : Bool := decide (0 < s.size) && (decide (65 ≤ headN s ∧ headN s ≤ 89) || decide (97 ≤ headN s ∧ headN s ≤ 121))
/-- the stack of a shape ends so -/
def endsB (s t : ByteArray) : Bool := decide (t.size < s.size) && Lib.hasSuffix s.data.toList t.data.toList
def cutN (s : ByteArray) (k : Nat) : ByteArray := s.extract 0 (s.size - k)
/-- b values -/
def vees (b : Nat) : ByteArray := ⟨(Lib.repeatL [118] b).toArray⟩
/-- the last mark of a shape, counted in the stack; -1: none -/
def markI (s : ByteArray) : Int := Lib.lastIndexByte (s.extract 1 s.size) 109
/-- the shape behind an instruction and the one at its label (empty: there is none); none: it may not stand here -/
def after (x : InsT) (s : ByteArray) : Option (ByteArray × ByteArray) :=
  if x.op = 5 then (if x.a < (slotsN s : Int) then some (s ++ ⟨#[118]⟩, ⟨#[]⟩) else none)
  else if x.op ≤ 10 then some (s ++ ⟨#[118]⟩, ⟨#[]⟩)
  else if x.op ≤ 12 then (if endsB s (vees x.b.toNat) = true then some (cutN s x.b.toNat ++ ⟨#[118]⟩, ⟨#[]⟩) else none)
  else if x.op = 13 then some (s ++ ⟨#[109]⟩, if x.a = -1 then ⟨#[]⟩ else s)
  else if x.op = 14 then (if markI s < 0 then none else some (s.extract 0 (1 + (markI s).toNat), ⟨#[]⟩))
  else if x.op = 15 then some (⟨#[]⟩, s)
  else if x.op = 16 then some (⟨#[]⟩, ⟨#[]⟩)
  else if x.op = 17 then some (s, s)
  else if x.op = 18 then some (s, ⟨#[]⟩)
  else if x.op = 19 then (if endsB s ⟨#[109, 118]⟩ = true then some (cutN s 2 ++ ⟨#[118]⟩, cutN s 2) else none)
  else if x.op = 20 then (if endsB s ⟨#[118]⟩ = true then some (cutN s 1 ++ ⟨#[109]⟩, ⟨#[]⟩) else none)
  else if x.op = 21 then (if endsB s ⟨#[109, 118]⟩ = true then some (cutN s 2 ++ ⟨#[118]⟩, ⟨#[]⟩) else none)
  else if x.op = 22 then (if endsB s ⟨#[118]⟩ = true then some (cutN s 1 ++ ⟨#[115]⟩, ⟨#[]⟩) else none)
  else if x.op = 23 then (if endsB s ⟨#[115, 118]⟩ = true then some (cutN s 2 ++ ⟨#[118]⟩, ⟨#[]⟩) else none)
  else if x.op = 24 then (if routB s = true ∧ endsB s ⟨#[118]⟩ = true then some (⟨#[]⟩, ⟨#[]⟩) else none)
  else if x.op = 25 then (if routB s = true then some (⟨#[]⟩, ⟨#[]⟩) else none)
  else if x.op = 26 then (if routB s = true ∧ endsB s ⟨#[118]⟩ = true then some (cutN s 1, ⟨#[]⟩) else none)
  else if x.op = 27 then some (s ++ ⟨#[118]⟩, ⟨#[UInt8.ofNat (97 + slotsN s)]⟩)
  else if x.op = 28 then (if routB s = false ∧ endsB s ⟨#[118]⟩ = true then some (⟨#[]⟩, ⟨#[]⟩) else none)
  else if x.op = 29 then (if endsB s ⟨#[118]⟩ = true then some (s, ⟨#[]⟩) else none)
  else (if endsB s ⟨#[118]⟩ = true then some (cutN s 1, ⟨#[]⟩) else none)

/-- the verifier's state: the shape of each instruction (empty: not reached), the work (the next one last) -/
structure St where
  sh : List ByteArray
  wk : List Nat
/-- the shape at i -/
def St.at_ (st : St) (i : Nat) : ByteArray := st.sh.getD i ⟨#[]⟩
/-- s reaches an instruction -/
def reach (st : St) (p : Int) (s : ByteArray) : Option St :=
  if s.size = 0 then some st
  else if p < 0 ∨ (st.sh.length : Int) ≤ p then none
  else if (st.at_ p.toNat).size = 0 then some ⟨st.sh.set p.toNat s, st.wk ++ [p.toNat]⟩
  else if st.at_ p.toNat = s then some st else none
/-- a jump back to no tick -/
def backB (c : List InsT) (i : Nat) (x : InsT) : Bool := jumpB x.op && decide (0 ≤ x.a ∧ x.a ≤ i) && !(match c[x.a.toNat]? with | some y => y.op == 18 | none => false)
def stepAt (c : List InsT) (st : St) (i : Nat) (x : InsT) : Option St :=
  if backB c i x = true then none else
  match after x (st.at_ i) with
  | none => none
  | some (nx, lb) => (reach st ((i : Int) + 1) nx).bind fun s1 => reach s1 x.a lb
def step (c : List InsT) (st : St) (i : Nat) : Option St := match c[i]? with | none => none | some x => stepAt c st i x
def empties (l : List ByteArray) : Nat := l.countP fun s => decide (s.size = 0)
def St.mu (st : St) : Nat := 2 * empties st.sh + st.wk.length
def runV (c : List InsT) : Nat → St → Option (List ByteArray)
  | 0, st => some st.sh
  | f + 1, st => match st.wk.getLast? with
    | none => some st.sh
    | some i => match step c ⟨st.sh, st.wk.dropLast⟩ i with
      | none => none
      | some s1 => runV c f s1
def verd (c : List InsT) (st : St) : Option (List ByteArray) := runV c st.mu st

/-- what holds of every state -/
structure Inv (n : Nat) (st : St) : Prop where
  len : st.sh.length = n
  wk : ∀ i ∈ st.wk, i < n ∧ 0 < (st.at_ i).size
  good : ∀ s ∈ st.sh, 0 < s.size → goodB s = true ∧ s.size + empties st.sh ≤ n + 1
  room : st.wk.length + empties st.sh ≤ n
/-- a shape that may be given -/
def Fit (n k : Nat) (s : ByteArray) : Prop := 0 < s.size → goodB s = true ∧ s.size + k ≤ n + 2

theorem size_one (b : UInt8) : (⟨#[b]⟩ : ByteArray).size = 1 := rfl
theorem size_two (a b : UInt8) : (⟨#[a, b]⟩ : ByteArray).size = 2 := rfl
theorem size_nil : (⟨#[]⟩ : ByteArray).size = 0 := rfl
theorem at_mem {st : St} {i : Nat} (h : 0 < (st.at_ i).size) : st.at_ i ∈ st.sh := by
  unfold St.at_ at h ⊢
  rw [List.getD] at h ⊢
  cases hc : st.sh[i]? with
  | none => rw [hc] at h; exact absurd h (by simp [ByteArray.size])
  | some s => exact List.mem_of_getElem? hc
theorem at_lt {st : St} {i : Nat} (h : i < st.sh.length) : st.sh[i]? = some (st.at_ i) := by
  unfold St.at_; rw [List.getD, List.getElem?_eq_getElem h]; rfl
theorem at_set {l : List ByteArray} {i j : Nat} {s : ByteArray} {w w' : List Nat} (h : i < l.length) : (St.mk (l.set i s) w).at_ j = if i = j then s else (St.mk l w').at_ j := by
  unfold St.at_
  simp only [List.getD, List.getElem?_set]
  by_cases e : i = j
  · subst e; simp [h]
  · simp [e]
theorem empties_set : ∀ {l : List ByteArray} {i : Nat} {s : ByteArray}, 0 < s.size → i < l.length → (l.getD i ⟨#[]⟩).size = 0 → empties (l.set i s) + 1 = empties l
  | [], i, s, _, h, _ => by simp at h
  | t :: l, 0, s, hs, _, ht => by
    have e1 : decide (s.size = 0) = false := decide_eq_false (by omega)
    have e2 : decide (t.size = 0) = true := decide_eq_true ht
    simp only [empties, List.set_cons_zero, List.countP_cons, e1, e2]; rfl
  | t :: l, i + 1, s, hs, h, ht => by
    have := empties_set (l := l) (i := i) hs (by simpa using h) ht
    simp only [empties, List.set_cons_succ, List.countP_cons] at this ⊢
    omega
theorem reach_inv {n : Nat} {st st' : St} {p : Int} {s : ByteArray} (h : Inv n st) (hs : Fit n (empties st.sh) s) (hr : reach st p s = some st') :
    Inv n st' ∧ st'.mu ≤ st.mu ∧ empties st'.sh ≤ empties st.sh ∧ (∀ i, 0 < (st.at_ i).size → st'.at_ i = st.at_ i) := by
  unfold reach at hr
  by_cases h0 : s.size = 0
  · rw [if_pos h0] at hr; injection hr with hr; subst hr; exact ⟨h, Nat.le_refl _, Nat.le_refl _, fun _ _ => rfl⟩
  rw [if_neg h0] at hr
  by_cases h1 : p < 0 ∨ (st.sh.length : Int) ≤ p
  · rw [if_pos h1] at hr; cases hr
  rw [if_neg h1] at hr
  have hlt : p.toNat < st.sh.length := by omega
  by_cases h2 : (st.at_ p.toNat).size = 0
  · rw [if_pos h2] at hr
    injection hr with hr
    subst hr
    have he := empties_set (s := s) (by omega) hlt h2
    obtain ⟨hg, hz⟩ := hs (by omega)
    refine ⟨⟨by simp [h.len], fun i hi => ?_, fun t ht htp => ?_, ?_⟩, ?_, by simp only; omega, fun i hi => ?_⟩
    · rw [at_set (w' := st.wk) hlt]
      rcases List.mem_append.1 hi with hi | hi
      · have := h.wk i hi
        refine ⟨this.1, ?_⟩
        split
        · omega
        · exact this.2
      · obtain rfl := List.mem_singleton.1 hi
        exact ⟨by rw [← h.len]; exact hlt, by simp; omega⟩
    · simp only
      rcases List.mem_or_eq_of_mem_set ht with hm | rfl
      · have := h.good t hm htp; exact ⟨this.1, by omega⟩
      · exact ⟨hg, by omega⟩
    · have := h.room; simp; omega
    · simp [St.mu]; omega
    · rw [at_set (w' := st.wk) hlt]
      rw [if_neg]
      rintro rfl
      omega
  · rw [if_neg h2] at hr
    split at hr
    · injection hr with hr; subst hr; exact ⟨h, Nat.le_refl _, Nat.le_refl _, fun _ _ => rfl⟩
    · cases hr

theorem byteAt_ext {s t : ByteArray} (h : s.data.toList[0]? = t.data.toList[0]?) : headN s = headN t := by
  unfold headN byteAt; simp only [List.getD]; rw [h]
theorem head_append (s t : ByteArray) (h : 0 < s.size) : headN (s ++ t) = headN s := by
  apply byteAt_ext
  rw [ByteArray.data_append, Array.toList_append, List.getElem?_append_left]
  simpa using h
theorem head_extract (s : ByteArray) (k : Nat) (h : 0 < k) : headN (s.extract 0 k) = headN s := by
  apply byteAt_ext
  rw [Lib.extract_data, List.drop_zero, List.getElem?_take]
  simp; omega
theorem good_append (s t : ByteArray) (h : goodB s = true) : goodB (s ++ t) = true := by
  have hz : 0 < s.size := by unfold goodB at h; simp at h; exact h.1
  unfold goodB at h ⊢
  rw [head_append s t hz]
  simp only [ByteArray.size_append, Bool.and_eq_true, decide_eq_true_eq] at h ⊢
  exact ⟨by omega, h.2⟩
theorem good_extract (s : ByteArray) (k : Nat) (h : goodB s = true) (hk : 0 < k) : goodB (s.extract 0 k) = true := by
  unfold goodB at h ⊢
  rw [head_extract s k hk]
  simp only [ByteArray.size_extract, Bool.and_eq_true, decide_eq_true_eq] at h ⊢
  exact ⟨by omega, h.2⟩
theorem good_size {s : ByteArray} (h : goodB s = true) : 0 < s.size := by unfold goodB at h; simp at h; exact h.1
theorem ends_size {s t : ByteArray} (h : endsB s t = true) : t.size < s.size := by unfold endsB at h; simp at h; exact h.1
theorem cut_size (s : ByteArray) (k : Nat) : (cutN s k).size = s.size - k := by simp [cutN]
theorem vees_size (b : Nat) : (vees b).size = b := by simp [vees, ByteArray.size, Lib.repeatL_length]
theorem good_cut {s : ByteArray} {k : Nat} (h : goodB s = true) (hk : k < s.size) : goodB (cutN s k) = true := good_extract s _ h (by omega)
theorem slots_le {s : ByteArray} (h : goodB s = true) : slotsN s ≤ 24 := by
  unfold goodB at h; unfold slotsN; simp at h; split <;> omega
theorem good_create {s : ByteArray} (h : goodB s = true) : goodB ⟨#[UInt8.ofNat (97 + slotsN s)]⟩ = true := by
  have := slots_le h
  have e : headN ⟨#[UInt8.ofNat (97 + slotsN s)]⟩ = 97 + slotsN s := by
    simp [headN, byteAt]; omega
  unfold goodB
  rw [e]
  simp [ByteArray.size]; omega
theorem good_start {k : Nat} (h : k ≤ 24) : goodB ⟨#[UInt8.ofNat (65 + k)]⟩ = true := by
  have e : headN ⟨#[UInt8.ofNat (65 + k)]⟩ = 65 + k := by
    simp [headN, byteAt]; omega
  unfold goodB
  rw [e]
  simp [ByteArray.size]; omega
theorem mark_lt (s : ByteArray) : markI s < s.size ∧ (0 ≤ markI s → 1 + markI s < s.size) := by
  have hz : (s.extract 1 s.size).size = s.size - 1 := by simp
  rcases Lib.lastIndexByte_spec (s.extract 1 s.size) 109 with ⟨e, _⟩ | ⟨i, hi, e, _⟩ <;> unfold markI <;> omega
theorem after_fit {x : InsT} {s nx lb : ByteArray} {n k : Nat} (hg : goodB s = true) (hk : s.size + k ≤ n + 1) (h : after x s = some (nx, lb)) : Fit n k nx ∧ Fit n k lb := by
  have hz := good_size hg
  have F0 : Fit n k ⟨#[]⟩ := fun h => absurd h (by simp [ByteArray.size])
  have FS : Fit n k s := fun _ => ⟨hg, by omega⟩
  have FA : ∀ b : UInt8, Fit n k (s ++ ⟨#[b]⟩) := fun b _ => ⟨good_append _ _ hg, by rw [ByteArray.size_append, size_one]; omega⟩
  have FC : ∀ j, j < s.size → Fit n k (cutN s j) := fun j hj _ => ⟨good_cut hg hj, by rw [cut_size]; omega⟩
  have FCA : ∀ j (b : UInt8), j < s.size → Fit n k (cutN s j ++ ⟨#[b]⟩) := fun j b hj _ => ⟨good_append _ _ (good_cut hg hj), by rw [ByteArray.size_append, cut_size, size_one]; omega⟩
  have FL : Fit n k ⟨#[UInt8.ofNat (97 + slotsN s)]⟩ := fun _ => ⟨good_create hg, by rw [size_one]; omega⟩
  have E1 : ∀ {b : UInt8}, endsB s ⟨#[b]⟩ = true → 1 < s.size := fun h => ends_size h
  have E2 : ∀ {b c : UInt8}, endsB s ⟨#[b, c]⟩ = true → 2 < s.size := fun h => ends_size h
  unfold after at h
  by_cases q1 : x.op = 5
  · rw [if_pos q1] at h; split at h
    · injection h with h; injection h with h1 h2; subst h1 h2; exact ⟨FA _, F0⟩
    · cases h
  rw [if_neg q1] at h
  by_cases q2 : x.op ≤ 10
  · rw [if_pos q2] at h; injection h with h; injection h with h1 h2; subst h1 h2; exact ⟨FA _, F0⟩
  rw [if_neg q2] at h
  by_cases q3 : x.op ≤ 12
  · rw [if_pos q3] at h; split at h
    · rename_i he
      have := ends_size he; rw [vees_size] at this
      injection h with h; injection h with h1 h2; subst h1 h2; exact ⟨FCA _ _ this, F0⟩
    · cases h
  rw [if_neg q3] at h
  by_cases q4 : x.op = 13
  · rw [if_pos q4] at h; injection h with h; injection h with h1 h2; subst h1 h2
    refine ⟨FA _, ?_⟩
    split
    · exact F0
    · exact FS
  rw [if_neg q4] at h
  by_cases q5 : x.op = 14
  · rw [if_pos q5] at h; split at h
    · cases h
    · injection h with h; injection h with h1 h2; subst h1 h2
      refine ⟨fun _ => ⟨good_extract _ _ hg (by omega), ?_⟩, F0⟩
      have := (mark_lt s).2 (by omega)
      simp only [ByteArray.size_extract]; omega
  rw [if_neg q5] at h
  by_cases q6 : x.op = 15
  · rw [if_pos q6] at h; injection h with h; injection h with h1 h2; subst h1 h2; exact ⟨F0, FS⟩
  rw [if_neg q6] at h
  by_cases q7 : x.op = 16
  · rw [if_pos q7] at h; injection h with h; injection h with h1 h2; subst h1 h2; exact ⟨F0, F0⟩
  rw [if_neg q7] at h
  by_cases q8 : x.op = 17
  · rw [if_pos q8] at h; injection h with h; injection h with h1 h2; subst h1 h2; exact ⟨FS, FS⟩
  rw [if_neg q8] at h
  by_cases q9 : x.op = 18
  · rw [if_pos q9] at h; injection h with h; injection h with h1 h2; subst h1 h2; exact ⟨FS, F0⟩
  rw [if_neg q9] at h
  by_cases q10 : x.op = 19
  · rw [if_pos q10] at h; split at h
    · rename_i he; injection h with h; injection h with h1 h2; subst h1 h2; exact ⟨FCA _ _ (E2 he), FC _ (E2 he)⟩
    · cases h
  rw [if_neg q10] at h
  by_cases q11 : x.op = 20
  · rw [if_pos q11] at h; split at h
    · rename_i he; injection h with h; injection h with h1 h2; subst h1 h2; exact ⟨FCA _ _ (E1 he), F0⟩
    · cases h
  rw [if_neg q11] at h
  by_cases q12 : x.op = 21
  · rw [if_pos q12] at h; split at h
    · rename_i he; injection h with h; injection h with h1 h2; subst h1 h2; exact ⟨FCA _ _ (E2 he), F0⟩
    · cases h
  rw [if_neg q12] at h
  by_cases q13 : x.op = 22
  · rw [if_pos q13] at h; split at h
    · rename_i he; injection h with h; injection h with h1 h2; subst h1 h2; exact ⟨FCA _ _ (E1 he), F0⟩
    · cases h
  rw [if_neg q13] at h
  by_cases q14 : x.op = 23
  · rw [if_pos q14] at h; split at h
    · rename_i he; injection h with h; injection h with h1 h2; subst h1 h2; exact ⟨FCA _ _ (E2 he), F0⟩
    · cases h
  rw [if_neg q14] at h
  by_cases q15 : x.op = 24
  · rw [if_pos q15] at h; split at h
    · injection h with h; injection h with h1 h2; subst h1 h2; exact ⟨F0, F0⟩
    · cases h
  rw [if_neg q15] at h
  by_cases q16 : x.op = 25
  · rw [if_pos q16] at h; split at h
    · injection h with h; injection h with h1 h2; subst h1 h2; exact ⟨F0, F0⟩
    · cases h
  rw [if_neg q16] at h
  by_cases q17 : x.op = 26
  · rw [if_pos q17] at h; split at h
    · rename_i he; injection h with h; injection h with h1 h2; subst h1 h2; exact ⟨FC _ (E1 he.2), F0⟩
    · cases h
  rw [if_neg q17] at h
  by_cases q18 : x.op = 27
  · rw [if_pos q18] at h; injection h with h; injection h with h1 h2; subst h1 h2; exact ⟨FA _, FL⟩
  rw [if_neg q18] at h
  by_cases q19 : x.op = 28
  · rw [if_pos q19] at h; split at h
    · injection h with h; injection h with h1 h2; subst h1 h2; exact ⟨F0, F0⟩
    · cases h
  rw [if_neg q19] at h
  by_cases q20 : x.op = 29
  · rw [if_pos q20] at h; split at h
    · injection h with h; injection h with h1 h2; subst h1 h2; exact ⟨FS, F0⟩
    · cases h
  rw [if_neg q20] at h
  split at h
  · rename_i he; injection h with h; injection h with h1 h2; subst h1 h2; exact ⟨FC _ (E1 he), F0⟩
  · cases h
/-- the state without its last work -/
theorem Inv.pop {n : Nat} {sh : List ByteArray} {ws : List Nat} {i : Nat} (h : Inv n ⟨sh, ws ++ [i]⟩) : Inv n ⟨sh, ws⟩ ∧ i < n ∧ 0 < ((St.mk sh ws).at_ i).size := by
  have := h.wk i (by simp)
  exact ⟨⟨h.len, fun j hj => h.wk j (by simp [hj]), h.good, by have := h.room; simp at this ⊢; omega⟩, this.1, this.2⟩
theorem step_inv {n : Nat} {c : List InsT} {st s1 : St} {i : Nat} (h : Inv n st) (hi : 0 < (st.at_ i).size) (hs : step c st i = some s1) : Inv n s1 ∧ s1.mu ≤ st.mu := by
  unfold step at hs
  split at hs
  · cases hs
  rename_i x hx
  unfold stepAt at hs
  split at hs
  · cases hs
  split at hs
  · cases hs
  rename_i nx lb ha
  obtain ⟨g1, g2⟩ := h.good _ (at_mem hi) hi
  obtain ⟨f1, f2⟩ := after_fit g1 g2 ha
  obtain ⟨s2, h2, h3⟩ := Option.bind_eq_some_iff.1 hs
  obtain ⟨i2, m2, e2, -⟩ := reach_inv h f1 h2
  obtain ⟨i3, m3, e3, -⟩ := reach_inv i2 (fun hp => ⟨(f2 hp).1, by have := (f2 hp).2; omega⟩) h3
  exact ⟨i3, by omega⟩
theorem run_more {n : Nat} {c : List InsT} : ∀ (f : Nat) (st : St), Inv n st → st.mu ≤ f → runV c f st = runV c st.mu st := by
  intro f
  induction f using Nat.strongRecOn with
  | ind f ih =>
    intro st hI hm
    rcases List.eq_nil_or_concat st.wk with hw | ⟨ws, i, hw⟩
    · have : ∀ k, runV c k st = some st.sh := fun k => by cases k <;> simp [runV, hw]
      rw [this, this]
    · rw [List.concat_eq_append] at hw
      obtain ⟨sh, wk⟩ := st
      simp only at hw
      subst hw
      obtain ⟨hp, -, hn⟩ := hI.pop
      have hmu : (St.mk sh (ws ++ [i])).mu = (St.mk sh ws).mu + 1 := by simp [St.mu]; omega
      rw [hmu]
      cases f with
      | zero => omega
      | succ f =>
        simp only [runV, List.getLast?_concat, List.dropLast_concat]
        cases hs : step c ⟨sh, ws⟩ i with
        | none => rfl
        | some s1 =>
          obtain ⟨j1, j2⟩ := step_inv hp hn hs
          simp only
          rw [ih f (by omega) s1 j1 (by omega), ih (St.mk sh ws).mu (by omega) s1 j1 j2]
theorem verd_nil (c : List InsT) (sh : List ByteArray) : verd c ⟨sh, []⟩ = some sh := by
  unfold verd; generalize (St.mk sh []).mu = k; cases k <;> simp [runV]
theorem verd_bad {c : List InsT} {sh : List ByteArray} {ws : List Nat} {i : Nat} (hs : step c ⟨sh, ws⟩ i = none) : verd c ⟨sh, ws ++ [i]⟩ = none := by
  have hmu : (St.mk sh (ws ++ [i])).mu = (St.mk sh ws).mu + 1 := by simp [St.mu]; omega
  unfold verd
  rw [hmu]
  simp only [runV, List.getLast?_concat, List.dropLast_concat, hs]
theorem verd_go {n : Nat} {c : List InsT} {sh : List ByteArray} {ws : List Nat} {i : Nat} {s1 : St} (h : Inv n ⟨sh, ws ++ [i]⟩) (hs : step c ⟨sh, ws⟩ i = some s1) : verd c ⟨sh, ws ++ [i]⟩ = verd c s1 ∧ Inv n s1 ∧ s1.mu < (St.mk sh (ws ++ [i])).mu := by
  have hmu : (St.mk sh (ws ++ [i])).mu = (St.mk sh ws).mu + 1 := by simp [St.mu]; omega
  obtain ⟨hp, -, hn⟩ := h.pop
  obtain ⟨j1, j2⟩ := step_inv hp hn hs
  refine ⟨?_, j1, by omega⟩
  unfold verd
  rw [hmu]
  simp only [runV, List.getLast?_concat, List.dropLast_concat, hs]
  exact run_more _ _ j1 j2
/-- the shape at a routine's entry -/
def startS (r : CRoT) : ByteArray := ⟨#[UInt8.ofNat (65 + r.slots.toNat)]⟩
def startsP : List CRoT → St → Option St
  | [], st => some st
  | r :: rs, st => (reach st r.entry (startS r)).bind (startsP rs)
theorem startsP_snoc : ∀ (rs : List CRoT) (r : CRoT) (st : St), startsP (rs ++ [r]) st = (startsP rs st).bind fun s1 => reach s1 r.entry (startS r)
  | [], r, st => by simp [startsP]
  | q :: rs, r, st => by
    simp only [List.cons_append, startsP]
    cases reach st q.entry (startS q) with
    | none => rfl
    | some s1 => simp [startsP_snoc rs r s1]
theorem startsP_none : ∀ {rs qs : List CRoT} {st : St}, startsP rs st = none → startsP (rs ++ qs) st = none
  | [], qs, st, h => by cases h
  | q :: rs, qs, st, h => by
    simp only [List.cons_append, startsP] at h ⊢
    cases hr : reach st q.entry (startS q) with
    | none => rfl
    | some s1 => rw [hr] at h; simp only [Option.bind_some] at h ⊢; exact startsP_none h
def st0 (n : Nat) : St := ⟨List.replicate n ⟨#[]⟩, []⟩
theorem inv0 (n : Nat) : Inv n (st0 n) := by
  refine ⟨by simp [st0], fun i hi => by simp [st0] at hi, fun s hs hp => ?_, ?_⟩
  · obtain ⟨-, rfl⟩ := List.mem_replicate.1 hs; exact absurd hp (by simp [ByteArray.size])
  · have : empties (List.replicate n (⟨#[]⟩ : ByteArray)) ≤ n := by have := List.countP_le_length (p := fun s : ByteArray => decide (s.size = 0)) (l := List.replicate n ⟨#[]⟩); simpa [empties] using this
    simpa [st0] using this
theorem start_fit {n k : Nat} {r : CRoT} (h : r.slots ≤ 24) (hk : k ≤ n) : Fit n k (startS r) := fun _ => ⟨good_start (by omega), by rw [startS, size_one]; omega⟩
theorem empties_le {n : Nat} {st : St} (h : Inv n st) : empties st.sh ≤ n := by have := h.room; omega
/-- the verifier's answer on a valid code -/
def verdict (c : CodeT) : Option (List ByteArray) := (startsP c.routines (st0 c.instrs.length)).bind (verd c.instrs)

theorem ends_tail {s t : ByteArray} (h : 0 < s.size) : Lib.hasSuffix (s.extract 1 s.size).data.toList t.data.toList = endsB s t := by
  rw [Lib.extract_data]
  unfold endsB Lib.hasSuffix
  rw [Bool.eq_iff_iff]
  simp only [Bool.and_eq_true, decide_eq_true_eq, List.isSuffixOf_iff_suffix, Lib.size_eq]
  rw [List.take_of_length_le (by simp)]
  rw [Lib.size_eq] at h
  generalize s.data.toList = a at *
  generalize t.data.toList = b at *
  cases a with
  | nil => simp at h
  | cons y a =>
    simp only [List.drop_succ_cons, List.drop_zero, List.length_cons]
    constructor
    · intro hs; exact ⟨by have := hs.length_le; omega, hs.trans (List.suffix_cons y a)⟩
    · rintro ⟨hl, hs⟩
      rcases List.suffix_cons_iff.1 hs with rfl | hs
      · simp at hl
      · exact hs
theorem ends_drop {s t : ByteArray} (h : t.size < s.size) : ((s.extract (s.size - t.size) s.size).toList == t.toList) = endsB s t := by
  unfold endsB Lib.hasSuffix
  rw [Lib.extract_toList, Lib.toList_data, Bool.eq_iff_iff]
  simp only [Bool.and_eq_true, decide_eq_true_eq, List.isSuffixOf_iff_suffix, beq_iff_eq, Lib.size_eq] at h ⊢
  rw [List.take_of_length_le (by simp)]
  constructor
  · intro e; exact ⟨h, e ▸ List.drop_suffix _ _⟩
  · rintro ⟨-, hs⟩
    exact (List.suffix_iff_eq_drop.1 hs).symm
end Go.Proofs.YtekobbeoaalibaaGreatDoor
