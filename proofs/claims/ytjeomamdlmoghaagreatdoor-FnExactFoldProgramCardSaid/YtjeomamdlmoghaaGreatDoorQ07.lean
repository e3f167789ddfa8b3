/- When a tree is valid: the plain law of l10Valid and of validCore. Lists of names: allNames, repeated of the program; l7NamesOk, l9Find, l9Twice of the reference. Which record types are valid: validRecords of the program. Which programs are valid: the plain law. Folding: what it needs of a tree, and what it makes of literals. Plain lemmas, no program. A row of the call's own that grows by elements with data of their own. Plain lemmas, no program. Rows of elements without rows of their own. Plain lemmas. -/
import Derived.Test.YtjeomamdlmoghaaGreatDoorQ00
import Derived.Test.YtjeomamdlmoghaaGreatDoorQ02
import Derived.Test.YtjeomamdlmoghaaGreatDoorQ03
import Derived.Test.YtjeomamdlmoghaaGreatDoorQ04
import Derived.Test.YtjeomamdlmoghaaGreatDoorQ06
import Derived.StillTailTactics
set_option maxRecDepth 100000
set_option maxHeartbeats 8000000
set_option linter.unusedVariables false
set_option linter.unusedSimpArgs false
section
namespace Go.Proofs.YtjeomamdlmoghaaGreatDoor
open Go.RowKit
def nulT : CoreT := .mk 0 0 0 0 ByteArray.empty []
def headOk (c : CoreT) : Bool := decide (1 ≤ c.kind) && decide (c.kind ≤ 28) && decide (0 ≤ c.line) && decide (kidsLo c.kind c.op ≤ c.kids.length) && decide ((c.kids.length : Int) ≤ kidsHi c.kind c.op) && (decide (c.kind = 11) || decide (c.op = 0))
def textOk (c : CoreT) : Bool := if c.kind = 2 then decide (c.text.size ≤ 120) else if c.kind = 3 then csetOk c.text else decide (c.text.size = 0)
def placeOk (c : CoreT) (loop create : Bool) : Bool := !(decide (c.kind = 20 ∨ c.kind = 21) && !loop) && !(decide (23 ≤ c.kind ∧ c.kind ≤ 25) && create)
noncomputable def specialOk (c : CoreT) : Bool := !(decide (c.op = 79) && !(decide ((c.kids.getD 1 nulT).kind = 2) && isNameB (c.kids.getD 1 nulT).text)) && !(decide (c.op = 81) && !decide ((c.kids.getD 0 nulT).kind = 5 ∨ (c.kids.getD 0 nulT).kind = 6))
noncomputable def nodeOk (d : WdT) (c : CoreT) (loop create : Bool) : Bool := headOk c && leafOk d c.kind c.number && textOk c && placeOk c loop create && specialOk c
def innerB (k : Int) (i : Nat) (loop : Bool) : Bool := if k = 18 ∨ k = 19 then decide (i = 1) else if k = 20 ∨ k = 26 then false else loop
mutual
noncomputable def validT (d : WdT) : CoreT → Bool → Bool → Bool
 | .mk k o n l t kids, loop, create => nodeOk d (.mk k o n l t kids) loop create && validL d k 0 kids loop (create || decide (k = 26))
noncomputable def validL (d : WdT) (k : Int) : Nat → List CoreT → Bool → Bool → Bool
 | _, [], _, _ => true
 | i, c :: cs, loop, create => validT d c (innerB k i loop) create && validL d k (i + 1) cs loop create
end
theorem validL_iff (d : WdT) (k : Int) (loop create : Bool) : ∀ (l : List CoreT) (i : Nat), validL d k i l loop create = true ↔ ∀ j c, l[j]? = some c → validT d c (innerB k (i + j) loop) create = true
 | [], i => by simp [validL]
 | c :: l, i => by
   rw [validL, Bool.and_eq_true, validL_iff d k loop create l (i + 1)]
   constructor
   ·rintro ⟨h1, h2⟩ j x hj
    cases j with
    | zero => simp at hj; subst hj; exact h1
    | succ j => have := h2 j x (by simpa using hj); rw [show i + (j + 1) = i + 1 + j by omega]; exact this
   ·intro h
    exact ⟨h 0 c rfl, fun j x hj => by have := h (j + 1) x (by simpa using hj); rw [show i + (j + 1) = i + 1 + j by omega] at this; exact this⟩
theorem validT_iff (d : WdT) (c : CoreT) (loop create : Bool) : validT d c loop create = true ↔ nodeOk d c loop create = true ∧ ∀ j x, c.kids[j]? = some x → validT d x (innerB c.kind j loop) (create || decide (c.kind = 26)) = true := by
 cases c with
 | mk k o n l t kids =>
   rw [validT, Bool.and_eq_true, validL_iff]
   simp only [Nat.zero_add, CoreT.kids, CoreT.kind]
   exact Iff.rfl
theorem validT_bad {d : WdT} {c : CoreT} {loop create : Bool} (h : nodeOk d c loop create = false) : validT d c loop create = false := by
 rw [Bool.eq_false_iff]; intro hv; rw [((validT_iff d c loop create).1 hv).1] at h; cases h
theorem validT_kid {d : WdT} {c x : CoreT} {loop create : Bool} {j : Nat} (hj : c.kids[j]? = some x) (h : validT d x (innerB c.kind j loop) (create || decide (c.kind = 26)) = false) : validT d c loop create = false := by
 rw [Bool.eq_false_iff]; intro hv; rw [((validT_iff d c loop create).1 hv).2 j x hj] at h; cases h
theorem csetOk_ge {s : ByteArray} (h : csetOk s = true) : ∀ j, j < s.size → j ≤ byteAt s j ∧ byteAt s j ≤ 127 := by
 have hr : ∀ j, j < s.size → riseAt s j = true := fun j hj => List.all_eq_true.1 h j (List.mem_range.2 hj)
 intro j
 induction j with
 | zero => intro hj; have := hr 0 hj; simp [riseAt] at this; exact ⟨Nat.zero_le _, this⟩
 | succ j ih =>
   intro hj
   have h1 := ih (by omega)
   have := hr (j + 1) hj
   simp [riseAt] at this
   exact ⟨by omega, this.1⟩
theorem csetOk_size {s : ByteArray} (h : csetOk s = true) : s.size ≤ 128 := by
 by_cases h0 : s.size = 0
 ·omega
 ·have := csetOk_ge h (s.size - 1) (by omega); omega
end Go.Proofs.YtjeomamdlmoghaaGreatDoor
end
section
namespace Go.Proofs.YtjeomamdlmoghaaGreatDoor
open Go.RowKit
theorem all_snoc {α : Type} {q : α → Bool} {l : List α} {j : Nat} {c : α} (h : l[j]? = some c) : (l.take (j + 1)).all q = ((l.take j).all q && q c) := by
 rw [take_snoc_of h]; simp
theorem all_no {α : Type} {q : α → Bool} {l : List α} {c : α} (h : c ∈ l) (hq : q c = false) : l.all q = false := by
 rw [Bool.eq_false_iff]; intro e; rw [List.all_eq_true.1 e c h] at hq; cases hq
theorem impl_allNames (l : List ByteArray) (v : Value) (w : World) (lo hi : Nat) (h : LRep w lo hi 1 strDats v l) (hhi : hi ≤ w.heap.size) (hst : SpaceTab w) :
 Calls Tryz.prog 45 #[v] w fun e w' => e = .returned (.bool (l.all isNameB)) ∧ Below w.heap.size w w' := by
 obtain ⟨A, c, rfl, hc1, hc2⟩ := h.shape
 unfold maxLen at hc2
 go_enter Tryz.func45, Tryz.ntmps45
 go_wp2_with fail
 go_loopw [7] (fun i wr => ∃ k : Nat, k ≤ l.length ∧ i = .int .i64 k ∧ Hid ((l.take k).all isNameB = true) ∧ Below w.heap.size w wr) (fun i _ => l.length - (intOf i).toNat)
 case atStart => exact ⟨0, Nat.zero_le _, rfl, by simp [Hid], Below.refl _ _⟩
 case round =>
  obtain ⟨k, hk, rfl, hgo, hb⟩ := hrel
  obtain ⟨wo, rfl⟩ : ∃ wo : World, wo = wr := ⟨_, rfl⟩
  have hz := hb.size
  by_cases hlt : k < l.length
  ·obtain ⟨s, hc⟩ : ∃ s, l[k]? = some s := ⟨_, List.getElem?_eq_getElem hlt⟩
   obtain ⟨g, off, rfl, hg1, hg2, q0⟩ := (h.below hb hhi).text hc
   have hst1 := hst.below hb hst.2
   cases hq : isNameB s with
   | true =>
     have HN : Hid ((l.take (k + 1)).all isNameB = true) := by show _ = _; rw [all_snoc hc, hgo.out, hq]; rfl
     have HQ := Lib.hid hq
     clear hc hq hgo
     go_wp2_with fail
     refine (impl_IsName s _ hst1).mono ?_; rw [HQ.out]; rintro e w1 ⟨rfl, hb1⟩
     have hb2 := hb.trans (hb1.mono hz)
     clear q0 hb1
     go_wp2_with fail
     go_roundw
     case rel => exact ⟨k + 1, by omega, by go_num, HN, hb2⟩
     case measure => simp [intOf]; omega
   | false =>
     have HF : Hid (l.all isNameB = false) := all_no (List.mem_of_getElem? hc) hq
     have HQ := Lib.hid hq
     clear hc hq hgo
     go_wp2_with fail
     refine (impl_IsName s _ hst1).mono ?_; rw [HQ.out]; rintro e w1 ⟨rfl, hb1⟩
     go_wp2_with fail
     go_ret
     exact ⟨ret_bool HF.out.symm, hb.trans (hb1.mono hz)⟩
  ·obtain rfl : k = l.length := by omega
   rw [List.take_length] at hgo
   go_wp2_with fail
   go_ret
   exact ⟨ret_bool hgo.out.symm, hb⟩
theorem spec_l7NamesOk (l : List ByteArray) (most : Nat) (v : Value) (w : World) (lo hi : Nat) (h : LRep w lo hi 1 strDats v l) (hhi : hi ≤ w.heap.size) :
 Calls Tryz.prog 34 #[v, .int .i64 most] w fun e w' => e = .returned (.bool (l.all isNameB && decide (l.length ≤ most))) ∧ Below w.heap.size w w' := by
 obtain ⟨A, c, rfl, hc1, hc2⟩ := h.shape
 unfold maxLen at hc2
 go_enter Tryz.func34, Tryz.ntmps34
 go_wp2_with fail
 go_loopw [5] (fun i wr => ∃ k : Nat, k ≤ l.length ∧ i = .int .i64 k ∧ Hid ((l.take k).all isNameB = true) ∧ Below w.heap.size w wr) (fun i _ => l.length - (intOf i).toNat)
 case atStart => exact ⟨0, Nat.zero_le _, rfl, by simp [Hid], Below.refl _ _⟩
 case round =>
  obtain ⟨k, hk, rfl, hgo, hb⟩ := hrel
  obtain ⟨wo, rfl⟩ : ∃ wo : World, wo = wr := ⟨_, rfl⟩
  have hz := hb.size
  by_cases hlt : k < l.length
  ·obtain ⟨s, hc⟩ : ∃ s, l[k]? = some s := ⟨_, List.getElem?_eq_getElem hlt⟩
   obtain ⟨g, off, rfl, hg1, hg2, q0⟩ := (h.below hb hhi).text hc
   cases hq : isNameB s with
   | true =>
     have HN : Hid ((l.take (k + 1)).all isNameB = true) := by show _ = _; rw [all_snoc hc, hgo.out, hq]; rfl
     have HQ := Lib.hid hq
     clear hc hq hgo
     go_wp2_with fail
     refine (spec_IsName s _).mono ?_; rw [HQ.out]; rintro e w1 ⟨rfl, hb1⟩
     have hb2 := hb.trans (hb1.mono hz)
     clear q0 hb1
     go_wp2_with fail
     go_roundw
     case rel => exact ⟨k + 1, by omega, by go_num, HN, hb2⟩
     case measure => simp [intOf]; omega
   | false =>
     have HF : Hid ((l.all isNameB && decide (l.length ≤ most)) = false) := by show _ = _; rw [all_no (List.mem_of_getElem? hc) hq]; rfl
     have HQ := Lib.hid hq
     clear hc hq hgo
     go_wp2_with fail
     refine (spec_IsName s _).mono ?_; rw [HQ.out]; rintro e w1 ⟨rfl, hb1⟩
     go_wp2_with fail
     go_ret
     exact ⟨ret_bool HF.out.symm, hb.trans (hb1.mono hz)⟩
  ·obtain rfl : k = l.length := by omega
   rw [List.take_length] at hgo
   go_wp2_with fail
   go_ret
   exact ⟨ret_bool (by rw [hgo.out, Bool.true_and]), hb⟩
theorem idx_low {s : ByteArray} : ∀ (l : List ByteArray) (i : Nat), s ∈ l → (i : Int) ≤ Lib.idxFromS l s i
 | [], _, h => by cases h
 | z :: l, i, h => by
   by_cases hz : z = s
   ·simp [Lib.idxFromS, hz]
   ·have h' : s ∈ l := by rcases List.mem_cons.1 h with e | e; exact absurd e.symm hz; exact e
    have := idx_low l (i + 1) h'
    simp only [Lib.idxFromS, if_neg hz]
    omega
theorem idx_lt {s : ByteArray} : ∀ (l : List ByteArray) (i n : Nat), s ∈ l → (Lib.idxFromS l s i < ((i + n : Nat) : Int) ↔ s ∈ l.take n)
 | [], _, _, h => by cases h
 | z :: l, i, n, h => by
   cases n with
   | zero => have := idx_low (z :: l) i h; simp; omega
   | succ n =>
     by_cases hz : z = s
     ·simp [Lib.idxFromS, hz]; omega
     ·have h' : s ∈ l := by rcases List.mem_cons.1 h with e | e; exact absurd e.symm hz; exact e
      have := idx_lt l (i + 1) n h'
      simp only [Lib.idxFromS, if_neg hz, List.take_succ_cons, List.mem_cons]
      rw [show i + (n + 1) = i + 1 + n by omega, this]
      exact ⟨.inr, fun e => by rcases e with e | e; exact absurd e.symm hz; exact e⟩
theorem find_lt {l : List ByteArray} {s : ByteArray} {k : Nat} (h : l[k]? = some s) : decide (Lib.idxOfS l s < (k : Int)) = Lib.containsS (l.take k) s := by
 have := idx_lt l 0 k (List.mem_of_getElem? h)
 rw [Bool.eq_iff_iff, decide_eq_true_eq, Lib.containsS_iff, ← this, Lib.idxOfS, Nat.zero_add]
def twiceAt (l : List ByteArray) (i : Nat) : Bool := Lib.containsS (l.take i) (l.getD i ByteArray.empty)
def twiceB (l : List ByteArray) : Bool := (List.range l.length).any (twiceAt l)
theorem twiceAt_eq {l : List ByteArray} {k : Nat} {s : ByteArray} (h : l[k]? = some s) : twiceAt l k = Lib.containsS (l.take k) s := by rw [twiceAt, List.getD, h]; rfl
theorem twice_yes {l : List ByteArray} {k : Nat} (hk : k < l.length) (h : twiceAt l k = true) : twiceB l = true := List.any_eq_true.2 ⟨k, List.mem_range.2 hk, h⟩
theorem twice_no {l : List ByteArray} (h : ∀ j, j < l.length → twiceAt l j = false) : twiceB l = false := by
 rw [twiceB, List.any_eq_false]; intro j hj; rw [h j (List.mem_range.1 hj)]; decide
theorem spec_l9Find (l : List ByteArray) (s : ByteArray) (v : Value) (w : World) (lo hi : Nat) (h : LRep w lo hi 1 strDats v l) :
 Calls Tryz.prog 64 #[v, .string s] w fun e w' => e = .returned (.int .i64 (Lib.idxOfS l s)) ∧ w = w' := by
 obtain ⟨A, c, rfl, hc1, hc2⟩ := h.shape
 unfold maxLen at hc2
 go_enter Tryz.func64, Tryz.ntmps64
 go_wp2_with fail
 go_loop [5] (fun i => ∃ k : Nat, k ≤ l.length ∧ i = .int .i64 k ∧ Hid (∀ j, j < k → l.getD j ByteArray.empty ≠ s)) (fun i => l.length - (intOf i).toNat)
 case atStart => exact ⟨0, Nat.zero_le _, rfl, fun j hj => absurd hj (by omega)⟩
 case round =>
  obtain ⟨k, hk, rfl, hgo⟩ := hrel
  by_cases hlt : k < l.length
  ·obtain ⟨t, hc⟩ : ∃ t, l[k]? = some t := ⟨_, List.getElem?_eq_getElem hlt⟩
   obtain ⟨g, off, rfl, hg1, hg2, q0⟩ := h.text hc
   have hd : l.getD k ByteArray.empty = t := by rw [List.getD, hc]; rfl
   by_cases hts : t = s
   ·subst hts
    have HI : Hid (Lib.idxOfS l t = (k : Int)) := by have := Lib.idxOfS_hit l l.length k t hlt (Nat.le_refl _) hd hgo.out; rwa [List.take_length] at this
    have hb := str_eq t
    clear hc hd hgo
    go_wp2_with fail
    go_ret
    exact ⟨ret_int HI.out.symm, rfl⟩
   ·have hb := str_ne hts
    have HN : Hid (∀ j, j < k + 1 → l.getD j ByteArray.empty ≠ s) := fun j hj => by
     by_cases e : j = k
     ·subst e; rw [hd]; exact hts
     ·exact hgo.out j (by omega)
    clear hc hd hgo hts
    go_wp2_with fail
    go_round
    case rel => exact ⟨k + 1, by omega, by go_num, HN⟩
    case measure => simp [intOf]; omega
  ·obtain rfl : k = l.length := by omega
   have HI : Hid (Lib.idxOfS l s = -1) := by have := Lib.idxOfS_miss l l.length s hgo.out; rwa [List.take_length] at this
   clear hgo
   go_wp2_with fail
   go_ret
   exact ⟨ret_int HI.out.symm, rfl⟩
theorem spec_l9Twice (l : List ByteArray) (v : Value) (w : World) (lo hi : Nat) (h : LRep w lo hi 1 strDats v l) :
 Calls Tryz.prog 37 #[v] w fun e w' => e = .returned (.bool (twiceB l)) ∧ w = w' := by
 have HF := fun s => Lib.hid (spec_l9Find l s v w lo hi h)
 obtain ⟨A, c, rfl, hc1, hc2⟩ := h.shape
 unfold maxLen at hc2
 go_enter Tryz.func37, Tryz.ntmps37
 go_wp2_with fail
 go_loop [3] (fun i => ∃ k : Nat, k ≤ l.length ∧ i = .int .i64 k ∧ Hid (∀ j, j < k → twiceAt l j = false)) (fun i => l.length - (intOf i).toNat)
 case atStart => exact ⟨0, Nat.zero_le _, rfl, fun j hj => absurd hj (by omega)⟩
 case round =>
  obtain ⟨k, hk, rfl, hgo⟩ := hrel
  by_cases hlt : k < l.length
  ·obtain ⟨t, hc⟩ : ∃ t, l[k]? = some t := ⟨_, List.getElem?_eq_getElem hlt⟩
   obtain ⟨g, off, rfl, hg1, hg2, q0⟩ := h.text hc
   have HL := Lib.hid (find_lt hc)
   have HT := Lib.hid (twiceAt_eq hc)
   have HF1 := HF t
   clear HF
   obtain ⟨n, hn⟩ : ∃ n, Lib.idxOfS l t = n := ⟨_, rfl⟩
   cases hq : Lib.containsS (l.take k) t with
   | true =>
     have HY := Lib.hid (twice_yes hlt (HT.out.trans hq))
     have hnk : n < (k : Int) := by have := HL.out; rw [hq, hn] at this; exact of_decide_eq_true this
     have HN := Lib.hid hn
     clear hc hgo hq hn
     go_wp2_with fail
     refine HF1.out.mono ?_; rw [HN.out]; rintro e w1 ⟨rfl, rfl⟩
     go_wp2_with fail
     go_ret
     exact ⟨ret_bool HY.out.symm, rfl⟩
   | false =>
     have HG : Hid (∀ j, j < k + 1 → twiceAt l j = false) := fun j hj => by
      by_cases e : j = k
      ·subst e; exact HT.out.trans hq
      ·exact hgo.out j (by omega)
     have hnk : ¬ n < (k : Int) := by have := HL.out; rw [hq, hn] at this; exact of_decide_eq_false this
     have HN := Lib.hid hn
     clear hc hgo hq hn
     go_wp2_with fail
     refine HF1.out.mono ?_; rw [HN.out]; rintro e w1 ⟨rfl, rfl⟩
     go_wp2_with fail
     go_round
     case rel => exact ⟨k + 1, by omega, by go_num, HG⟩
     case measure => simp [intOf]; omega
  ·obtain rfl : k = l.length := by omega
   have HN := Lib.hid (twice_no hgo.out)
   clear hgo
   go_wp2_with fail
   go_ret
   exact ⟨ret_bool HN.out.symm, rfl⟩
theorem LRep.textAt {w : World} {lo hi cap j g off : Nat} {l : List ByteArray} (h : LRep w lo hi 1 strDats (.slice (some ⟨g, off, none⟩) l.length cap) l) (hj : j < l.length) : w.cell? ⟨g, off + j, none⟩ = some (.string (l.getD j ByteArray.empty)) := by
 obtain ⟨g', off', hA, -, -, hc⟩ := h.text (List.getElem?_eq_getElem hj)
 injection hA with hA
 injection hA with e1 e2 _
 subst e1 e2
 rw [hc, List.getD, List.getElem?_eq_getElem hj]; rfl
theorem impl_repeated (l : List ByteArray) (v : Value) (w : World) (lo hi : Nat) (h : LRep w lo hi 1 strDats v l) :
 Calls Tryz.prog 73 #[v] w fun e w' => e = .returned (.bool (twiceB l)) ∧ Same w w' := by
 obtain ⟨A, c, rfl, hc1, hc2⟩ := h.shape
 unfold maxLen at hc2
 go_enter Tryz.func73, Tryz.ntmps73
 go_wp2_with fail
 go_loopw [6] (fun i wr => ∃ k : Nat, k ≤ l.length ∧ i = .int .i64 k ∧ Hid (∀ j, j < k → twiceAt l j = false) ∧ Same w wr) (fun i _ => l.length - (intOf i).toNat)
 case atStart => exact ⟨0, Nat.zero_le _, rfl, (fun j hj => absurd hj (by omega)), Same.refl _⟩
 case round =>
  obtain ⟨k, hk, rfl, hgo, hs⟩ := hrel
  obtain ⟨wo, rfl⟩ : ∃ wo : World, wo = wr := ⟨_, rfl⟩
  by_cases hlt : k < l.length
  ·obtain ⟨t, hc⟩ : ∃ t, l[k]? = some t := ⟨_, List.getElem?_eq_getElem hlt⟩
   obtain ⟨g, off, rfl, hg1, hg2, q0⟩ := (h.same hs).text hc
   have HT := Lib.hid (twiceAt_eq hc)
   have e0 : (0 : Int) ≤ (k : Int) := by omega
   have e8 : (k : Int) < (l.length : Int) := by omega
   have e9 : (k : Int) ≤ (c : Int) := by omega
   have e7 : k ≤ c := by omega
   clear hc
   obtain ⟨r, hr⟩ : ∃ r, Lib.containsS (l.take k) t = r := ⟨_, rfl⟩
   have HR := Lib.hid hr
   clear hr
   have HC : Hid (Calls Tryz.prog 103 #[.slice (some ⟨g, off, none⟩) k c, .string t] wo.drew fun e w' => e = .returned (.bool r) ∧ w' = wo.drew) := by
    show Calls _ _ _ _ _
    rw [← HR.out]
    exact Tryz.slices_Contains_string g off k c l t wo.drew (by omega) (by omega) fun j hj => (h.same hs.drew).textAt hj
   go_wp2_with fail
   go_still_tail 7, (by kernel_rfl)
   change wpList _ _ _ _ _ wo.drew
   go_wp2_with fail
   refine HC.out.mono ?_; rintro e w1 ⟨rfl, rfl⟩
   clear HC
   cases r with
   | true =>
     have HY := Lib.hid (twice_yes hlt (HT.out.trans HR.out))
     clear hgo
     go_wp2_with fail
     go_ret
     exact ⟨ret_bool HY.out.symm, hs.drew⟩
   | false =>
     have HG : Hid (∀ j, j < k + 1 → twiceAt l j = false) := fun j hj => by
      by_cases e : j = k
      ·subst e; exact HT.out.trans HR.out
      ·exact hgo.out j (by omega)
     clear hgo
     go_wp2_with fail
     go_roundw
     case rel => exact ⟨k + 1, by omega, by go_num, HG, hs.drew⟩
     case measure => simp [intOf]; omega
  ·obtain rfl : k = l.length := by omega
   have HN := Lib.hid (twice_no hgo.out)
   clear hgo
   go_wp2_with fail
   go_ret
   exact ⟨ret_bool HN.out.symm, hs⟩
end Go.Proofs.YtjeomamdlmoghaaGreatDoor
end
section
namespace Go.Proofs.YtjeomamdlmoghaaGreatDoor
open Go.RowKit
noncomputable def recOk (r : RecT) : Bool := isNameB r.name && decide (r.fields.length ≤ 6) && r.fields.all isNameB && !twiceB r.fields && decide (0 ≤ r.line)
noncomputable def recsOk (l : List RecT) : Bool := l.all recOk && decide (l.length ≤ 8)
theorem impl_validRecords (l : List RecT) (v : Value) (w : World) (lo hi : Nat) (h : LRep w lo hi 3 RecT.dats v l) (hhi : hi ≤ w.heap.size) (hst : SpaceTab w) :
 Calls Tryz.prog 44 #[v] w fun e w' => e = .returned (.bool (recsOk l)) ∧ Below w.heap.size w w' := by
 obtain ⟨A, cap, rfl, hc1, hc2⟩ := h.shape
 unfold maxLen at hc2
 go_enter Tryz.func44, Tryz.ntmps44
 go_wp2_with fail
 go_loopw [7] (fun i wr => ∃ k : Nat, k ≤ l.length ∧ i = .int .i64 k ∧ Hid ((l.take k).all recOk = true) ∧ Below w.heap.size w wr) (fun i _ => l.length - (intOf i).toNat)
 case atStart => exact ⟨0, Nat.zero_le _, rfl, by simp [Hid], Below.refl _ _⟩
 case round =>
  obtain ⟨k, hk, rfl, hgo, hb⟩ := hrel
  obtain ⟨wo, rfl⟩ : ∃ wo : World, wo = wr := ⟨_, rfl⟩
  have hz := hb.size
  by_cases hlt : k < l.length
  ·obtain ⟨c, hc⟩ : ∃ c, l[k]? = some c := ⟨_, List.getElem?_eq_getElem hlt⟩
   obtain ⟨g, off, Afields, nfields, rfl, hg1, hg2, hmem, hcr, q0, q1, q2⟩ := RecT.at_ (h.below hb hhi) hc
   have hfl := RecT.rows hcr
   have HB : Hid (recOk c = (isNameB c.name && decide (c.fields.length ≤ 6) && c.fields.all isNameB && !twiceB c.fields && decide (0 ≤ c.line))) := rfl
   have HS := Lib.hid (all_snoc (q := recOk) hc)
   have HM : Hid (recOk c = false → recsOk l = false) := fun e => by rw [recsOk, all_no hmem e]; rfl
   have hwa : Below w.heap.size w (wo.alloc (.cells #[Value.string c.name, .slice Afields c.fields.length nfields, .int .i64 c.line] 68)) := hb.alloc hz _
   have a0 := Blk.new wo 68 #[Value.string c.name, .slice Afields c.fields.length nfields, .int .i64 c.line]
   have hf0 := hfl.alloc (Nat.le_trans hhi hz) (.cells #[Value.string c.name, .slice Afields c.fields.length nfields, .int .i64 c.line] 68)
   clear hc hmem hcr hfl
   cases n1 : isNameB c.name with
   | false =>
     have HV : Hid (recsOk l = false) := HM.out (by rw [HB.out, n1]; simp)
     have N1 := Lib.hid n1
     clear n1 hgo
     go_wp2_with fail
     refine (impl_IsName c.name _ (hst.below hwa hst.2)).mono ?_; rw [N1.out]; rintro e w1 ⟨rfl, hb1⟩
     have hw1 := hwa.trans (hb1.mono (Nat.le_trans hz (by simp)))
     have a1 := a0.later hb1
     have hf1 := hf0.below hb1 (Nat.le_trans (Nat.le_trans hhi hz) (by simp))
     have ca := a1.cell
     have la := a1.lt
     clear hb1 q0 q1 q2
     go_wp2_with fail
     go_ret
     exact ⟨ret_bool HV.out.symm, hw1⟩
   | true =>
   have N1 := Lib.hid n1
   clear n1
   by_cases n2 : c.fields.length ≤ 6
   ·have D2 := Lib.hid (decide_eq_true n2)
    cases n3 : c.fields.all isNameB with
    | false =>
      have HV : Hid (recsOk l = false) := HM.out (by rw [HB.out, N1.out, n3]; simp)
      have N3 := Lib.hid n3
      clear n3 hgo
      go_wp2_with fail
      refine (impl_IsName c.name _ (hst.below hwa hst.2)).mono ?_; rw [N1.out]; rintro e w1 ⟨rfl, hb1⟩
      have hw1 := hwa.trans (hb1.mono (Nat.le_trans hz (by simp)))
      have a1 := a0.later hb1
      have hf1 := hf0.below hb1 (Nat.le_trans (Nat.le_trans hhi hz) (by simp))
      have ca := a1.cell
      have la := a1.lt
      clear hb1 q0 q1 q2
      go_wp2_with fail
      refine (impl_allNames c.fields _ _ lo hi hf1 (Nat.le_trans hhi hw1.size) (hst.below hw1 hst.2)).mono ?_; rw [N3.out]; rintro e w2 ⟨rfl, hb2⟩
      have hw2 := hw1.trans (hb2.mono hw1.size)
      have a2 := a1.later hb2
      have hf2 := hf1.below hb2 (Nat.le_trans hhi hw1.size)
      clear ca la hb2
      have ca := a2.cell
      have la := a2.lt
      go_wp2_with fail
      go_ret
      exact ⟨ret_bool HV.out.symm, hw2⟩
    | true =>
    have N3 := Lib.hid n3
    clear n3
    cases n4 : twiceB c.fields with
    | true =>
      have HV : Hid (recsOk l = false) := HM.out (by rw [HB.out, n4]; simp)
      have N4 := Lib.hid n4
      clear n4 hgo
      go_wp2_with fail
      refine (impl_IsName c.name _ (hst.below hwa hst.2)).mono ?_; rw [N1.out]; rintro e w1 ⟨rfl, hb1⟩
      have hw1 := hwa.trans (hb1.mono (Nat.le_trans hz (by simp)))
      have a1 := a0.later hb1
      have hf1 := hf0.below hb1 (Nat.le_trans (Nat.le_trans hhi hz) (by simp))
      have ca := a1.cell
      have la := a1.lt
      clear hb1 q0 q1 q2
      go_wp2_with fail
      refine (impl_allNames c.fields _ _ lo hi hf1 (Nat.le_trans hhi hw1.size) (hst.below hw1 hst.2)).mono ?_; rw [N3.out]; rintro e w2 ⟨rfl, hb2⟩
      have hw2 := hw1.trans (hb2.mono hw1.size)
      have a2 := a1.later hb2
      have hf2 := hf1.below hb2 (Nat.le_trans hhi hw1.size)
      clear ca la hb2
      have ca := a2.cell
      have la := a2.lt
      go_wp2_with fail
      refine (impl_repeated c.fields _ _ lo hi hf2).mono ?_; rw [N4.out]; rintro e w3 ⟨rfl, hs3⟩
      have hw3 := hw2.trans ((hs3.below w2.heap.size).mono hw2.size)
      have a3 := a2.later (hs3.below _)
      clear ca la
      have ca := a3.cell
      have la := a3.lt
      go_wp2_with fail
      go_ret
      exact ⟨ret_bool HV.out.symm, hw3⟩
    | false =>
    have N4 := Lib.hid n4
    clear n4
    by_cases n5 : 0 ≤ c.line
    ·have HG : Hid ((l.take (k + 1)).all recOk = true) := by show _ = _; rw [HS.out, hgo.out, HB.out, N1.out, D2.out, N3.out, N4.out, decide_eq_true n5]; rfl
     clear hgo
     go_wp2_with fail
     refine (impl_IsName c.name _ (hst.below hwa hst.2)).mono ?_; rw [N1.out]; rintro e w1 ⟨rfl, hb1⟩
     have hw1 := hwa.trans (hb1.mono (Nat.le_trans hz (by simp)))
     have a1 := a0.later hb1
     have hf1 := hf0.below hb1 (Nat.le_trans (Nat.le_trans hhi hz) (by simp))
     have ca := a1.cell
     have la := a1.lt
     clear hb1 q0 q1 q2
     go_wp2_with fail
     refine (impl_allNames c.fields _ _ lo hi hf1 (Nat.le_trans hhi hw1.size) (hst.below hw1 hst.2)).mono ?_; rw [N3.out]; rintro e w2 ⟨rfl, hb2⟩
     have hw2 := hw1.trans (hb2.mono hw1.size)
     have a2 := a1.later hb2
     have hf2 := hf1.below hb2 (Nat.le_trans hhi hw1.size)
     clear ca la hb2
     have ca := a2.cell
     have la := a2.lt
     go_wp2_with fail
     refine (impl_repeated c.fields _ _ lo hi hf2).mono ?_; rw [N4.out]; rintro e w3 ⟨rfl, hs3⟩
     have hw3 := hw2.trans ((hs3.below w2.heap.size).mono hw2.size)
     have a3 := a2.later (hs3.below _)
     clear ca la
     have ca := a3.cell
     have la := a3.lt
     go_wp2_with fail
     go_roundw
     case rel => exact ⟨k + 1, by omega, by go_num, HG, hw3⟩
     case measure => simp [intOf]; omega
    ·have HV : Hid (recsOk l = false) := HM.out (by rw [HB.out, decide_eq_false n5]; simp)
     clear hgo
     go_wp2_with fail
     refine (impl_IsName c.name _ (hst.below hwa hst.2)).mono ?_; rw [N1.out]; rintro e w1 ⟨rfl, hb1⟩
     have hw1 := hwa.trans (hb1.mono (Nat.le_trans hz (by simp)))
     have a1 := a0.later hb1
     have hf1 := hf0.below hb1 (Nat.le_trans (Nat.le_trans hhi hz) (by simp))
     have ca := a1.cell
     have la := a1.lt
     clear hb1 q0 q1 q2
     go_wp2_with fail
     refine (impl_allNames c.fields _ _ lo hi hf1 (Nat.le_trans hhi hw1.size) (hst.below hw1 hst.2)).mono ?_; rw [N3.out]; rintro e w2 ⟨rfl, hb2⟩
     have hw2 := hw1.trans (hb2.mono hw1.size)
     have a2 := a1.later hb2
     have hf2 := hf1.below hb2 (Nat.le_trans hhi hw1.size)
     clear ca la hb2
     have ca := a2.cell
     have la := a2.lt
     go_wp2_with fail
     refine (impl_repeated c.fields _ _ lo hi hf2).mono ?_; rw [N4.out]; rintro e w3 ⟨rfl, hs3⟩
     have hw3 := hw2.trans ((hs3.below w2.heap.size).mono hw2.size)
     have a3 := a2.later (hs3.below _)
     clear ca la
     have ca := a3.cell
     have la := a3.lt
     go_wp2_with fail
     go_ret
     exact ⟨ret_bool HV.out.symm, hw3⟩
   ·have HV : Hid (recsOk l = false) := HM.out (by rw [HB.out, decide_eq_false n2]; simp)
    clear hgo
    go_wp2_with fail
    refine (impl_IsName c.name _ (hst.below hwa hst.2)).mono ?_; rw [N1.out]; rintro e w1 ⟨rfl, hb1⟩
    have hw1 := hwa.trans (hb1.mono (Nat.le_trans hz (by simp)))
    have a1 := a0.later hb1
    have hf1 := hf0.below hb1 (Nat.le_trans (Nat.le_trans hhi hz) (by simp))
    have ca := a1.cell
    have la := a1.lt
    clear hb1 q0 q1 q2
    go_wp2_with fail
    go_ret
    exact ⟨ret_bool HV.out.symm, hw1⟩
  ·obtain rfl : k = l.length := by omega
   rw [List.take_length] at hgo
   have HR : Hid (recsOk l = decide (l.length ≤ 8)) := by show _ = _; rw [recsOk, hgo.out]; rfl
   clear hgo
   go_wp2_with fail
   go_ret
   exact ⟨ret_bool (by rw [HR.out, Bool.eq_iff_iff]; simp <;> omega), hb⟩
end Go.Proofs.YtjeomamdlmoghaaGreatDoor
end
section
namespace Go.Proofs.YtjeomamdlmoghaaGreatDoor
open Go.RowKit
noncomputable def slotOk (s : ByteArray) : Bool := s.toList.isEmpty || isNameB s
def progD (p : ProgT) (r : RouT) : WdT := ⟨r.slots.length, p.globals.length, p.routines.length, p.records.length⟩
noncomputable def routOk (p : ProgT) (r : RouT) : Bool := isNameB r.name && decide (r.slots.length ≤ 24) && decide (0 ≤ r.params) && decide (r.params ≤ r.slots.length) && r.slots.all slotOk && decide (r.body.depth ≤ 400) && validT (progD p r) r.body false false
def pmainOk (p : ProgT) : Bool := decide (0 ≤ p.main) && decide (p.main < p.routines.length) && (match p.routines[p.main.toNat]? with | some r => decide (r.params = 0) | none => false)
noncomputable def pheadOk (p : ProgT) : Bool := decide (1 ≤ p.routines.length) && decide (p.routines.length ≤ 12) && recsOk p.records && decide (p.globals.length ≤ 12) && p.globals.all isNameB
def bodyNodes (r : RouT) : Nat := r.body.nodes
noncomputable def validProg (p : ProgT) : Bool := pheadOk p && pmainOk p && p.routines.all (routOk p) && decide (sumOf bodyNodes p.routines ≤ 40000)
theorem vp_head {p : ProgT} (h : pheadOk p = false) : validProg p = false := by unfold validProg; rw [h]; rfl
theorem vp_main {p : ProgT} (h : pmainOk p = false) : validProg p = false := by unfold validProg; rw [h, Bool.and_false]; rfl
theorem vp_rout {p : ProgT} (h : p.routines.all (routOk p) = false) : validProg p = false := by unfold validProg; rw [h, Bool.and_false]; rfl
theorem vp_yes {p : ProgT} (h1 : pheadOk p = true) (h2 : pmainOk p = true) (h3 : p.routines.all (routOk p) = true) : validProg p = decide (sumOf bodyNodes p.routines ≤ 40000) := by unfold validProg; rw [h1, h2, h3]; rfl
theorem vp_recs {p : ProgT} (h : recsOk p.records = false) : validProg p = false := by apply vp_head; unfold pheadOk; rw [h]; simp
theorem recs_big {l : List RecT} (h : 8 < l.length) : recsOk l = false := by rw [recsOk, decide_eq_false (by omega), Bool.and_false]
theorem recs_no {l : List RecT} (h : l.all recOk = false) : recsOk l = false := by rw [recsOk, h]; rfl
theorem in_lt (a n : Int) : inB a 0 (n - 1) = (decide (0 ≤ a) && decide (a < n)) := by
 unfold inB
 congr 1
 rw [Bool.eq_iff_iff, decide_eq_true_eq, decide_eq_true_eq]; omega
theorem rout_big (l : List RouT) (h : ∀ r ∈ l, r.body.bulk ≤ 1048576) : sumOf bodyNodes l ≤ l.length * 1048577 := by
 induction l with
 | nil => simp [sumOf]
 | cons r l ih =>
   have h1 := h r List.mem_cons_self
   have h2 := ih fun x hx => h x (List.mem_cons_of_mem _ hx)
   have h3 := nodes_le r.body
   simp only [sumOf, bodyNodes, List.length_cons] at *
   omega
end Go.Proofs.YtjeomamdlmoghaaGreatDoor
end
section
namespace Go.Proofs.YtjeomamdlmoghaaGreatDoor
open Go.RowKit
theorem numR_ok (n : Int) : (numR n).1.Ok := by
 unfold numR
 split
 ·next h => exact h
 ·trivial
theorem powL_ok {a : Int} : ∀ (k : Nat) (n m : Int), -999999999999 ≤ n → n ≤ 999999999999 → powL a k n = some m → -999999999999 ≤ m ∧ m ≤ 999999999999
 | 0, n, m, h1, h2, h => by simp only [powL, Option.some.injEq] at h; omega
 | k + 1, n, m, h1, h2, h => by
   rw [powL] at h
   split at h
   ·cases h
   ·next hn =>
    have h3 : (n * a).natAbs = n.natAbs * a.natAbs := Int.natAbs_mul n a
    exact powL_ok k (n * a) m (by omega) (by omega) h
theorem powR_ok (a b : Int) : (powR a b).1.Ok := by
 unfold powR
 split
 ·trivial
 split
 ·show -999999999999 ≤ _ ∧ _ ≤ 999999999999
  split <;> omega
 split
 ·exact ⟨by omega, by omega⟩
 split
 ·exact ⟨by omega, by omega⟩
 split
 ·trivial
 ·next m hm => exact powL_ok _ _ _ (by omega) (by omega) hm
theorem arithR_ok {op x y : Int} (hx : -999999999999 ≤ x ∧ x ≤ 999999999999) : (arithR op x y).1.Ok := by
 unfold arithR
 split
 ·exact numR_ok _
 split
 ·exact numR_ok _
 split
 ·split
  ·trivial
  ·next h =>
   have h3 : (x * y).natAbs = x.natAbs * y.natAbs := Int.natAbs_mul x y
   show -999999999999 ≤ _ ∧ _ ≤ 999999999999
   omega
 split
 ·exact powR_ok _ _
 split
 ·trivial
 split
 ·have h3 := Int.natAbs_tdiv_le_natAbs x y
  show -999999999999 ≤ _ ∧ _ ≤ 999999999999
  omega
 ·have h3 : (x.tmod y).natAbs ≤ x.natAbs := by rw [Int.natAbs_tmod]; exact Nat.mod_le _ _
  show -999999999999 ≤ _ ∧ _ ≤ 999999999999
  omega
theorem integer_bd {s : ByteArray} {n : Int} (h : integerOfText s = some n) : -999999999999 ≤ n ∧ n ≤ 999999999999 := by
 have := integerOfText_bd h; omega
theorem toInt_bd {v : LitT} {n : Int} (hv : v.Ok) (h : v.toInt = some n) : -999999999999 ≤ n ∧ n ≤ 999999999999 := by
 cases v with
 | null => cases h
 | int m => simp only [LitT.toInt, Option.some.injEq] at h; subst h; exact hv
 | text s => exact integer_bd h
 | set c =>
   simp only [LitT.toInt] at h
   split at h
   ·exact integer_bd h
   ·cases h
theorem toText_bd {v : LitT} {s : ByteArray} (hv : v.Ok) (h : v.toText = some s) : s.size ≤ 120 := by
 cases v with
 | null => cases h
 | int m =>
   simp only [LitT.toText, Option.some.injEq] at h; subst h
   have := formatInt_size m (by have := hv.1; omega) (by have := hv.2; omega)
   omega
 | text s => simp only [LitT.toText, Option.some.injEq] at h; subst h; exact hv
 | set c =>
   simp only [LitT.toText] at h
   split at h
   ·next h1 => simp only [Option.some.injEq] at h; subst h; exact h1
   ·cases h
theorem binR_ok {op : Int} {a b : LitT} (ha : a.Ok) (hb : b.Ok) : (binR op a b).1.Ok := by
 unfold binR
 split
 ·cases h1 : a.toInt with
  | none => simp only [numsR]; trivial
  | some x => cases h2 : b.toInt with
    | none => simp only [numsR]; trivial
    | some y =>
      simp only [numsR]
      split
      ·exact arithR_ok (toInt_bd ha h1)
      split
      ·exact toInt_bd hb h2
      ·trivial
 split
 ·split
  ·exact hb
  ·trivial
 split
 ·cases h1 : a.toText with
  | none => simp only [textsR]; trivial
  | some x => cases h2 : b.toText with
    | none => simp only [textsR]; trivial
    | some y =>
      simp only [textsR]
      split
      ·split
       ·next h => show (x ++ y).size ≤ 120; rw [ByteArray.size_append]; exact h
       ·trivial
      split
      ·exact toText_bd hb h2
      ·trivial
 ·cases h1 : a.toSet with
  | none => simp only [setsR]; trivial
  | some x => cases h2 : b.toSet with
    | none => simp only [setsR]; trivial
    | some y => simp only [setsR]; trivial
theorem unR_ok {op : Int} {v : LitT} (hv : v.Ok) : (unR op v).1.Ok := by
 unfold unR
 split
 ·split <;> trivial
 ·split
  ·next n h =>
   have := toInt_bd hv h
   show -999999999999 ≤ _ ∧ _ ≤ 999999999999
   split <;> omega
  ·trivial
def LitC (c : CoreT) : Prop := (litOf c).Ok ∧ c.text.size ≤ 1048576
inductive FoldC : CoreT → Prop
 | mk {c : CoreT} (h13 : c.kind = 13 → c.kids.length = 2) (h17 : c.kind = 17 → c.kids.length = 3) (h11 : c.kind = 11 → opOk c.op = true ∧ arityLo c.op ≤ c.kids.length ∧ (c.kids.length : Int) ≤ arityHi c.op) (hl : LitC c) (hk : ∀ x ∈ c.kids, FoldC x) : FoldC c
theorem FoldC.k13 {c : CoreT} (h : FoldC c) : c.kind = 13 → c.kids.length = 2 := by cases h; assumption
theorem FoldC.k17 {c : CoreT} (h : FoldC c) : c.kind = 17 → c.kids.length = 3 := by cases h; assumption
theorem FoldC.k11 {c : CoreT} (h : FoldC c) : c.kind = 11 → opOk c.op = true ∧ arityLo c.op ≤ c.kids.length ∧ (c.kids.length : Int) ≤ arityHi c.op := by cases h; assumption
theorem FoldC.lit {c : CoreT} (h : FoldC c) : LitC c := by cases h; assumption
theorem FoldC.kids {c : CoreT} (h : FoldC c) : ∀ x ∈ c.kids, FoldC x := by cases h; assumption
theorem csetText_size (c : CsetT) : (csetText c).size ≤ 128 := by
 unfold csetText strOfNums
 have h1 := csetNums_len c 128
 show (_ : Array UInt8).size ≤ 128
 simpa using h1
theorem litC_leaf {v : LitT} (hv : v.Ok) (line : Int) : LitC (coreOfLit line v) := by
 cases v with
 | null => exact ⟨trivial, (Nat.zero_le _ : (⟨#[]⟩ : ByteArray).size ≤ 1048576)⟩
 | int n => exact ⟨hv, (Nat.zero_le _ : (⟨#[]⟩ : ByteArray).size ≤ 1048576)⟩
 | text s => exact ⟨hv, by have : s.size ≤ 120 := hv; show s.size ≤ 1048576; omega⟩
 | set c => exact ⟨trivial, by have := csetText_size c; show (csetText c).size ≤ 1048576; omega⟩
theorem opR_ok {c : CoreT} (hk : ∀ x ∈ c.kids, LitC x) : (opR c).1.Ok := by
 unfold opR
 split
 ·next a h => split
              ·exact unR_ok (hk a (by rw [h]; simp)).1
              ·trivial
 ·next a b h => split
                ·exact binR_ok (hk a (by rw [h]; simp)).1 (hk b (by rw [h]; simp)).1
                ·trivial
 ·trivial
theorem litC_node {c : CoreT} (hc : LitC c) (hk : ∀ x ∈ c.kids, LitC x) : LitC (foldNode c) := by
 unfold foldNode
 split
 ·unfold foldOp
  split
  ·split
   ·exact ⟨trivial, (Nat.zero_le _ : (⟨#[]⟩ : ByteArray).size ≤ 1048576)⟩
   split
   ·exact litC_leaf (opR_ok hk) _
   ·exact hc
  ·exact hc
 split
 ·unfold foldAlt
  split
  ·next a b h => split
                 ·exact hk b (by rw [h]; simp)
                 split
                 ·exact hk a (by rw [h]; simp)
                 ·exact hc
  ·exact hc
 split
 ·unfold foldBlock
  have hm : ∀ (n i : Nat) (l : List CoreT), ∀ x ∈ keepL n i l, x ∈ l := by
   intro n i l
   induction l generalizing i with
   | nil => intro x hx; simp [keepL] at hx
   | cons y l ih =>
     intro x hx
     rw [keepL] at hx
     split at hx
     ·rcases List.mem_cons.1 hx with rfl | hx
      ·exact List.mem_cons_self
      ·exact List.mem_cons_of_mem _ (ih _ x hx)
     ·exact List.mem_cons_of_mem _ (ih _ x hx)
  split
  ·next x h => exact hk x (hm _ _ _ x (by rw [h]; simp))
  ·exact hc
 split
 ·unfold foldIf
  split
  ·next a b d h => split
                   ·exact hk b (by rw [h]; simp)
                   split
                   ·exact hk d (by rw [h]; simp)
                   ·exact hc
  ·exact hc
 ·exact hc
theorem litC_fold {c : CoreT} (h : FoldC c) : LitC (foldT c) := by
 refine CoreT.ind (P := fun c => FoldC c → LitC (foldT c)) (fun c ih h => ?_) c h
 rw [foldT_eq]
 refine litC_node (c := c.with (c.kids.map foldT)) h.lit fun x hx => ?_
 obtain ⟨y, hy, rfl⟩ := List.mem_map.1 hx
 exact ih y hy (h.kids y hy)
theorem foldC_of {d : WdT} (c : CoreT) : ∀ loop create, validT d c loop create = true → FoldC c := by
 refine CoreT.ind (P := fun c => ∀ loop create, validT d c loop create = true → FoldC c) (fun c ih loop create h => ?_) c
 obtain ⟨hn, hk⟩ := (validT_iff d c loop create).1 h
 unfold nodeOk headOk at hn
 simp only [Bool.and_eq_true, decide_eq_true_eq] at hn
 obtain ⟨⟨⟨⟨⟨⟨⟨⟨⟨h1, h2⟩, h3⟩, h4⟩, h5⟩, h6⟩, hlf⟩, htx⟩, -⟩, -⟩ := hn
 refine .mk (fun e => ?_) (fun e => ?_) (fun e => ?_) ?_ fun x hx => ?_
 ·rw [e] at h4 h5; simp only [kidsLo, kidsHi] at h4 h5; simp at h4 h5; omega
 ·rw [e] at h4 h5; simp only [kidsLo, kidsHi] at h4 h5; simp at h4 h5; omega
 ·rw [(kids_op e).1] at h4
  rw [(kids_op e).2] at h5
  refine ⟨?_, h4, h5⟩
  cases hop : opOk c.op with
  | true => rfl
  | false =>
    have : arityHi c.op = -1 := by simp [arityHi, hop]
    omega
 ·constructor
  ·unfold litOf
   split
   ·next e =>
    unfold leafOk at hlf
    rw [if_pos e] at hlf
    simp only [inB, Bool.and_eq_true, decide_eq_true_eq] at hlf
    exact hlf
   split
   ·next e =>
    unfold textOk at htx
    rw [if_pos e] at htx
    have := of_decide_eq_true htx
    exact this
   split <;> trivial
  ·unfold textOk at htx
   split at htx
   ·have := of_decide_eq_true htx; omega
   split at htx
   ·have := csetOk_size htx; omega
   ·have := of_decide_eq_true htx; omega
 ·obtain ⟨j, hj⟩ := List.getElem?_of_mem hx
  exact ih x hx _ _ (hk j x hj)
theorem keepL_nodes (n : Nat) : ∀ (l : List CoreT) (i : Nat), nodesL (keepL n i l) ≤ nodesL l
 | [], i => by simp [keepL]
 | c :: l, i => by
   have := keepL_nodes n l (i + 1)
   rw [keepL]
   split
   ·simp only [nodesL]; omega
   ·simp only [nodesL]; omega
theorem leaf_nodes (k n l : Int) (t : ByteArray) (c : CoreT) : (leafT k n l t).nodes ≤ c.nodes := by
 have := c.nodes_eq
 simp only [leafT, CoreT.nodes, nodesL]; omega
theorem foldNode_nodes (c : CoreT) : (foldNode c).nodes ≤ c.nodes := by
 have hc := c.nodes_eq
 unfold foldNode
 split
 ·unfold foldOp
  split
  ·split
   ·exact leaf_nodes _ _ _ _ _
   split
   ·cases (opR c).1 <;> exact leaf_nodes _ _ _ _ _
   ·exact Nat.le_refl _
  ·exact Nat.le_refl _
 split
 ·unfold foldAlt
  split
  ·next a b h =>
   rw [h] at hc
   simp only [nodesL] at hc
   split
   ·omega
   split <;> omega
  ·exact Nat.le_refl _
 split
 ·unfold foldBlock
  have hk := keepL_nodes c.kids.length c.kids 0
  split
  ·next x h => rw [h] at hk; simp only [nodesL] at hk; omega
  ·simp only [CoreT.with, CoreT.nodes]; omega
 split
 ·unfold foldIf
  split
  ·next a b d h =>
   rw [h] at hc
   simp only [nodesL] at hc
   split
   ·omega
   split <;> omega
  ·exact Nat.le_refl _
 ·exact Nat.le_refl _
theorem fold_nodes (c : CoreT) : (foldT c).nodes ≤ c.nodes := by
 refine CoreT.ind (P := fun c => (foldT c).nodes ≤ c.nodes) (fun c ih => ?_) c
 rw [foldT_eq]
 refine Nat.le_trans (foldNode_nodes _) ?_
 have h : ∀ l : List CoreT, (∀ x ∈ l, (foldT x).nodes ≤ x.nodes) → nodesL (l.map foldT) ≤ nodesL l := by
  intro l
  induction l with
  | nil => intro _; exact Nat.le_refl _
  | cons y l ih =>
    intro h
    have h1 := h y List.mem_cons_self
    have h2 := ih fun x hx => h x (List.mem_cons_of_mem _ hx)
    simp only [List.map_cons, nodesL]; omega
 have := h c.kids ih
 have := c.nodes_eq
 simp only [CoreT.with, CoreT.nodes]; omega
noncomputable def foldR (r : RouT) : RouT := { r with body := foldT r.body }
def zeroP : ProgT := ⟨[], [], [], 0⟩
noncomputable def foldP (p : ProgT) : ProgT := if validProg p = true then ⟨p.routines.map foldR, p.records, p.globals, p.main⟩ else zeroP
end Go.Proofs.YtjeomamdlmoghaaGreatDoor
end
section
namespace Go.Proofs.YtjeomamdlmoghaaGreatDoor
open Go.RowKit
section
variable {α : Type} {f : α → List Dat} {K : Nat} {w w' w1 w2 : World} {B : Nat} {e : TypeId} {l : List α} {c : α} {v v' : Value} {vs us : List Value} {G : List Nat}
def Grow (B : Nat) (e : TypeId) (K : Nat) (f : α → List Dat) (w : World) (l : List α) (v : Value) (vs : List Value) : Prop :=
 ∃ F : List Nat, w.ownsRow B e K v l.length vs ∧ OwnVs w (flat f l) F vs ∧ F.Nodup ∧ (∀ g ∈ F, B ≤ g) ∧ (∀ g, v.ownBlock = some g → g ∉ F)
theorem Grow.own (h : Grow B e K f w l v vs) : w.ownsRow B e K v l.length vs := by obtain ⟨F, h, -⟩ := h; exact h
theorem Grow.len (h : Grow B e K f w l v vs) : vs.length = (flat f l).length := by obtain ⟨F, -, h, -⟩ := h; exact h.len
theorem Grow.start (h : w.ownsRow B e K v 0 []) : Grow B e K f w ([] : List α) v [] := ⟨[], h, by simp only [flat_nil]; exact .nil_, List.nodup_nil, by simp, by simp⟩
theorem Grow.kept (h : Grow B e K f w l v vs) (hb : ∀ g, g < w.heap.size → w'.heap[g]? = w.heap[g]?) : Grow B e K f w' l v vs := by
 obtain ⟨F, h1, h2, h3, h4, h5⟩ := h
 exact ⟨F, own_block h1 fun g hg => hb g (h1.lt g hg).2, h2.kept fun g hg => hb g (h2.lt g hg), h3, h4, h5⟩
theorem Grow.later (h : Grow B e K f w l v vs) (hb : Below w.heap.size w w') : Grow B e K f w' l v vs := h.kept fun g hg => hb.block g hg
theorem Grow.same (h : Grow B e K f w l v vs) (hs : Same w w') : Grow B e K f w' l v vs := h.kept fun g _ => by rw [hs.heap]
theorem Grow.alloc (h : Grow B e K f w l v vs) (o : Obj) : Grow B e K f (w.alloc o) l v vs := h.later ((Below.refl w.heap.size w).alloc (Nat.le_refl _) o)
theorem Grow.setFar (h : Grow B e K f w l v vs) {p : Addr} (hp : p.block < B) (u : Value) : Grow B e K f (w.setCell p u) l v vs := by
 obtain ⟨F, h1, h2, h3, h4, h5⟩ := h
 refine ⟨F, own_block h1 fun g hg => Below.heap_setCell w p u g (fun e => ?_), h2.kept fun g hg => Below.heap_setCell w p u g (fun e => ?_), h3, h4, h5⟩
 ·have := (h1.lt g hg).1; omega
 ·have := h4 g hg; omega
theorem Grow.rep (h : Grow B e K f w l v vs) : LRep w B w.heap.size K f v l := by
 obtain ⟨F, h1, h2, h3, h4, h5⟩ := h
 exact .mkRow (Rds.own_in h1 fun g hg => h1.lt g hg) (h2.rep fun g hg => ⟨h4 g hg, h2.lt g hg⟩)
theorem Grow.ownV (h : Grow B e K f w l v vs) : ∃ F, OwnV w (.row K l.length (flat f l)) F v ∧ F.Nodup ∧ ∀ g ∈ F, B ≤ g := by
 obtain ⟨F, h1, h2, h3, h4, h5⟩ := h
 refine ⟨_, OwnV.mkRow h1 h2, List.nodup_append.2 ⟨?_, h3, fun a ha b hb e => ?_⟩, fun g hg => ?_⟩
 ·cases v.ownBlock <;> simp
 ·subst e; exact h5 a (by simpa using ha) hb
 ·rcases List.mem_append.1 hg with hg | hg
  ·exact (h1.lt g (by simpa using hg)).1
  ·exact h4 g hg
theorem Grow.made (h : Grow B e K f w l v vs) : OwnLR w B w.heap.size K f v l := by
 obtain ⟨F, h1, h2, h3⟩ := h.ownV
 exact ⟨F, h1, h2, fun g hg => ⟨h3 g hg, h1.lt g hg⟩⟩
theorem Grow.push (h : Grow B e K f w l v vs) (hb : Below w.heap.size w w1) (hB : B ≤ w.heap.size) (hc : OwnVs w1 (f c) G us) (hG : G.Nodup) (hg : ∀ g ∈ G, w.heap.size ≤ g)
 (ho : w2.ownsRow B e K v' (l.length + 1) (vs ++ us)) (hgr : w1.grownBy w2 v.ownBlock) (hat : v'.ownBlock = v.ownBlock ∨ v'.ownBlock = some (w1.heap.size + 1)) : Grow B e K f w2 (l ++ [c]) v' (vs ++ us) := by
 obtain ⟨F, h1, h2, h3, h4, h5⟩ := h
 have hF := h2.lt
 have hG1 := hc.lt
 have hv : ∀ g, v.ownBlock = some g → g < w.heap.size := fun g hg => (h1.lt g hg).2
 have h2' : OwnVs w2 (flat f l) F vs := h2.kept fun g hgF => (hgr.block g (Nat.lt_of_lt_of_le (hF g hgF) hb.size) (fun e => h5 g e.symm hgF)).trans (hb.block g (hF g hgF))
 have hc' : OwnVs w2 (f c) G us := hc.kept fun g hgG => hgr.block g (hG1 g hgG) (fun e => by have := hv g e.symm; have := hg g hgG; omega)
 refine ⟨F ++ G, by rw [List.length_append]; exact ho, by rw [flat_app, flat_cons, flat_nil, List.append_nil]; exact h2'.app hc', List.nodup_append.2 ⟨h3, hG, fun a ha b hb' e => ?_⟩, fun g hm => ?_, fun g hvg hm => ?_⟩
 ·subst e; have := hF a ha; have := hg a hb'; omega
 ·rcases List.mem_append.1 hm with hm | hm
  ·exact h4 g hm
  ·have := hg g hm; omega
 ·rcases hat with e | e
  ·rcases List.mem_append.1 hm with hm | hm
   ·exact h5 g (by rw [← e]; exact hvg) hm
   ·have := hv g (by rw [← e]; exact hvg); have := hg g hm; omega
  ·rw [e] at hvg; injection hvg with hvg
   rcases List.mem_append.1 hm with hm | hm
   ·have := hF g hm; have := hb.size; omega
   ·have := hG1 g hm; omega
end
end Go.Proofs.YtjeomamdlmoghaaGreatDoor
end
section
namespace Go.Proofs.YtjeomamdlmoghaaGreatDoor
open Go.RowKit
def Dat.flatB : Dat → Bool
 | .row _ _ _ => false
 | _ => true
theorem RepL.one {w : World} {lo hi : Nat} : ∀ {ds : List Dat} {vs : List Value}, RepL w lo hi ds vs → ∀ u ∈ vs, u.oneCell' = true
 | [], _, h, u, hu => by rw [h.outNil] at hu; cases hu
 | d :: ds, _, h, u, hu => by
   obtain ⟨v, vs', rfl, h1, h2⟩ := h.out
   rcases List.mem_cons.1 hu with rfl | hu
   ·cases d with
    | int k n => rw [h1.int_]; rfl
    | str s => rw [h1.str_]; rfl
    | bool b => rw [h1.bool_]; rfl
    | row => obtain ⟨A, c, rfl, -⟩ := h1.shape; rfl
   ·exact RepL.one h2 u hu
end Go.Proofs.YtjeomamdlmoghaaGreatDoor
end
