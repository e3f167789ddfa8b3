/- Lists of names: allNames, repeated of the program; l7NamesOk, l9Find, l9Twice of the reference. -/
import Derived.Test.YtekobbeoaalibaaGreatDoorNames
import Derived.Test.YtekobbeoaalibaaGreatDoorRow
import Derived.StillTailTactics
namespace Go.Proofs.YtekobbeoaalibaaGreatDoor
open Go.RowKit
set_option linter.unusedVariables false

theorem all_snoc {α : Type} {q : α → Bool} {l : List α} {j : Nat} {c : α} (h : l[j]? = some c) : (l.take (j + 1)).all q = ((l.take j).all q && q c) := by
  rw [take_snoc_of h]; simp
theorem all_no {α : Type} {q : α → Bool} {l : List α} {c : α} (h : c ∈ l) (hq : q c = false) : l.all q = false := by
  rw [Bool.eq_false_iff]; intro e; rw [List.all_eq_true.1 e c h] at hq; cases hq

set_option maxRecDepth 100000 in
set_option maxHeartbeats 1000000 in
theorem impl_allNames (l : List ByteArray) (v : Value) (w : World) (lo hi : Nat) (h : LRep w lo hi 1 strDats v l) (hhi : hi ≤ w.heap.size) (hst : SpaceTab w) :
    Calls Tryz.prog 88 #[v] w fun e w' => e = .returned (.bool (l.all isNameB)) ∧ Below w.heap.size w w' := by
  obtain ⟨A, c, rfl, hc1, hc2⟩ := h.shape
  unfold maxLen at hc2
  go_enter Tryz.func88, Tryz.ntmps88
  go_wp2_with fail
  go_loopw [7] (fun i wr => ∃ k : Nat, k ≤ l.length ∧ i = .int .i64 k ∧ Hid ((l.take k).all isNameB = true) ∧ Below w.heap.size w wr) (fun i _ => l.length - (intOf i).toNat)
  case atStart => exact ⟨0, Nat.zero_le _, rfl, by simp [Hid], Below.refl _ _⟩
  case round =>
    obtain ⟨k, hk, rfl, hgo, hb⟩ := hrel
    obtain ⟨wo, rfl⟩ : ∃ wo : World, wo = wr := ⟨_, rfl⟩
    have hz := hb.size
    by_cases hlt : k < l.length
    · obtain ⟨s, hc⟩ : ∃ s, l[k]? = some s := ⟨_, List.getElem?_eq_getElem hlt⟩
      obtain ⟨g, off, rfl, hg1, hg2, q0⟩ := (h.below hb hhi).text hc
      have hst1 := hst.below hb hst.2
      cases hq : isNameB s with
      | true =>
        have HN : Hid ((l.take (k + 1)).all isNameB = true) := by show _ = _; rw [all_snoc hc, hgo.out, hq]; rfl
        have HQ := Lib.hid hq
        clear hc hq hgo
        go_wp2_with fail
        refine (impl_IsName s _ hst1).mono ?_; rw [HQ.out]; rintro e w1 ⟨rfl, hb1⟩
        have hb2 := hb.trans (hb1.mono hz)
        clear q0 hb1
        go_wp2_with fail
        go_roundw
        case rel => exact ⟨k + 1, by omega, by go_num, HN, hb2⟩
        case measure => simp [intOf]; omega
      | false =>
        have HF : Hid (l.all isNameB = false) := all_no (List.mem_of_getElem? hc) hq
        have HQ := Lib.hid hq
        clear hc hq hgo
        go_wp2_with fail
        refine (impl_IsName s _ hst1).mono ?_; rw [HQ.out]; rintro e w1 ⟨rfl, hb1⟩
        go_wp2_with fail
        go_ret
        exact ⟨ret_bool HF.out.symm, hb.trans (hb1.mono hz)⟩
    · obtain rfl : k = l.length := by omega
      rw [List.take_length] at hgo
      go_wp2_with fail
      go_ret
      exact ⟨ret_bool hgo.out.symm, hb⟩

set_option maxRecDepth 100000 in
set_option maxHeartbeats 1000000 in
theorem spec_l7NamesOk (l : List ByteArray) (most : Nat) (v : Value) (w : World) (lo hi : Nat) (h : LRep w lo hi 1 strDats v l) (hhi : hi ≤ w.heap.size) :
    Calls Tryz.prog 79 #[v, .int .i64 most] w fun e w' => e = .returned (.bool (l.all isNameB && decide (l.length ≤ most))) ∧ Below w.heap.size w w' := by
  obtain ⟨A, c, rfl, hc1, hc2⟩ := h.shape
  unfold maxLen at hc2
  go_enter Tryz.func79, Tryz.ntmps79
  go_wp2_with fail
  go_loopw [5] (fun i wr => ∃ k : Nat, k ≤ l.length ∧ i = .int .i64 k ∧ Hid ((l.take k).all isNameB = true) ∧ Below w.heap.size w wr) (fun i _ => l.length - (intOf i).toNat)
  case atStart => exact ⟨0, Nat.zero_le _, rfl, by simp [Hid], Below.refl _ _⟩
  case round =>
    obtain ⟨k, hk, rfl, hgo, hb⟩ := hrel
    obtain ⟨wo, rfl⟩ : ∃ wo : World, wo = wr := ⟨_, rfl⟩
    have hz := hb.size
    by_cases hlt : k < l.length
    · obtain ⟨s, hc⟩ : ∃ s, l[k]? = some s := ⟨_, List.getElem?_eq_getElem hlt⟩
      obtain ⟨g, off, rfl, hg1, hg2, q0⟩ := (h.below hb hhi).text hc
      cases hq : isNameB s with
      | true =>
        have HN : Hid ((l.take (k + 1)).all isNameB = true) := by show _ = _; rw [all_snoc hc, hgo.out, hq]; rfl
        have HQ := Lib.hid hq
        clear hc hq hgo
        go_wp2_with fail
        refine (spec_IsName s _).mono ?_; rw [HQ.out]; rintro e w1 ⟨rfl, hb1⟩
        have hb2 := hb.trans (hb1.mono hz)
        clear q0 hb1
        go_wp2_with fail
        go_roundw
        case rel => exact ⟨k + 1, by omega, by go_num, HN, hb2⟩
        case measure => simp [intOf]; omega
      | false =>
        have HF : Hid ((l.all isNameB && decide (l.length ≤ most)) = false) := by show _ = _; rw [all_no (List.mem_of_getElem? hc) hq]; rfl
        have HQ := Lib.hid hq
        clear hc hq hgo
        go_wp2_with fail
        refine (spec_IsName s _).mono ?_; rw [HQ.out]; rintro e w1 ⟨rfl, hb1⟩
        go_wp2_with fail
        go_ret
        exact ⟨ret_bool HF.out.symm, hb.trans (hb1.mono hz)⟩
    · obtain rfl : k = l.length := by omega
      rw [List.take_length] at hgo
      go_wp2_with fail
      go_ret
      exact ⟨ret_bool (by rw [hgo.out, Bool.true_and]), hb⟩

theorem idx_low {s : ByteArray} : ∀ (l : List ByteArray) (i : Nat), s ∈ l → (i : Int) ≤ Lib.idxFromS l s i
  | [], _, h => by cases h
  | z :: l, i, h => by
    by_cases hz : z = s
    · simp [Lib.idxFromS, hz]
    · have h' : s ∈ l := by rcases List.mem_cons.1 h with e | e; exact absurd e.symm hz; exact e
      have := idx_low l (i + 1) h'
      simp only [Lib.idxFromS, if_neg hz]
      omega
theorem idx_lt {s : ByteArray} : ∀ (l : List ByteArray) (i n : Nat), s ∈ l → (Lib.idxFromS l s i < ((i + n : Nat) : Int) ↔ s ∈ l.take n)
  | [], _, _, h => by cases h
  | z :: l, i, n, h => by
    cases n with
    | zero => have := idx_low (z :: l) i h; simp; omega
    | succ n =>
      by_cases hz : z = s
      · simp [Lib.idxFromS, hz]; omega
      · have h' : s ∈ l := by rcases List.mem_cons.1 h with e | e; exact absurd e.symm hz; exact e
        have := idx_lt l (i + 1) n h'
        simp only [Lib.idxFromS, if_neg hz, List.take_succ_cons, List.mem_cons]
        rw [show i + (n + 1) = i + 1 + n by omega, this]
        exact ⟨.inr, fun e => by rcases e with e | e; exact absurd e.symm hz; exact e⟩
theorem find_lt {l : List ByteArray} {s : ByteArray} {k : Nat} (h : l[k]? = some s) : decide (Lib.idxOfS l s < (k : Int)) = Lib.containsS (l.take k) s := by
  have := idx_lt l 0 k (List.mem_of_getElem? h)
  rw [Bool.eq_iff_iff, decide_eq_true_eq, Lib.containsS_iff, ← this, Lib.idxOfS, Nat.zero_add]
/-- does the text at i stand before i, too? -/
def twiceAt (l : List ByteArray) (i : Nat) : Bool := Lib.containsS (l.take i) (l.getD i ByteArray.empty)
/-- does a text occur twice? -/
def twiceB (l : List ByteArray) : Bool := (List.range l.length).any (twiceAt l)
theorem twiceAt_eq {l : List ByteArray} {k : Nat} {s : ByteArray} (h : l[k]? = some s) : twiceAt l k = Lib.containsS (l.take k) s := by rw [twiceAt, List.getD, h]; rfl
theorem twice_yes {l : List ByteArray} {k : Nat} (hk : k < l.length) (h : twiceAt l k = true) : twiceB l = true := List.any_eq_true.2 ⟨k, List.mem_range.2 hk, h⟩
theorem twice_no {l : List ByteArray} (h : ∀ j, j < l.length → twiceAt l j = false) : twiceB l = false := by
  rw [twiceB, List.any_eq_false]; intro j hj; rw [h j (List.mem_range.1 hj)]; decide

set_option maxRecDepth 100000 in
set_option maxHeartbeats 1000000 in
theorem spec_l9Find (l : List ByteArray) (s : ByteArray) (v : Value) (w : World) (lo hi : Nat) (h : LRep w lo hi 1 strDats v l) :
    Calls Tryz.prog 111 #[v, .string s] w fun e w' => e = .returned (.int .i64 (Lib.idxOfS l s)) ∧ w = w' := by
  obtain ⟨A, c, rfl, hc1, hc2⟩ := h.shape
  unfold maxLen at hc2
  go_enter Tryz.func111, Tryz.ntmps111
  go_wp2_with fail
  go_loop [5] (fun i => ∃ k : Nat, k ≤ l.length ∧ i = .int .i64 k ∧ Hid (∀ j, j < k → l.getD j ByteArray.empty ≠ s)) (fun i => l.length - (intOf i).toNat)
  case atStart => exact ⟨0, Nat.zero_le _, rfl, fun j hj => absurd hj (by omega)⟩
  case round =>
    obtain ⟨k, hk, rfl, hgo⟩ := hrel
    by_cases hlt : k < l.length
    · obtain ⟨t, hc⟩ : ∃ t, l[k]? = some t := ⟨_, List.getElem?_eq_getElem hlt⟩
      obtain ⟨g, off, rfl, hg1, hg2, q0⟩ := h.text hc
      have hd : l.getD k ByteArray.empty = t := by rw [List.getD, hc]; rfl
      by_cases hts : t = s
      · subst hts
        have HI : Hid (Lib.idxOfS l t = (k : Int)) := by have := Lib.idxOfS_hit l l.length k t hlt (Nat.le_refl _) hd hgo.out; rwa [List.take_length] at this
        have hb := str_eq t
        clear hc hd hgo
        go_wp2_with fail
        go_ret
        exact ⟨ret_int HI.out.symm, rfl⟩
      · have hb := str_ne hts
        have HN : Hid (∀ j, j < k + 1 → l.getD j ByteArray.empty ≠ s) := fun j hj => by
          by_cases e : j = k
          · subst e; rw [hd]; exact hts
          · exact hgo.out j (by omega)
        clear hc hd hgo hts
        go_wp2_with fail
        go_round
        case rel => exact ⟨k + 1, by omega, by go_num, HN⟩
        case measure => simp [intOf]; omega
    · obtain rfl : k = l.length := by omega
      have HI : Hid (Lib.idxOfS l s = -1) := by have := Lib.idxOfS_miss l l.length s hgo.out; rwa [List.take_length] at this
      clear hgo
      go_wp2_with fail
      go_ret
      exact ⟨ret_int HI.out.symm, rfl⟩

set_option maxRecDepth 100000 in
set_option maxHeartbeats 1000000 in
theorem spec_l9Twice (l : List ByteArray) (v : Value) (w : World) (lo hi : Nat) (h : LRep w lo hi 1 strDats v l) :
    Calls Tryz.prog 82 #[v] w fun e w' => e = .returned (.bool (twiceB l)) ∧ w = w' := by
  have HF := fun s => Lib.hid (spec_l9Find l s v w lo hi h)
  obtain ⟨A, c, rfl, hc1, hc2⟩ := h.shape
  unfold maxLen at hc2
  go_enter Tryz.func82, Tryz.ntmps82
  go_wp2_with fail
  go_loop [3] (fun i => ∃ k : Nat, k ≤ l.length ∧ i = .int .i64 k ∧ Hid (∀ j, j < k → twiceAt l j = false)) (fun i => l.length - (intOf i).toNat)
  case atStart => exact ⟨0, Nat.zero_le _, rfl, fun j hj => absurd hj (by omega)⟩
  case round =>
    obtain ⟨k, hk, rfl, hgo⟩ := hrel
    by_cases hlt : k < l.length
    · obtain ⟨t, hc⟩ : ∃ t, l[k]? = some t := ⟨_, List.getElem?_eq_getElem hlt⟩
      obtain ⟨g, off, rfl, hg1, hg2, q0⟩ := h.text hc
      have HL := Lib.hid (find_lt hc)
      have HT := Lib.hid (twiceAt_eq hc)
      have HF1 := HF t
      clear HF
      obtain ⟨n, hn⟩ : ∃ n, Lib.idxOfS l t = n := ⟨_, rfl⟩
      cases hq : Lib.containsS (l.take k) t with
      | true =>
        have HY := Lib.hid (twice_yes hlt (HT.out.trans hq))
        have hnk : n < (k : Int) := by have := HL.out; rw [hq, hn] at this; exact of_decide_eq_true this
        have HN := Lib.hid hn
        clear hc hgo hq hn
        go_wp2_with fail
        refine HF1.out.mono ?_; rw [HN.out]; rintro e w1 ⟨rfl, rfl⟩
        go_wp2_with fail
        go_ret
        exact ⟨ret_bool HY.out.symm, rfl⟩
      | false =>
        have HG : Hid (∀ j, j < k + 1 → twiceAt l j = false) := fun j hj => by
          by_cases e : j = k
          · subst e; exact HT.out.trans hq
          · exact hgo.out j (by omega)
        have hnk : ¬ n < (k : Int) := by have := HL.out; rw [hq, hn] at this; exact of_decide_eq_false this
        have HN := Lib.hid hn
        clear hc hgo hq hn
        go_wp2_with fail
        refine HF1.out.mono ?_; rw [HN.out]; rintro e w1 ⟨rfl, rfl⟩
        go_wp2_with fail
        go_round
        case rel => exact ⟨k + 1, by omega, by go_num, HG⟩
        case measure => simp [intOf]; omega
    · obtain rfl : k = l.length := by omega
      have HN := Lib.hid (twice_no hgo.out)
      clear hgo
      go_wp2_with fail
      go_ret
      exact ⟨ret_bool HN.out.symm, rfl⟩

theorem LRep.textAt {w : World} {lo hi cap j g off : Nat} {l : List ByteArray} (h : LRep w lo hi 1 strDats (.slice (some ⟨g, off, none⟩) l.length cap) l) (hj : j < l.length) : w.cell? ⟨g, off + j, none⟩ = some (.string (l.getD j ByteArray.empty)) := by
  obtain ⟨g', off', hA, -, -, hc⟩ := h.text (List.getElem?_eq_getElem hj)
  injection hA with hA
  injection hA with e1 e2 _
  subst e1 e2
  rw [hc, List.getD, List.getElem?_eq_getElem hj]; rfl
set_option maxRecDepth 100000 in
set_option maxHeartbeats 1000000 in
theorem impl_repeated (l : List ByteArray) (v : Value) (w : World) (lo hi : Nat) (h : LRep w lo hi 1 strDats v l) :
    Calls Tryz.prog 116 #[v] w fun e w' => e = .returned (.bool (twiceB l)) ∧ Same w w' := by
  obtain ⟨A, c, rfl, hc1, hc2⟩ := h.shape
  unfold maxLen at hc2
  go_enter Tryz.func116, Tryz.ntmps116
  go_wp2_with fail
  go_loopw [6] (fun i wr => ∃ k : Nat, k ≤ l.length ∧ i = .int .i64 k ∧ Hid (∀ j, j < k → twiceAt l j = false) ∧ Same w wr) (fun i _ => l.length - (intOf i).toNat)
  case atStart => exact ⟨0, Nat.zero_le _, rfl, (fun j hj => absurd hj (by omega)), Same.refl _⟩
  case round =>
    obtain ⟨k, hk, rfl, hgo, hs⟩ := hrel
    obtain ⟨wo, rfl⟩ : ∃ wo : World, wo = wr := ⟨_, rfl⟩
    by_cases hlt : k < l.length
    · obtain ⟨t, hc⟩ : ∃ t, l[k]? = some t := ⟨_, List.getElem?_eq_getElem hlt⟩
      obtain ⟨g, off, rfl, hg1, hg2, q0⟩ := (h.same hs).text hc
      have HT := Lib.hid (twiceAt_eq hc)
      have e0 : (0 : Int) ≤ (k : Int) := by omega
      have e8 : (k : Int) < (l.length : Int) := by omega
      have e9 : (k : Int) ≤ (c : Int) := by omega
      have e7 : k ≤ c := by omega
      clear hc
      obtain ⟨r, hr⟩ : ∃ r, Lib.containsS (l.take k) t = r := ⟨_, rfl⟩
      have HR := Lib.hid hr
      clear hr
      have HC : Hid (Calls Tryz.prog 137 #[.slice (some ⟨g, off, none⟩) k c, .string t] wo.drew fun e w' => e = .returned (.bool r) ∧ w' = wo.drew) := by
        show Calls _ _ _ _ _
        rw [← HR.out]
        exact Tryz.slices_Contains_string g off k c l t wo.drew (by omega) (by omega) fun j hj => (h.same hs.drew).textAt hj
      go_wp2_with fail
      go_still_tail 7, (by kernel_rfl)
      change wpList _ _ _ _ _ wo.drew
      go_wp2_with fail
      refine HC.out.mono ?_; rintro e w1 ⟨rfl, rfl⟩
      clear HC
      cases r with
      | true =>
        have HY := Lib.hid (twice_yes hlt (HT.out.trans HR.out))
        clear hgo
        go_wp2_with fail
        go_ret
        exact ⟨ret_bool HY.out.symm, hs.drew⟩
      | false =>
        have HG : Hid (∀ j, j < k + 1 → twiceAt l j = false) := fun j hj => by
          by_cases e : j = k
          · subst e; exact HT.out.trans HR.out
          · exact hgo.out j (by omega)
        clear hgo
        go_wp2_with fail
        go_roundw
        case rel => exact ⟨k + 1, by omega, by go_num, HG, hs.drew⟩
        case measure => simp [intOf]; omega
    · obtain rfl : k = l.length := by omega
      have HN := Lib.hid (twice_no hgo.out)
      clear hgo
      go_wp2_with fail
      go_ret
      exact ⟨ret_bool HN.out.symm, hs⟩
end Go.Proofs.YtekobbeoaalibaaGreatDoor
