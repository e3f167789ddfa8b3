/- aeP of names: allNames, repeated of the program; WR, Y9, YQ of the reference. -/
import Derived.Test.YthbcamfejgghhaaGreatDoorQ04
import Derived.Test.YthbcamfejgghhaaGreatDoorQ07
set_option maxRecDepth 100000
set_option maxHeartbeats 8000000
set_option linter.unusedVariables false
set_option linter.unusedSimpArgs false
namespace Go.Proofs.YthbcamfejgghhaaGreatDoor
open Go.IntKind (i64)
open Go.RowKit
theorem nC {α : Type} {q : α → Bool} {l : List α} {j : Nat} {c : α} (h : l[j]? = some c) : (l.take (j + 1)).all q = ((l.take j).all q && q c) := by
 rw [gB h]; simp
theorem tq {α : Type} {q : α → Bool} {l : List α} {c : α} (h : c ∈ l) (hq : q c = false) : l.all q = false := by
 rw [Bool.eq_false_iff]; intro e; rw [List.all_eq_true.1 e c h] at hq; cases hq
theorem oK (l : List ByteArray) (v : Value) (w : World) (lo hi : Nat) (h : aW w lo hi 1 aR v l) (hhi : hi ≤ w.heap.size) (hst : bT w) :
 Calls Tryz.prog 28 #[v] w fun e w' => e = .returned (.bool (l.all bJ)) ∧ Below w.heap.size w w' := by
 obtain ⟨A, c, rfl, hc1, hc2⟩ := h.shape
 unfold maxLen at hc2
 go_in
 go_wp2_with fail
 go_loopw [7] (fun i wr => ∃ k : Nat, k ≤ l.length ∧ i = .int i64 k ∧ Hid ((l.take k).all bJ = true) ∧ Below w.heap.size w wr) (fun i _ => l.length - (intOf i).toNat)
 case atStart => exact ⟨0, nZ _, rfl, by simp [Hid], bR _ _⟩
 obtain ⟨k, hk, rfl, hgo, hb⟩ := hrel
 obtain ⟨wo, rfl⟩ := nW wr
 have hz := hb.size
 by_cases hlt : k < l.length
 ·obtain ⟨s, hc⟩ : ∃ s, l[k]? = some s := ⟨_, gE hlt⟩
  obtain ⟨g, off, rfl, hg1, hg2, q0⟩ := (h.below hb hhi).text hc
  have Qb := hst.below hb hst.2
  cases hq : bJ s with
  | true =>
    have HN : Hid ((l.take (k + 1)).all bJ = true) := lH (by rw [nC hc, hgo.out, hq]; rfl)
    have HQ := lH hq
    clear hc hq hgo
    go_wp2_with fail
    refine (jI s _ Qb).mono ?_; rw [HQ.out]; rintro e w1 ⟨rfl, hb1⟩
    exact I6
  | false =>
    have HF : Hid (l.all bJ = false) := tq (mG hc) hq
    have HQ := lH hq
    clear hc hq hgo
    go_wp2_with fail
    refine (jI s _ Qb).mono ?_; rw [HQ.out]; rintro e w1 ⟨rfl, hb1⟩
    exact JH
 obtain rfl : k = l.length := by omega
 rw [List.take_length] at hgo
 go_wp2_with fail
 go_ret
 exact ⟨bD hgo.out.symm, hb⟩
theorem jZ (l : List ByteArray) (most : Nat) (v : Value) (w : World) (lo hi : Nat) (h : aW w lo hi 1 aR v l) (hhi : hi ≤ w.heap.size) :
 Calls Tryz.prog 33 #[v, most] w fun e w' => e = .returned (.bool (l.all bJ && decide (l.length ≤ most))) ∧ Below w.heap.size w w' := by
 obtain ⟨A, c, rfl, hc1, hc2⟩ := h.shape
 unfold maxLen at hc2
 go_in
 go_wp2_with fail
 go_loopw [5] (fun i wr => ∃ k : Nat, k ≤ l.length ∧ i = .int i64 k ∧ Hid ((l.take k).all bJ = true) ∧ Below w.heap.size w wr) (fun i _ => l.length - (intOf i).toNat)
 case atStart => exact ⟨0, nZ _, rfl, by simp [Hid], bR _ _⟩
 obtain ⟨k, hk, rfl, hgo, hb⟩ := hrel
 obtain ⟨wo, rfl⟩ := nW wr
 have hz := hb.size
 by_cases hlt : k < l.length
 ·obtain ⟨s, hc⟩ : ∃ s, l[k]? = some s := ⟨_, gE hlt⟩
  obtain ⟨g, off, rfl, hg1, hg2, q0⟩ := (h.below hb hhi).text hc
  cases hq : bJ s with
  | true =>
    have HN : Hid ((l.take (k + 1)).all bJ = true) := lH (by rw [nC hc, hgo.out, hq]; rfl)
    have HQ := lH hq
    clear hc hq hgo
    go_wp2_with fail
    refine (iH s _).mono ?_; rw [HQ.out]; rintro e w1 ⟨rfl, hb1⟩
    exact I6
  | false =>
    have HF : Hid ((l.all bJ && decide (l.length ≤ most)) = false) := lH (by rw [tq (mG hc) hq]; rfl)
    have HQ := lH hq
    clear hc hq hgo
    go_wp2_with fail
    refine (iH s _).mono ?_; rw [HQ.out]; rintro e w1 ⟨rfl, hb1⟩
    exact JH
 obtain rfl : k = l.length := by omega
 rw [List.take_length] at hgo
 go_wp2_with fail
 go_ret
 exact ⟨bD (by rw [hgo.out, Bool.true_and]), hb⟩
theorem Pb {s : ByteArray} : ∀ (l : List ByteArray) (i : Nat), s ∈ l → (i : Int) ≤ Lib.idxFromS l s i
 | [], _, h => by cases h
 | z :: l, i, h => by
   by_cases hz : z = s
   ·simp [Lib.idxFromS, hz]
   have h' : s ∈ l := by rcases mC h with e | e; exact absurd e.symm hz; exact e
   have := Pb l (i + 1) h'
   simp only [Lib.idxFromS, if_neg hz]
   omega
theorem Rw {s : ByteArray} : ∀ (l : List ByteArray) (i n : Nat), s ∈ l → (Lib.idxFromS l s i < ((i + n : Nat) : Int) ↔ s ∈ l.take n)
 | [], _, _, h => by cases h
 | z :: l, i, n, h => by
   cases n with
   | zero => have := Pb (z :: l) i h; simp; omega
   | succ n =>
     by_cases hz : z = s
     ·simp [Lib.idxFromS, hz]; omega
     have h' : s ∈ l := by rcases mC h with e | e; exact absurd e.symm hz; exact e
     have := Rw l (i + 1) n h'
     simp only [Lib.idxFromS, if_neg hz, List.take_succ_cons, List.mem_cons]
     rw [show i + (n + 1) = i + 1 + n by omega, this]
     exact ⟨.inr, fun e => by rcases e with e | e; exact absurd e.symm hz; exact e⟩
theorem Ty {l : List ByteArray} {s : ByteArray} {k : Nat} (h : l[k]? = some s) : decide (Lib.idxOfS l s < (k : Int)) = Lib.containsS (l.take k) s := by
 have := Rw l 0 k (mG h)
 rw [Bool.eq_iff_iff, decide_eq_true_eq, Lib.containsS_iff, ← this, Lib.idxOfS, Nat.zero_add]
def pX (l : List ByteArray) (i : Nat) : Bool := Lib.containsS (l.take i) (l.getD i ByteArray.empty)
def rG (l : List ByteArray) : Bool := (List.range l.length).any (pX l)
theorem Dh {l : List ByteArray} {k : Nat} {s : ByteArray} (h : l[k]? = some s) : pX l k = Lib.containsS (l.take k) s := by rw [pX, List.getD, h]; rfl
theorem FJ {l : List ByteArray} {k : Nat} (hk : k < l.length) (h : pX l k = true) : rG l = true := List.any_eq_true.2 ⟨k, List.mem_range.2 hk, h⟩
theorem KL {l : List ByteArray} (h : ∀ j, j < l.length → pX l j = false) : rG l = false := by
 rw [rG, List.any_eq_false]; intro j hj; rw [h j (List.mem_range.1 hj)]; decide
theorem iq (l : List ByteArray) (s : ByteArray) (v : Value) (w : World) (lo hi : Nat) (h : aW w lo hi 1 aR v l) :
 Calls Tryz.prog 71 #[v, s] w fun e w' => e = .returned (.int i64 (Lib.idxOfS l s)) ∧ w = w' := by
 obtain ⟨A, c, rfl, hc1, hc2⟩ := h.shape
 unfold maxLen at hc2
 go_in
 go_wp2_with fail
 go_loop [5] (fun i => ∃ k : Nat, k ≤ l.length ∧ i = .int i64 k ∧ Hid (∀ j, j < k → l.getD j ByteArray.empty ≠ s)) (fun i => l.length - (intOf i).toNat)
 case atStart => exact ⟨0, nZ _, rfl, fun j hj => absurd hj ah⟩
 obtain ⟨k, hk, rfl, hgo⟩ := hrel
 by_cases hlt : k < l.length
 ·obtain ⟨t, hc⟩ : ∃ t, l[k]? = some t := ⟨_, gE hlt⟩
  obtain ⟨g, off, rfl, hg1, hg2, q0⟩ := h.text hc
  have hd : l.getD k ByteArray.empty = t := by rw [List.getD, hc]; rfl
  by_cases hts : t = s
  ·subst hts
   have HI : Hid (Lib.idxOfS l t = (k : Int)) := by have := Lib.idxOfS_hit l l.length k t hlt (nR _) hd hgo.out; rwa [List.take_length] at this
   have hb := str_eq t
   clear hc hd hgo
   go_wp2_with fail
   go_ret
   exact ⟨pU HI.out.symm, rfl⟩
  have hb := GD hts
  have HN : Hid (∀ j, j < k + 1 → l.getD j ByteArray.empty ≠ s) := fun j hj => by
   by_cases e : j = k
   ·subst e; rw [hd]; exact hts
   exact hgo.out j ah
  clear hc hd hgo hts
  exact NZ
 obtain rfl : k = l.length := by omega
 have HI : Hid (Lib.idxOfS l s = -1) := by have := Lib.idxOfS_miss l l.length s hgo.out; rwa [List.take_length] at this
 clear hgo
 go_wp2_with fail
 go_ret
 exact ⟨pU HI.out.symm, rfl⟩
theorem tC (l : List ByteArray) (v : Value) (w : World) (lo hi : Nat) (h : aW w lo hi 1 aR v l) :
 Calls Tryz.prog 36 #[v] w fun e w' => e = .returned (.bool (rG l)) ∧ w = w' := by
 have HF := fun s => lH (iq l s v w lo hi h)
 obtain ⟨A, c, rfl, hc1, hc2⟩ := h.shape
 unfold maxLen at hc2
 go_in
 go_wp2_with fail
 go_loop [3] (fun i => ∃ k : Nat, k ≤ l.length ∧ i = .int i64 k ∧ Hid (∀ j, j < k → pX l j = false)) (fun i => l.length - (intOf i).toNat)
 case atStart => exact ⟨0, nZ _, rfl, fun j hj => absurd hj ah⟩
 obtain ⟨k, hk, rfl, hgo⟩ := hrel
 by_cases hlt : k < l.length
 ·obtain ⟨t, hc⟩ : ∃ t, l[k]? = some t := ⟨_, gE hlt⟩
  obtain ⟨g, off, rfl, hg1, hg2, q0⟩ := h.text hc
  have HL := lH (Ty hc)
  have HT := lH (Dh hc)
  have HF1 := HF t
  clear HF
  obtain ⟨n, hn⟩ : ∃ n, Lib.idxOfS l t = n := ⟨_, rfl⟩
  cases hq : Lib.containsS (l.take k) t with
  | true =>
    have HY := lH (FJ hlt (HT.out.trans hq))
    have hnk : n < (k : Int) := by have := HL.out; rw [hq, hn] at this; exact of_decide_eq_true this
    have HN := lH hn
    clear hc hgo hq hn
    go_wp2_with fail
    refine HF1.out.mono ?_; rw [HN.out]; rintro e w1 ⟨rfl, rfl⟩
    go_wp2_with fail
    go_ret
    exact ⟨bD HY.out.symm, rfl⟩
  | false =>
    have HG : Hid (∀ j, j < k + 1 → pX l j = false) := fun j hj => by
     by_cases e : j = k
     ·subst e; exact HT.out.trans hq
     exact hgo.out j ah
    have hnk : ¬ n < (k : Int) := by have := HL.out; rw [hq, hn] at this; exact of_decide_eq_false this
    have HN := lH hn
    clear hc hgo hq hn
    go_wp2_with fail
    refine HF1.out.mono ?_; rw [HN.out]; rintro e w1 ⟨rfl, rfl⟩
    go_wp2_with fail
    go_round
    case rel => exact ⟨k + 1, ah, by go_num, HG⟩
    simp [intOf]; omega
 obtain rfl : k = l.length := by omega
 have HN := lH (KL hgo.out)
 clear hgo
 go_wp2_with fail
 go_ret
 exact ⟨bD HN.out.symm, rfl⟩
theorem aW.Vs {w : World} {lo hi cap j g off : Nat} {l : List ByteArray} (h : aW w lo hi 1 aR (.slice (some (aj g off)) l.length cap) l) (hj : j < l.length) : w.cell? (aj g (off + j)) = some (.string (l.getD j ByteArray.empty)) := by
 obtain ⟨g', off', hA, -, -, hc⟩ := h.text (gE hj)
 injection hA with hA
 injection hA with e1 e2 _
 subst e1 e2
 rw [hc, List.getD, gE hj]; rfl
theorem wW (l : List ByteArray) (v : Value) (w : World) (lo hi : Nat) (h : aW w lo hi 1 aR v l) :
 Calls Tryz.prog 55 #[v] w fun e w' => e = .returned (.bool (rG l)) ∧ Same w w' := by
 obtain ⟨A, c, rfl, hc1, hc2⟩ := h.shape
 unfold maxLen at hc2
 go_in
 go_wp2_with fail
 go_loopw [6] (fun i wr => ∃ k : Nat, k ≤ l.length ∧ i = .int i64 k ∧ Hid (∀ j, j < k → pX l j = false) ∧ Same w wr) (fun i _ => l.length - (intOf i).toNat)
 case atStart => exact ⟨0, nZ _, rfl, (fun j hj => absurd hj ah), Same.refl _⟩
 obtain ⟨k, hk, rfl, hgo, hs⟩ := hrel
 obtain ⟨wo, rfl⟩ := nW wr
 by_cases hlt : k < l.length
 ·obtain ⟨t, hc⟩ : ∃ t, l[k]? = some t := ⟨_, gE hlt⟩
  obtain ⟨g, off, rfl, hg1, hg2, q0⟩ := (h.same hs).text hc
  have HT := lH (Dh hc)
  have e0 : (0 : Int) ≤ (k : Int) := ah
  have e8 : (k : Int) < (l.length : Int) := ah
  have e9 : (k : Int) ≤ (c : Int) := ah
  have e7 : k ≤ c := ah
  clear hc
  obtain ⟨r, hr⟩ : ∃ r, Lib.containsS (l.take k) t = r := ⟨_, rfl⟩
  have HR := lH hr
  clear hr
  have HC : Hid (Calls Tryz.prog 93 #[.slice (some (aj g off)) k c, t] wo.drew fun e w' => e = .returned (.bool r) ∧ w' = wo.drew) := by
   show Calls _ _ _ _ _
   rw [← HR.out]
   exact Tryz.slices_Contains_string g off k c l t wo.drew ah ah fun j hj => (h.same hs.drew).Vs hj
  go_wp2_with fail
  go_still_tail 7, aI
  change wpList _ _ _ _ _ wo.drew
  go_wp2_with fail
  refine HC.out.mono ?_; rintro e w1 ⟨rfl, rfl⟩
  clear HC
  cases r with
  | true =>
    have HY := lH (FJ hlt (HT.out.trans HR.out))
    clear hgo
    go_wp2_with fail
    go_ret
    exact ⟨bD HY.out.symm, hs.drew⟩
  | false =>
    have HG : Hid (∀ j, j < k + 1 → pX l j = false) := fun j hj => by
     by_cases e : j = k
     ·subst e; exact HT.out.trans HR.out
     exact hgo.out j ah
    clear hgo
    go_wp2_with fail
    go_roundw
    case rel => exact ⟨k + 1, ah, by go_num, HG, hs.drew⟩
    simp [intOf]; omega
 obtain rfl : k = l.length := by omega
 have HN := lH (KL hgo.out)
 clear hgo
 go_wp2_with fail
 go_ret
 exact ⟨bD HN.out.symm, hs⟩
end Go.Proofs.YthbcamfejgghhaaGreatDoor
