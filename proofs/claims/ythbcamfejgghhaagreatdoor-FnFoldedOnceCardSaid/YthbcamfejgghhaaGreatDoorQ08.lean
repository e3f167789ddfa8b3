/- P9 of the reference: the decimal numeral, Lib.itoa. Expr trees in memory: the plain words, and how a value reads as one. No program. -/
import Derived.Test.YthbcamfejgghhaaGreatDoorQ04
set_option maxRecDepth 100000
set_option maxHeartbeats 8000000
set_option linter.unusedVariables false
set_option linter.unusedSimpArgs false
namespace Go.Proofs.YthbcamfejgghhaaGreatDoor
open Go.IntKind (i64)
open Go.RowKit
def dd (u : Nat) : List UInt8 := if u = 0 then [] else Lib.decDigits u
theorem KI (x : Nat) : UInt8.ofNat (48 + x) = 48 + UInt8.ofNat x := by
 rw [UInt8.ofNat_add]; rfl
theorem O8 {u : Nat} (h : 0 < u) : dd u = dd (u / 10) ++ [48 + UInt8.ofNat (u % 10)] := by
 rw [dd, if_neg ah, Lib.decDigits]
 split
 ·rename_i hlt
  rw [dd, if_pos ah, KI, Nat.mod_eq_of_lt hlt]; rfl
 rw [dd, if_neg ah, KI]
theorem Ru {u : Nat} (h : 0 < u) : Lib.decDigits u = dd u := by rw [dd, if_neg ah]
theorem Cy (x : UInt8) (acc : List UInt8) : (⟨#[x]⟩ : ByteArray) ++ ⟨acc.toArray⟩ = ⟨(x :: acc).toArray⟩ := by
 apply ByteArray.ext; simp
def dz (n : Int) : ByteArray := ⟨(Lib.itoa n).toArray⟩
theorem xI (n : Nat) (w : World) (h0 : 0 < n) (h1 : n ≤ 9223372036854775807) :
 Calls Tryz.prog 201 (dI n) w fun e w' => e = .returned (.string (dz n)) ∧ Below w.heap.size w w' := by
 have hn0 : ((n : Int) == 0) = false := bF ah
 have hn1 : decide ((n : Int) < 0) = false := dF ah
 have hcv := qV (P := Tryz.prog) 22 9 5 Tryz.underlying22 Tryz.underlying5 Tryz.underlying9
 have HF : Hid (dz n = ⟨(dd n).toArray⟩) := by show dz n = _; rw [dz, Lib.itoa_nonneg, Ru h0]
 go_in
 go_wp2_with fail
 go_loopw [0, 4] (fun i s wr => ∃ (u : Nat) (acc : List UInt8), u ≤ n ∧ ((0 < u ∧ 2 * acc.length ≤ n - u + 1) ∨ (u = 0 ∧ 2 * acc.length ≤ n + 2)) ∧ i = .int i64 u ∧ s = .string ⟨acc.toArray⟩ ∧ Hid (dd n = dd u ++ acc) ∧ Below w.heap.size w wr) (fun i _ _ => (intOf i).toNat)
 case atStart => exact ⟨n, [], nR _, .inl ⟨h0, av⟩, rfl, rfl, by simp [Hid], bR _ _⟩
 obtain ⟨u, acc, hu, hacc, rfl, rfl, hd, hb⟩ := hrel
 have hlen : 2 * acc.length ≤ n + 2 := ah
 by_cases hz : 0 < u
 ·have Xg : 2 * acc.length ≤ n - u + 1 := by omega
  clear hacc hlen
  have H : Hid (dd n = dd (u / 10) ++ ((48 + UInt8.ofNat (u % 10)) :: acc)) := by show dd n = _; rw [hd.out, O8 hz]; simp
  have hne : ((u : Int) != 0) = true := bne_iff_ne.2 ah
  exact Oz
 clear hacc
 obtain rfl : u = 0 := by omega
 have H : Hid (dd n = acc) := by show dd n = _; rw [hd.out]; rfl
 clear hd
 go_wp2_with fail
 go_ret
 exact ⟨qj (by rw [HF.out, H.out]), hb⟩
theorem xJ (n : Nat) (w : World) (h0 : 0 < n) (h1 : n ≤ 9223372036854775808) :
 Calls Tryz.prog 201 (dI (-(n : Int))) w fun e w' => e = .returned (.string (dz (-(n : Int)))) ∧ Below w.heap.size w w' := by
 have hn0 : (-(n : Int) == 0) = false := bF ah
 have hn1 : decide (-(n : Int) < 0) = true := dT ah
 have hcv := qV (P := Tryz.prog) 22 9 5 Tryz.underlying22 Tryz.underlying5 Tryz.underlying9
 have HF : Hid (dz (-(n : Int)) = ⟨(45 :: dd n).toArray⟩) := by show dz _ = _; rw [dz, Lib.itoa_neg n h0, Ru h0]
 go_in
 go_wp2_with fail
 go_loopw [0, 4] (fun i s wr => ∃ (u : Nat) (acc : List UInt8), u ≤ n ∧ ((0 < u ∧ 2 * acc.length ≤ n - u + 1) ∨ (u = 0 ∧ 2 * acc.length ≤ n + 2)) ∧ i = .int i64 (-(u : Int)) ∧ s = .string ⟨acc.toArray⟩ ∧ Hid (dd n = dd u ++ acc) ∧ Below w.heap.size w wr) (fun i _ _ => (-(intOf i)).toNat)
 case atStart => exact ⟨n, [], nR _, .inl ⟨h0, av⟩, rfl, rfl, by simp [Hid], bR _ _⟩
 obtain ⟨u, acc, hu, hacc, rfl, rfl, hd, hb⟩ := hrel
 have hlen : 2 * acc.length ≤ n + 2 := ah
 by_cases hz : 0 < u
 ·have Xg : 2 * acc.length ≤ n - u + 1 := by omega
  clear hacc hlen
  have H : Hid (dd n = dd (u / 10) ++ ((48 + UInt8.ofNat (u % 10)) :: acc)) := by show dd n = _; rw [hd.out, O8 hz]; simp
  have hne : (-(u : Int) != 0) = true := bne_iff_ne.2 ah
  have e2 : (-(u : Int)).tdiv 10 = -((u / 10 : Nat) : Int) := by rw [Int.neg_tdiv]; rfl
  by_cases hm : u % 10 = 0
  ·have e1 : (-(u : Int)).tmod 10 = 0 := by rw [Int.neg_tmod]; show -((u % 10 : Nat) : Int) = 0; omega
   rw [hm] at H
   clear hd hm
   go_wp2_with fail
   go_roundw
   case rel => exact ⟨u / 10, _, ah, by simp only [List.length_cons]; omega, by go_num, by rw [Cy]; rfl, H.out, hb.alloc hb.size _⟩
   simp [intOf]; omega
  have e1 : (-(u : Int)).tmod 10 = -((u % 10 : Nat) : Int) := by rw [Int.neg_tmod]; rfl
  have e3 : (0 : Int) < (u : Int) % 10 := ah
  exact Oz
 clear hacc
 obtain rfl : u = 0 := by omega
 have H : Hid (dd n = acc) := by show dd n = _; rw [hd.out]; rfl
 clear hd
 go_wp2_with fail
 go_ret
 exact ⟨qj (by rw [HF.out, H.out]; exact Cy _ _), hb⟩
theorem uL (n : Int) (w : World) (h0 : -9223372036854775808 ≤ n) (h1 : n ≤ 9223372036854775807) :
 Calls Tryz.prog 201 (dI n) w fun e w' => e = .returned (.string (dz n)) ∧ Below w.heap.size w w' := by
 by_cases hz : n = 0
 ·subst hz
  go_in
  go_wp2_with fail
  go_ret
  exact ⟨qj gP, bR _ _⟩
 by_cases hp : 0 < n
 ·obtain ⟨k, rfl⟩ : ∃ k : Nat, n = k := ⟨n.toNat, ah⟩
  exact xI k w ah ah
 obtain ⟨k, rfl⟩ : ∃ k : Nat, n = -(k : Int) := ⟨n.natAbs, ah⟩
 exact xJ k w ah ah
theorem jY (n : Int) (h0 : -9223372036854775808 ≤ n) (h1 : n ≤ 9223372036854775807) : (dz n).size ≤ 40 := by
 have h : ∀ u : Nat, u ≤ 9223372036854775808 → (Lib.decDigits u).length ≤ 20 := fun u hu => by rw [Lib.decDigits_length]; exact Lib.nDigits_le20 u ah
 unfold dz Lib.itoa
 split
 ·have := h n.natAbs ah; simp [ByteArray.size]; omega
 have := h n.toNat ah; simp [ByteArray.size]; omega
section
inductive aH where
 | mk (kind : Int) (text : ByteArray) (number line : Int) (kids : List aH)
def aH.kind : aH → Int | .mk k _ _ _ _ => k
def aH.text : aH → ByteArray | .mk _ t _ _ _ => t
def aH.number : aH → Int | .mk _ _ n _ _ => n
def aH.line : aH → Int | .mk _ _ _ l _ => l
def aH.kids : aH → List aH | .mk _ _ _ _ ks => ks
theorem aH.ind {P : aH → Prop} (h : ∀ c : aH, (∀ x ∈ c.kids, P x) → P c) (c : aH) : P c :=
 match c with
 | .mk k t n l kids => h _ fun x _hx => aH.ind h x
termination_by SizeOf.sizeOf c
decreasing_by have := List.sizeOf_lt_of_mem _hx; simp [aH.kids] at this ⊢; omega
mutual
def aH.aG : aH → List Dat
 | .mk k t n l kids => [.int i64 k, .str t, .int i64 n, .int i64 l, .row 5 kids.length (Df kids)]
def Df : List aH → List Dat
 | [] => []
 | c :: cs => c.aG ++ Df cs
end
theorem Ey (l : List aH) : Df l = flat aH.aG l := by
 induction l with
 | nil => rfl
 | cons c l ih => rw [cK, ← ih]; rfl
theorem aH.mX (c : aH) : c.aG = [.int i64 c.kind, .str c.text, .int i64 c.number, .int i64 c.line, .row 5 c.kids.length (flat aH.aG c.kids)] := by rw [← Ey]; cases c; simp only [aH.aG, aH.kind, aH.text, aH.number, aH.line, aH.kids]
theorem aH.eD (c : aH) : c.aG.length = 5 := by rw [c.mX]; rfl
section
variable {w : World} {lo hi : Nat} {x : Value} {c : aH}
theorem aH.form (h : dZ w lo hi aH.aG x c) : ∃ A n, x = .agg (ay c.kind c.text c.number c.line A c.kids.length n) ∧ aW w lo hi 5 aH.aG (.slice A c.kids.length n) c.kids ∧ c.kids.length ≤ n ∧ n ≤ maxLen := by
 obtain ⟨cs, rfl, h1⟩ := h
 rw [aH.mX] at h1
 obtain ⟨v0, t0, rfl, a0, h1⟩ := h1.out
 obtain ⟨v1, t1, rfl, a1, h1⟩ := h1.out
 obtain ⟨v2, t2, rfl, a2, h1⟩ := h1.out
 obtain ⟨v3, t3, rfl, a3, h1⟩ := h1.out
 obtain ⟨v4, t4, rfl, a4, h1⟩ := h1.out
 obtain rfl := h1.jc
 obtain rfl := a0.iF
 obtain rfl := a1.oq
 obtain rfl := a2.iF
 obtain rfl := a3.iF
 obtain ⟨A4, c4, rfl, g4, k4⟩ := aW.shape (f := aH.aG) a4
 exact ⟨A4, c4, rfl, a4, g4, k4⟩
theorem aH.mk_ {A : Option Addr} {n : Nat} (h : aW w lo hi 5 aH.aG (.slice A c.kids.length n) c.kids) : dZ w lo hi aH.aG (.agg (ay c.kind c.text c.number c.line A c.kids.length n)) c :=
 ⟨[_, _, _, _, _], rfl, by rw [aH.mX]; exact (.aN .mkInt (.aN .mkStr (.aN .mkInt (.aN .mkInt (.aN h .eO)))))⟩
theorem aH.at_ {A : Option Addr} {cap j : Nat} {l : List aH} (h : aW w lo hi 5 aH.aG (.slice A l.length cap) l) (hc : l[j]? = some c) :
 ∃ g off B d, A = some ⟨g, off, none⟩ ∧ lo ≤ g ∧ g < hi ∧ c ∈ l ∧ aW w lo hi 5 aH.aG (.slice B c.kids.length d) c.kids ∧ c.kids.length ≤ d ∧ d ≤ maxLen ∧ w.cell? (aj g (off + j * 5)) = some (.int i64 c.kind) ∧ w.cell? (aj g (off + j * 5 + 1)) = some (.string c.text) ∧ w.cell? (aj g (off + j * 5 + 2)) = some (.int i64 c.number) ∧ w.cell? (aj g (off + j * 5 + 3)) = some (.int i64 c.line) ∧ w.cell? (aj g (off + j * 5 + 4)) = some (.slice B c.kids.length d) := by
 obtain ⟨g, off, us, hA, h1, h2, h3, h4, h5⟩ := h.elem aH.eD hc
 obtain ⟨B, d, hx, l0, l1, l2⟩ := aH.form (w := w) (lo := lo) (hi := hi) (c := c) (x := .agg us.toArray) ⟨us, rfl, h4⟩
 injection hx with hx
 obtain rfl : us = [_, _, _, _, _] := congrArg Array.toList hx
 exact ⟨g, off, B, d, hA, h1, h2, mG hc, l0, l1, l2, h5 0 _ rfl, h5 1 _ rfl, h5 2 _ rfl, h5 3 _ rfl, h5 4 _ rfl⟩
end
end
end Go.Proofs.YthbcamfejgghhaaGreatDoor
