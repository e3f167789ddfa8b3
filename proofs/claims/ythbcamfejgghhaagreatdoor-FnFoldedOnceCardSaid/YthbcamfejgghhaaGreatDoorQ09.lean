/- Td of the reference and of the program return the same pair, by eB. Token: the plain words, and how a value reads as one. No program. A to -/
import Derived.Test.YthbcamfejgghhaaGreatDoorQ04
set_option maxRecDepth 100000
set_option maxHeartbeats 8000000
set_option linter.unusedVariables false
set_option linter.unusedSimpArgs false
namespace Go.Proofs.YthbcamfejgghhaaGreatDoor
open Go.IntKind (i64)
section
open Go.RowKit
def jE (s : ByteArray) : Nat → Nat → Nat
 | 0, i => i
 | f + 1, i => if i < s.size ∧ cZ s i = 32 then jE s f (i + 1) else i
def jB (s : ByteArray) (a : Nat) : Nat → Nat → Nat
 | 0, z => z
 | f + 1, z => if a < z ∧ cZ s (z - 1) = 32 then jB s a f (z - 1) else z
def iW (s : ByteArray) : Nat → Nat → Int → Option Int
 | 0, _, acc => some acc
 | f + 1, i, acc => if 48 ≤ cZ s i ∧ cZ s i ≤ 57 then iW s f (i + 1) (10 * acc + ((cZ s i : Int) - 48)) else none
def je (s : ByteArray) (z b : Nat) (minus : Bool) : Option Int :=
 if z < b + 1 ∨ b + 12 < z then none else (iW s (z - b) b 0).map fun n => if minus then -n else n
def eB (s : ByteArray) : Option Int :=
 let a := jE s s.size 0
 let z := jB s a s.size s.size
 if a < z ∧ cZ s a = 43 then je s z (a + 1) false
 else if a < z ∧ cZ s a = 45 then je s z (a + 1) true
 else je s z a false
def iZ (r : Option Int) : Value := .tuple #[.int i64 (r.getD 0), .bool r.isSome]
theorem oo {r : Option Int} (h : r = none) : Ending.returned (.tuple #[.int i64 0, .bool false]) = .returned (iZ r) := by rw [h]; rfl
theorem Fh {r : Option Int} {n m : Int} (h : r = some m) (e : n = m) : Ending.returned (.tuple #[.int i64 n, .bool true]) = .returned (iZ r) := by rw [h, e]; rfl
theorem Rb {s : ByteArray} {k : Nat} (h : jE s s.size 0 = jE s (s.size - k) k) (hk : k < s.size) (hb : cZ s k = 32) : jE s s.size 0 = jE s (s.size - (k + 1)) (k + 1) := by
 rw [h, show s.size - k = (s.size - (k + 1)) + 1 by omega, jE, if_pos ⟨hk, hb⟩]
theorem Ti {s : ByteArray} {k : Nat} (h : jE s s.size 0 = jE s (s.size - k) k) (hk : k < s.size) (hb : ¬ cZ s k = 32) : jE s s.size 0 = k := by
 rw [h, show s.size - k = (s.size - (k + 1)) + 1 by omega, jE, if_neg (fun h => hb h.2)]
theorem KJ {s : ByteArray} {k : Nat} (h : jE s s.size 0 = jE s (s.size - k) k) (hk : ¬ k < s.size) : jE s s.size 0 = k := by
 rw [h, show s.size - k = 0 by omega, jE]
theorem PO {s : ByteArray} {a k : Nat} (h : jB s a s.size s.size = jB s a k k) (hk : a < k) (hb : cZ s (k - 1) = 32) : jB s a s.size s.size = jB s a (k - 1) (k - 1) := by
 obtain ⟨j, rfl⟩ : ∃ j, k = j + 1 := ⟨k - 1, ah⟩
 rw [h, jB, if_pos ⟨hk, hb⟩]; rfl
theorem Cw {s : ByteArray} {a k : Nat} (h : jB s a s.size s.size = jB s a k k) (hb : ¬ (a < k ∧ cZ s (k - 1) = 32)) : jB s a s.size s.size = k := by
 rw [h]
 cases k with
 | zero => rfl
 | succ j => rw [jB, if_neg hb]
theorem Tq {s : ByteArray} {z b k : Nat} {acc : Int} (h : iW s (z - b) b 0 = iW s (z - k) k acc) (hk : k < z) (h1 : 48 ≤ cZ s k) (h2 : cZ s k ≤ 57) :
 iW s (z - b) b 0 = iW s (z - (k + 1)) (k + 1) (10 * acc + ((cZ s k : Int) - 48)) := by
 rw [h, show z - k = (z - (k + 1)) + 1 by omega, iW, if_pos ⟨h1, h2⟩]
theorem Rk {s : ByteArray} {z b k : Nat} {acc : Int} (h : iW s (z - b) b 0 = iW s (z - k) k acc) (hk : k < z) (h1 : ¬ (48 ≤ cZ s k ∧ cZ s k ≤ 57)) : iW s (z - b) b 0 = none := by
 rw [h, show z - k = (z - (k + 1)) + 1 by omega, iW, if_neg h1]
theorem Tt {s : ByteArray} {z b k : Nat} {acc : Int} (h : iW s (z - b) b 0 = iW s (z - k) k acc) (hk : ¬ k < z) : iW s (z - b) b 0 = some acc := by
 rw [h, show z - k = 0 by omega, iW]
theorem Q0 (m : Nat) (h : m ≤ 12) : (0 : Int) < 10 ^ m ∧ (10 : Int) ^ m ≤ 1000000000000 := by
 match m, h with
 | 0, _ => decide
 | 1, _ => decide
 | 2, _ => decide
 | 3, _ => decide
 | 4, _ => decide
 | 5, _ => decide
 | 6, _ => decide
 | 7, _ => decide
 | 8, _ => decide
 | 9, _ => decide
 | 10, _ => decide
 | 11, _ => decide
 | 12, _ => decide
theorem xw (m : Nat) : (10 : Int) ^ (m + 1) = 10 * 10 ^ m := by rw [Int.pow_succ, Int.mul_comm]
theorem Cq {s : ByteArray} {a z : Nat} (ha : jE s s.size 0 = a) (hz : jB s a s.size s.size = z) : eB s = if a < z ∧ cZ s a = 43 then je s z (a + 1) false
 else if a < z ∧ cZ s a = 45 then je s z (a + 1) true else je s z a false := by
 subst ha hz; rfl
theorem vS {s : ByteArray} {z b : Nat} {m : Bool} (h : z < b + 1 ∨ b + 12 < z) : je s z b m = none := by rw [je, if_pos h]
theorem Rl {s : ByteArray} {z b : Nat} {m : Bool} (h : iW s (z - b) b 0 = none) : je s z b m = none := by rw [je]; split <;> simp [h]
theorem PW {s : ByteArray} {z b : Nat} {m : Bool} {n : Int} (h0 : ¬ (z < b + 1 ∨ b + 12 < z)) (h : iW s (z - b) b 0 = some n) : je s z b m = some (if m then -n else n) := by rw [je, if_neg h0, h]; rfl
theorem PV (s : ByteArray) (k : Nat) : cZ s k ≤ 255 := by have := (s.data.toList.getD k 0).toNat_lt; unfold cZ; omega
theorem qp (s : ByteArray) (w : World) (hs : s.size ≤ 9223372036854775807) :
 Calls Tryz.prog 181 #[.string s] w fun e w' => e = .returned (iZ (eB s)) ∧ w = w' := by
 go_in
 go_upto_block 0 with fail
 go_cut [4] (fun v wx => ∃ a : Nat, a ≤ s.size ∧ v = .int i64 a ∧ Hid (jE s s.size 0 = a) ∧ wx = w)
 case first =>
  go_wp2_with fail
  go_loop [4] (fun i => ∃ k : Nat, k ≤ s.size ∧ i = .int i64 k ∧ Hid (jE s s.size 0 = jE s (s.size - k) k)) (fun i => s.size - (intOf i).toNat)
  case atStart => exact ⟨0, nZ _, rfl, rfl⟩
  obtain ⟨k, hk, rfl, hl⟩ := hrel
  by_cases hlt : k < s.size
  ·exact Oc
  have H := lH (KJ hl.out hlt)
  clear hl
  go_wp2_with fail
  go_meet
  exact ⟨k, hk, rfl, H.out, rfl⟩
 obtain ⟨a, ha, rfl, HA, rfl⟩ := hcut
 go_upto_block 2 with fail
 go_cut [5] (fun v wx => ∃ z : Nat, a ≤ z ∧ z ≤ s.size ∧ v = .int i64 z ∧ Hid (jB s a s.size s.size = z) ∧ wx = wc)
 case first =>
  go_wp2_with fail
  go_loop [5] (fun i => ∃ k : Nat, a ≤ k ∧ k ≤ s.size ∧ i = .int i64 k ∧ Hid (jB s a s.size s.size = jB s a k k)) (fun i => (intOf i).toNat)
  case atStart => exact ⟨s.size, ha, nR _, rfl, rfl⟩
  obtain ⟨k, hak, hk, rfl, hl⟩ := hrel
  by_cases hlt : a < k
  ·exact NY
  have H := lH (Cw hl.out ah)
  clear hl
  go_wp2_with fail
  go_meet
  exact ⟨k, hak, hk, rfl, H.out, rfl⟩
 obtain ⟨z, haz, hz, rfl, HZ, rfl⟩ := hcut
 have Y7 : s.size ≤ 9223372036854775807 := hs
 by_cases h1 : a < z
 ·exact QZ
 have HI := lH (show eB s = je s z a false from by rw [Cq HA.out HZ.out, if_neg (fun h => h1 h.1), if_neg (fun h => h1 h.1)])
 clear HA HZ
 go_wp2_with fail
 go_ret2
 exact ⟨oo (by rw [HI.out, vS (.inl ah)]), rfl⟩
theorem mH (s : ByteArray) (w : World) (hs : s.size ≤ 9223372036854775807) :
 Calls Tryz.prog 200 #[.string s] w fun e w' => e = .returned (iZ (eB s)) ∧ w = w' := by
 go_in
 go_upto_block 0 with fail
 go_cut [4] (fun v wx => ∃ a : Nat, a ≤ s.size ∧ v = .int i64 a ∧ Hid (jE s s.size 0 = a) ∧ wx = w)
 case first =>
  go_wp2_with fail
  go_loop [4] (fun i => ∃ k : Nat, k ≤ s.size ∧ i = .int i64 k ∧ Hid (jE s s.size 0 = jE s (s.size - k) k)) (fun i => s.size - (intOf i).toNat)
  case atStart => exact ⟨0, nZ _, rfl, rfl⟩
  obtain ⟨k, hk, rfl, hl⟩ := hrel
  by_cases hlt : k < s.size
  ·exact Oc
  have H := lH (KJ hl.out hlt)
  clear hl
  go_wp2_with fail
  go_meet
  exact ⟨k, hk, rfl, H.out, rfl⟩
 obtain ⟨a, ha, rfl, HA, rfl⟩ := hcut
 go_upto_block 2 with fail
 go_cut [5] (fun v wx => ∃ z : Nat, a ≤ z ∧ z ≤ s.size ∧ v = .int i64 z ∧ Hid (jB s a s.size s.size = z) ∧ wx = wc)
 case first =>
  go_wp2_with fail
  go_loop [5] (fun i => ∃ k : Nat, a ≤ k ∧ k ≤ s.size ∧ i = .int i64 k ∧ Hid (jB s a s.size s.size = jB s a k k)) (fun i => (intOf i).toNat)
  case atStart => exact ⟨s.size, ha, nR _, rfl, rfl⟩
  obtain ⟨k, hak, hk, rfl, hl⟩ := hrel
  by_cases hlt : a < k
  ·exact NY
  have H := lH (Cw hl.out ah)
  clear hl
  go_wp2_with fail
  go_meet
  exact ⟨k, hak, hk, rfl, H.out, rfl⟩
 obtain ⟨z, haz, hz, rfl, HZ, rfl⟩ := hcut
 have Y7 : s.size ≤ 9223372036854775807 := hs
 by_cases h1 : a < z
 ·exact QZ
 have HI := lH (show eB s = je s z a false from by rw [Cq HA.out HZ.out, if_neg (fun h => h1 h.1), if_neg (fun h => h1 h.1)])
 clear HA HZ
 go_wp2_with fail
 go_ret2
 exact ⟨oo (by rw [HI.out, vS (.inl ah)]), rfl⟩
end
section
open Go.RowKit
structure eX where
 kind : Int
 text : ByteArray
 line : Int
def eX.aG (c : eX) : List Dat := [.int i64 c.kind, .str c.text, .int i64 c.line]
theorem eX.eD (c : eX) : c.aG.length = 3 := rfl
def eX.bI (c : eX) : Nat := c.text.size
def eX.Fits (c : eX) : Prop := (c.text.size ≤ 9223372036854775807)
section
variable {w : World} {lo hi : Nat} {x : Value} {c : eX}
theorem eX.form (h : dZ w lo hi eX.aG x c) : x = .agg (aV c.kind c.text c.line) := by
 obtain ⟨cs, rfl, h1⟩ := h
 unfold eX.aG at h1
 obtain ⟨v0, t0, rfl, a0, h1⟩ := h1.out
 obtain ⟨v1, t1, rfl, a1, h1⟩ := h1.out
 obtain ⟨v2, t2, rfl, a2, h1⟩ := h1.out
 obtain rfl := h1.jc
 obtain rfl := a0.iF
 obtain rfl := a1.oq
 obtain rfl := a2.iF
 exact rfl
theorem eX.mk_  : dZ w lo hi eX.aG (.agg (aV c.kind c.text c.line)) c :=
 ⟨[_, _, _], rfl, .aN .mkInt (.aN .mkStr (.aN .mkInt .eO))⟩
theorem eX.at_ {A : Option Addr} {cap j : Nat} {l : List eX} (h : aW w lo hi 3 eX.aG (.slice A l.length cap) l) (hc : l[j]? = some c) :
 ∃ g off, A = some ⟨g, off, none⟩ ∧ lo ≤ g ∧ g < hi ∧ c ∈ l ∧ dZ w lo hi eX.aG (.agg (aV c.kind c.text c.line)) c ∧ w.cell? (aj g (off + j * 3)) = some (.int i64 c.kind) ∧ w.cell? (aj g (off + j * 3 + 1)) = some (.string c.text) ∧ w.cell? (aj g (off + j * 3 + 2)) = some (.int i64 c.line) := by
 obtain ⟨g, off, us, hA, h1, h2, h3, h4, h5⟩ := h.elem eX.eD hc
 obtain hx := eX.form (w := w) (lo := lo) (hi := hi) (c := c) (x := .agg us.toArray) ⟨us, rfl, h4⟩
 injection hx with hx
 obtain rfl : us = [_, _, _] := congrArg Array.toList hx
 exact ⟨g, off, hA, h1, h2, mG hc, eX.mk_, h5 0 _ rfl, h5 1 _ rfl, h5 2 _ rfl⟩
end
end
section
open Go Go.RowKit
theorem kI {P : Program} {w : World} {ops : Array Oper} {rest : List Oper} {o : Oper} {a : Act} {Q : Exit → Act → World → Prop} (p : Nat) (hp : p = w.heap.size) (hgd : o.guard = none) (s x : Operand) (t : TypeId)
 (ho : o.op = .call { callee := .builtin .append, args := #[s, x], argTypes := #[t, t] })
 (e : TypeId) (z : Value) (size bytes : Nat) (hinfo : (P.info? e).map (fun i => (i.zero, i.size, i.bytes)) = some (some z, size, bytes)) (ht : P.underlying t = some (.slice e)) (hzs : z.cells.size = size) (hsz : 0 < size) (hby : 0 < bytes)
 (base : Nat) (v : Value) (n : Nat) (xs : List Value) (hs : a.eval s = v) (hown : w.ownsRow base e size v n xs)
 (cs : Array Value) (c : Nat) (t' : TypeId) (hx : a.eval x = .slice (some (aj p 0)) 1 c) (hl : cs.size = size) (h1 : ∀ u ∈ cs.toList, u.oneCell' = true)
 (hroom : (n + 1) * bytes ≤ 140737488355328) (hbase : base ≤ w.heap.size)
 (h : ∀ v' w', w'.ownsRow base e size v' (n + 1) (xs ++ cs.toList) → w.grownBy w' v.ownBlock → (v'.ownBlock = v.ownBlock ∨ v'.ownBlock = some (w.heap.size + 1)) → wpList P ops Q rest (a.put o.dst v') w') : wpList P ops Q (o :: rest) a (w.alloc (.cells cs t')) := by
 subst hp
 exact dO hgd s x t ho e z size bytes hinfo ht hzs hsz hby base v n xs hs hown cs c t' hx hl h1 hroom hbase h
def eX.Ok (t : eX) : Prop := 1 ≤ t.line ∧ t.line ≤ 100000 ∧ t.text.size ≤ 100000
end
section
open Go.RowKit
theorem Qa (s : ByteArray) : ∀ f i acc n j, iW s f i acc = some n → 0 ≤ acc → acc < 10 ^ j → 0 ≤ n ∧ n < 10 ^ (j + f) := by
 intro f
 induction f with
 | zero => intro i acc n j h h0 h1; simp [iW] at h; subst h; exact ⟨h0, h1⟩
 | succ f ih =>
   intro i acc n j h h0 h1
   rw [iW] at h
   split at h
   ·have hp := xw j
    have := ih _ _ _ (j + 1) h ah (by rw [hp]; omega)
    rw [show j + (f + 1) = j + 1 + f by omega]; exact this
   cases h
theorem Dg {s : ByteArray} {z b : Nat} {m : Bool} {n : Int} (h : je s z b m = some n) : n.natAbs ≤ 999999999999 := by
 rw [je] at h
 split at h
 ·cases h
 rename_i hc
 cases hd : iW s (z - b) b 0 with
 | none => rw [hd] at h; cases h
 | some k =>
   rw [hd] at h
   have hb := Qa s _ _ _ _ 0 hd ah aA
   have hp := Q0 (0 + (z - b)) ah
   simp at h
   split at h <;> omega
theorem kY {s : ByteArray} {n : Int} (h : eB s = some n) : n.natAbs ≤ 999999999999 := by
 unfold eB at h
 dsimp only at h
 split at h
 ·exact Dg h
 split at h <;> exact Dg h
end
end Go.Proofs.YthbcamfejgghhaaGreatDoor
