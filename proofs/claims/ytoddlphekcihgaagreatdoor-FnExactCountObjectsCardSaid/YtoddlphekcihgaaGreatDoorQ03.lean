/- The Rq of codes, in plain words: shapes of the dZ, a list of work, one step, the whole run. No program. TQ: several texts in one. A struct at a pl -/
import Derived.Test.YtoddlphekcihgaaGreatDoorQ02
import Derived.Lib.Strings
import Derived.Lib.LastIndexByte
import Derived.Lib.Repeat
import Derived.Laws.BitsLemmas
set_option maxRecDepth 100000
set_option maxHeartbeats 8000000
set_option linter.unusedVariables false
set_option linter.unusedSimpArgs false
namespace Go.Proofs.YtoddlphekcihgaaGreatDoor
open Go.RowKit
def lg (op : Int) : Bool := decide (op = 13 ∨ op = 15 ∨ op = 17 ∨ op = 19 ∨ op = 27)
def Aw (s : ByteArray) : Nat := lV s 0
def IV (s : ByteArray) : Bool := decide (Aw s ≤ 90)
def KJ (s : ByteArray) : Nat := if Aw s ≤ 90 then Aw s - 65 else Aw s - 97
def Ow (s : ByteArray) : Bool := decide (0 < s.size) && (decide (65 ≤ Aw s ∧ Aw s ≤ 89) || decide (97 ≤ Aw s ∧ Aw s ≤ 121))
def xB (s t : ByteArray) : Bool := decide (t.size < s.size) && Lib.hasSuffix s.data.toList t.data.toList
def Di (s : ByteArray) (k : Nat) : ByteArray := s.extract 0 (s.size - k)
def Ur (b : Nat) : ByteArray := ⟨(Lib.repeatL [118] b).toArray⟩
def Ox (s : ByteArray) : Int := Lib.lastIndexByte (s.extract 1 s.size) 109
def after (x : eO) (s : ByteArray) : Option (ByteArray × ByteArray) :=
 if x.op = 5 then (if x.a < (KJ s : Int) then some (s ++ ⟨#[118]⟩, ⟨#[]⟩) else none)
 else if x.op ≤ 10 then some (s ++ ⟨#[118]⟩, ⟨#[]⟩)
 else if x.op ≤ 12 then (if xB s (Ur x.b.toNat) = true then some (Di s x.b.toNat ++ ⟨#[118]⟩, ⟨#[]⟩) else none)
 else if x.op = 13 then some (s ++ ⟨#[109]⟩, if x.a = -1 then ⟨#[]⟩ else s)
 else if x.op = 14 then (if Ox s < 0 then none else some (s.extract 0 (1 + (Ox s).toNat), ⟨#[]⟩))
 else if x.op = 15 then some (⟨#[]⟩, s)
 else if x.op = 16 then some (⟨#[]⟩, ⟨#[]⟩)
 else if x.op = 17 then some (s, s)
 else if x.op = 18 then some (s, ⟨#[]⟩)
 else if x.op = 19 then (if xB s ⟨#[109, 118]⟩ = true then some (Di s 2 ++ ⟨#[118]⟩, Di s 2) else none)
 else if x.op = 20 then (if xB s ⟨#[118]⟩ = true then some (Di s 1 ++ ⟨#[109]⟩, ⟨#[]⟩) else none)
 else if x.op = 21 then (if xB s ⟨#[109, 118]⟩ = true then some (Di s 2 ++ ⟨#[118]⟩, ⟨#[]⟩) else none)
 else if x.op = 22 then (if xB s ⟨#[118]⟩ = true then some (Di s 1 ++ ⟨#[115]⟩, ⟨#[]⟩) else none)
 else if x.op = 23 then (if xB s ⟨#[115, 118]⟩ = true then some (Di s 2 ++ ⟨#[118]⟩, ⟨#[]⟩) else none)
 else if x.op = 24 then (if IV s = true ∧ xB s ⟨#[118]⟩ = true then some (⟨#[]⟩, ⟨#[]⟩) else none)
 else if x.op = 25 then (if IV s = true then some (⟨#[]⟩, ⟨#[]⟩) else none)
 else if x.op = 26 then (if IV s = true ∧ xB s ⟨#[118]⟩ = true then some (Di s 1, ⟨#[]⟩) else none)
 else if x.op = 27 then some (s ++ ⟨#[118]⟩, ⟨#[UInt8.ofNat (97 + KJ s)]⟩)
 else if x.op = 28 then (if IV s = false ∧ xB s ⟨#[118]⟩ = true then some (⟨#[]⟩, ⟨#[]⟩) else none)
 else if x.op = 29 then (if xB s ⟨#[118]⟩ = true then some (s, ⟨#[]⟩) else none)
 else (if xB s ⟨#[118]⟩ = true then some (Di s 1, ⟨#[]⟩) else none)
structure St where
 sh : List ByteArray
 wk : List Nat
def St.at_ (st : St) (i : Nat) : ByteArray := st.sh.getD i ⟨#[]⟩
def reach (st : St) (p : Int) (s : ByteArray) : Option St :=
 if s.size = 0 then some st
 else if p < 0 ∨ (st.sh.length : Int) ≤ p then none
 else if (st.at_ p.toNat).size = 0 then some ⟨st.sh.set p.toNat s, st.wk ++ [p.toNat]⟩
 else if st.at_ p.toNat = s then some st else none
def Rs (c : List eO) (i : Nat) (x : eO) : Bool := lg x.op && decide (0 ≤ x.a ∧ x.a ≤ i) && !(match c[x.a.toNat]? with | some y => y.op == 18 | none => false)
def OQ (c : List eO) (st : St) (i : Nat) (x : eO) : Option St :=
 if Rs c i x = true then none else
 match after x (st.at_ i) with
 | none => none
 | some (nx, lb) => (reach st ((i : Int) + 1) nx).bind fun s1 => reach s1 x.a lb
def step (c : List eO) (st : St) (i : Nat) : Option St := match c[i]? with | none => none | some x => OQ c st i x
def empties (l : List ByteArray) : Nat := l.countP fun s => decide (s.size = 0)
def St.mu (st : St) : Nat := 2 * empties st.sh + st.wk.length
def Rt (c : List eO) : Nat → St → Option (List ByteArray)
 | 0, st => some st.sh
 | f + 1, st => match st.wk.getLast? with
   | none => some st.sh
   | some i => match step c ⟨st.sh, st.wk.dropLast⟩ i with
     | none => none
     | some s1 => Rt c f s1
def Us (c : List eO) (st : St) : Option (List ByteArray) := Rt c st.mu st
structure Inv (n : Nat) (st : St) : Prop where
 len : st.sh.length = n
 wk : ∀ i ∈ st.wk, i < n ∧ 0 < (st.at_ i).size
 good : ∀ s ∈ st.sh, 0 < s.size → Ow s = true ∧ s.size + empties st.sh ≤ n + 1
 room : st.wk.length + empties st.sh ≤ n
def Fit (n k : Nat) (s : ByteArray) : Prop := 0 < s.size → Ow s = true ∧ s.size + k ≤ n + 2
theorem Ru {st : St} {i : Nat} (h : i < st.sh.length) : st.sh[i]? = some (st.at_ i) := by
 unfold St.at_; rw [List.getD, gE h]; rfl
theorem Inv.pop {n : Nat} {sh : List ByteArray} {ws : List Nat} {i : Nat} (h : Inv n ⟨sh, ws ++ [i]⟩) : Inv n ⟨sh, ws⟩ ∧ i < n ∧ 0 < ((St.mk sh ws).at_ i).size := by
 have := h.wk i (by simp)
 exact ⟨⟨h.len, fun j hj => h.wk j (by simp [hj]), h.good, by have := h.room; simp at this ⊢; omega⟩, this.1, this.2⟩
def OT (r : jF) : ByteArray := ⟨#[UInt8.ofNat (65 + r.slots.toNat)]⟩
def IW : List jF → St → Option St
 | [], st => some st
 | r :: rs, st => (reach st r.entry (OT r)).bind (IW rs)
def st0 (n : Nat) : St := ⟨List.replicate n ⟨#[]⟩, []⟩
def verdict (c : dK) : Option (List ByteArray) := (IW c.au (st0 c.av.length)).bind (Us c.av)
section
section
theorem EJ (v : BitVec 64) : IntKind.i64.wrap (v.toNat : Int) = v.toInt := by
 rw [IntKind.wrap_i64, BitVec.toInt_eq_toNat_cond]
 have := v.isLt
 split <;> omega
theorem BN (u v : BitVec 64) : bits .or .i64 u.toInt v.toInt = (u ||| v).toInt := by
 rw [← EJ (u ||| v)]
 simp only [bits, IntKind.bits, BitVec.ofInt_toInt]
 rfl
theorem Gf (u v : BitVec 64) : bits .and .i64 u.toInt v.toInt = (u &&& v).toInt := by
 rw [← EJ (u &&& v)]
 simp only [bits, IntKind.bits, BitVec.ofInt_toInt]
 rfl
theorem BO (b : Nat) (h : b ≤ 63) : wrap64 (2 ^ b) = (BitVec.twoPow 64 b).toInt := by
 have h1 : (2 : Nat) ^ b < 2 ^ 64 := Nat.pow_lt_pow_right (by decide) (by omega)
 rw [← EJ, BitVec.toNat_twoPow, Nat.mod_eq_of_lt h1]
 rw [IntKind.wrap_i64, show (((2 ^ b : Nat)) : Int) = 2 ^ b by simp]
 simp only [wrap64]
structure ow where
 lo : BitVec 64
 hi : BitVec 64
def ow.val (c : ow) : Value := .agg #[.int .i64 c.lo.toInt, .int .i64 c.hi.toInt]
def ow.add (c : ow) (b : Nat) : ow := if b ≤ 63 then ⟨c.lo ||| BitVec.twoPow 64 b, c.hi⟩ else ⟨c.lo, c.hi ||| BitVec.twoPow 64 (b - 64)⟩
def ow.has (c : ow) (b : Nat) : Bool := if b ≤ 63 then c.lo.getLsbD b else c.hi.getLsbD (b - 64)
theorem ow.has_add (c : ow) (b j : Nat) (hb : b ≤ 127) (hj : j ≤ 127) : (c.add b).has j = (c.has j || decide (j = b)) := by
 unfold ow.add ow.has
 by_cases h1 : b ≤ 63 <;> by_cases h2 : j ≤ 63 <;> simp [h1, h2, BitVec.getLsbD_twoPow] <;> (try omega)
 all_goals (first | (congr 1; rw [Bool.eq_iff_iff]; simp; omega) | (intro h; omega))
theorem IX (u : BitVec 64) (b : Nat) (h : b ≤ 63) : (bits .and .i64 u.toInt (wrap64 (2 ^ b)) != 0) = u.getLsbD b := by
 rw [BO b h, Gf, BitVec.and_twoPow]
 cases hb : u.getLsbD b with
 | false => simp
 | true =>
   simp only [if_true]
   rw [bne_iff_ne]
   intro h0
   have : BitVec.twoPow 64 b = 0#64 := by apply BitVec.eq_of_toInt_eq; rw [h0]; rfl
   have h2 := congrArg BitVec.toNat this
   rw [BitVec.toNat_twoPow] at h2
   have h1 : (2 : Nat) ^ b < 2 ^ 64 := Nat.pow_lt_pow_right (by decide) (by omega)
   rw [Nat.mod_eq_of_lt h1] at h2
   have := Nat.two_pow_pos b
   simp at h2
theorem Ht (c : ow) (b : Nat) (w : World) (hb : b ≤ 127) :
 Calls Tryz.prog 148 #[c.val, .int .u8 b] w fun e w' => e = .returned (c.add b).val ∧ Below w.heap.size w w' := by
 by_cases h : b ≤ 63
 ·have HE : Hid (bits .or .i64 c.lo.toInt (wrap64 (2 ^ b)) = (c.lo ||| BitVec.twoPow 64 b).toInt) := lH (by rw [BO b h, BN])
  have HA : Hid ((c.add b).val = .agg #[.int .i64 (c.lo ||| BitVec.twoPow 64 b).toInt, .int .i64 c.hi.toInt]) := lH (by rw [ow.add, if_pos h]; rfl)
  unfold ow.val
  go_enter Tryz.func148, Tryz.ntmps148
  go_wp2_with fail
  refine bodyPost_ret (v := .agg #[.int .i64 (bits .or .i64 c.lo.toInt (wrap64 (2 ^ b))), .int .i64 c.hi.toInt]) ?_ rfl ⟨?_, (bA _ _).alloc (by simp) _⟩
  ·simp [results, Tryz.results148, go_sem]
  ·rw [HE.out]; exact congrArg _ HA.out.symm
 ·obtain ⟨d, rfl⟩ : ∃ d : Nat, b = d + 64 := ⟨b - 64, by omega⟩
  have HE : Hid (bits .or .i64 c.hi.toInt (wrap64 (2 ^ d)) = (c.hi ||| BitVec.twoPow 64 d).toInt) := lH (by rw [BO d (by omega), BN])
  have HA : Hid ((c.add (d + 64)).val = .agg #[.int .i64 c.lo.toInt, .int .i64 (c.hi ||| BitVec.twoPow 64 d).toInt]) := lH (by rw [ow.add, if_neg h, Nat.add_sub_cancel]; rfl)
  unfold ow.val
  go_enter Tryz.func148, Tryz.ntmps148
  go_wp2_with fail
  refine bodyPost_ret (v := .agg #[.int .i64 c.lo.toInt, .int .i64 (bits .or .i64 c.hi.toInt (wrap64 (2 ^ d)))]) ?_ rfl ⟨?_, (bA _ _).alloc (by simp) _⟩
  ·simp [results, Tryz.results148, go_sem]
  ·rw [HE.out]; exact congrArg _ HA.out.symm
theorem EK (c : ow) (b : Nat) (w : World) (hb : b ≤ 127) :
 Calls Tryz.prog 149 #[c.val, .int .u8 b] w fun e w' => e = .returned (.bool (c.has b)) ∧ Below w.heap.size w w' := by
 by_cases h : b ≤ 63
 have HE : Hid ((bits .and .i64 c.lo.toInt (wrap64 (2 ^ b)) != 0) = c.has b) := lH (by rw [IX _ b h, ow.has, if_pos h])
 unfold ow.val
 rotate_left
 obtain ⟨d, rfl⟩ : ∃ d : Nat, b = d + 64 := ⟨b - 64, by omega⟩
 have HE : Hid ((bits .and .i64 c.hi.toInt (wrap64 (2 ^ d)) != 0) = c.has (d + 64)) := lH (by rw [IX _ d (by omega), ow.has, if_neg h, Nat.add_sub_cancel])
 unfold ow.val
 iterate 2 focus
  go_enter Tryz.func149, Tryz.ntmps149
  go_wp2_with fail
  go_ret
  exact ⟨ah HE.out, bA _ _⟩
end
section
open Go.RowKit
def vD (s : ByteArray) (k : Nat) : ow := (List.range k).foldl (fun c j => c.add (lV s j)) ⟨0#64, 0#64⟩
theorem Ay (s : ByteArray) (k : Nat) : vD s (k + 1) = (vD s k).add (lV s k) := by simp [vD, List.range_succ]
theorem BP (s : ByteArray) (j : Nat) (hj : j ≤ 127) : ∀ k, (∀ i, i < k → lV s i ≤ 127) → ((vD s k).has j = true ↔ ∃ i, i < k ∧ lV s i = j) := by
 intro k
 induction k with
 | zero => intro _; simp [vD, ow.has]
 | succ k ih =>
   intro h
   rw [Ay, ow.has_add _ _ _ (h k (by omega)) hj, Bool.or_eq_true, ih (fun i hi => h i (by omega)), decide_eq_true_eq]
   constructor
   ·rintro (⟨i, hi, e⟩ | e)
    ·exact ⟨i, by omega, e⟩
    ·exact ⟨k, by omega, e.symm⟩
   ·rintro ⟨i, hi, e⟩
    by_cases hk : i = k
    ·subst hk; exact .inr e.symm
    ·exact .inl ⟨i, by omega, e⟩
def vE (s : ByteArray) : Bool := (List.range s.size).all fun j => decide (lV s j ≤ 127)
theorem KL {s : ByteArray} {k : Nat} (hk : k < s.size) (h : 127 < lV s k) : vE s = false := by
 unfold vE
 rw [List.all_eq_false]
 exact ⟨k, List.mem_range.2 hk, by simp; omega⟩
theorem Ju {s : ByteArray} (h : ∀ j, j < s.size → lV s j ≤ 127) : vE s = true := by
 unfold vE
 rw [List.all_eq_true]
 exact fun j hj => dT (h j (List.mem_range.1 hj))
def uJ (s : ByteArray) : ow := if vE s then vD s s.size else ⟨0#64, 0#64⟩
theorem Hu {s : ByteArray} (h : vE s = false) : uJ s = ⟨0#64, 0#64⟩ := by simp [uJ, h]
theorem Az {s : ByteArray} (h : vE s = true) : uJ s = vD s s.size := by simp [uJ, h]
def Gg (c : ow) (ok : Bool) (w : World) (e : Ending) (w' : World) : Prop := e = .returned (.tuple #[c.val, .bool ok]) ∧ Below w.heap.size w w'
theorem EL (s : ByteArray) (w : World) (hs : s.size ≤ 1048576) :
 Calls Tryz.prog 118 #[.string s] w (Gg (uJ s) (vE s) w) := by
 go_enter Tryz.func118, Tryz.ntmps118
 go_wp2_with fail
 go_loopw [5] (fun i wr => ∃ k : Nat, k ≤ s.size ∧ i = .int .i64 k ∧ Hid (∀ j, j < k → lV s j ≤ 127) ∧ Blk wr w.heap.size 54 #[.int .i64 0, .int .i64 0] ∧ Blk wr (w.heap.size + 1) 54 #[.int .i64 (vD s k).lo.toInt, .int .i64 (vD s k).hi.toInt] ∧ Below w.heap.size w wr) (fun i _ => s.size - (intOf i).toNat)
 case atStart => exact ⟨0, nZ _, rfl, (fun j hj => by omega), (Blk.new w _ _).alloc _, Blk.newAt _ _ _ _ (by simp), (bA _ _).alloc (by simp) _⟩
 case round =>
  obtain ⟨k, hk, rfl, hgo, hr, hc, hb⟩ := hrel
  obtain ⟨wo, rfl⟩ := nW wr
  have hz := hb.size
  by_cases hlt : k < s.size
  ·have HK := lH (tY s k hlt)
   by_cases h7 : 127 < s[k].toNat
   ·have HN := lH (KL hlt (by rw [HK.out]; exact h7))
    have cr := hr.cell
    have fr := hr.frozen
    go_wp2_with fail
    refine bodyPost_ret (v := .tuple #[.agg #[.int .i64 0, .int .i64 0], .bool false]) ?_ rfl ⟨?_, ?_⟩
    ·simp [results, Tryz.results118, go_sem, cr]
    ·rw [Hu HN.out, HN.out]; rfl
    ·exact (hb.setCell (p := ⟨w.heap.size, 0, none⟩) (nR _) _).setCell (p := ⟨w.heap.size, 1, none⟩) (nR _) _
   ·have hb7 : s[k].toNat ≤ 127 := by omega
    have HG : Hid (∀ j, j < k + 1 → lV s j ≤ 127) := by
     intro j hj
     by_cases e : j = k
     ·rw [e, HK.out]; exact hb7
     ·exact hgo.out j (by omega)
    have HS := lH (Ay s k)
    have cc := hc.cell
    have e0 : (0 : Int) ≤ (k : Int) := by omega
    have e8 : (k : Int) < (s.size : Int) := by omega
    clear hgo
    go_wp2_with fail
    go_region_with (first
     | (go_at_call 148; refine (Ht (vD s k) s[k].toNat _ hb7).mono ?_; rintro e w1 ⟨rfl, hb1⟩; unfold ow.val; have cc1 := (hc.drew.later hb1).cell; have fc1 := (hc.drew.later hb1).frozen))
    all_goals
     have hr1 := hr.drew.later hb1
     have hc1 := hc.drew.later hb1
     have hb2 : Below w.heap.size w w1 := hb.drew.trans (hb1.mono hz)
     clear cc cc1 fc1
     go_wp2_with fail
     go_roundw
     case rel =>
      refine ⟨k + 1, by omega, by go_num, HG, (hr1.far (p := ⟨w.heap.size + 1, 0, none⟩) (by simp) _).far (p := ⟨w.heap.size + 1, 1, none⟩) (by simp) _, ?_, (hb2.setCell (p := ⟨w.heap.size + 1, 0, none⟩) (by simp) _).setCell (p := ⟨w.heap.size + 1, 1, none⟩) (by simp) _⟩
      rw [HS.out, HK.out]
      exact (hc1.M6 0 _).M6 1 _
     case measure => simp [intOf]; omega
  ·obtain rfl : k = s.size := by omega
   have HY := lH (Ju hgo.out)
   have cc := hc.cell
   have cr := hr.cell
   have fr := hr.frozen
   clear hgo
   go_wp2_with fail
   refine bodyPost_ret (v := .tuple #[(vD s s.size).val, .bool true]) ?_ rfl ⟨?_, ?_⟩
   ·simp [results, Tryz.results118, go_sem, cr, ow.val]
   ·rw [Az HY.out, HY.out]
   ·exact (hb.setCell (p := ⟨w.heap.size, 0, none⟩) (nR _) _).setCell (p := ⟨w.heap.size, 1, none⟩) (nR _) _
end
section
open Go.RowKit
def mW (c : ow) (k : Nat) : List Nat := (List.range k).filter c.has
def xG (c : ow) : ByteArray := strOfNums ((mW c 128).map fun (j : Nat) => (j : Int))
theorem EM {c : ow} {k : Nat} (h : c.has k = true) : mW c (k + 1) = mW c k ++ [k] := by simp [mW, List.range_succ, List.filter_append, h]
theorem Gh {c : ow} {k : Nat} (h : c.has k = false) : mW c (k + 1) = mW c k := by simp [mW, List.range_succ, List.filter_append, h]
theorem EN (c : ow) (k : Nat) : (mW c k).length ≤ k := by
 have := List.length_filter_le c.has (List.range k)
 simpa [mW] using this
theorem Jv {w : World} {base base' : Nat} {e : TypeId} {size n : Nat} {v : Value} {xs : List Value} (h : w.ownsRow base e size v n xs) (hb : base' ≤ base) : w.ownsRow base' e size v n xs := by
 refine ⟨h.1, ?_⟩
 rcases h.2 with h0 | ⟨g, cap, cur, h1, h2, h3⟩
 ·exact .inl h0
 ·exact .inr ⟨g, cap, cur, h1, nT hb h2, h3⟩
def Rv (v : Value) (n : Nat) : Prop := ∃ g cap, v = .slice (some ⟨g, 0, none⟩) n cap
theorem M9 : (Tryz.prog.info? 5).map (fun i => (i.zero, i.size, i.bytes)) = some (some (.int .u8 0), 1, 1) := by kernel_rfl
theorem yu (c : ow) (w : World) :
 Calls Tryz.prog 119 #[c.val] w fun e w' => e = .returned (.string (xG c)) ∧ Below w.heap.size w w' := by
 have hcv := fun (W : World) (g cap n : Nat) (xs : List Int) (hl : xs.length = n) (hc : ∀ i, i < n → W.cell? ⟨g, 0 + i, none⟩ = some (.int .u8 (xs.getD i 0))) => run_convert_bytes_arg (P := Tryz.prog) W 225 5 Tryz.underlying225 Tryz.underlying5 g 0 n cap xs hl hc 9 Tryz.underlying9
 have HCV := lH hcv
 clear hcv
 unfold ow.val
 go_enter Tryz.func119, Tryz.ntmps119
 go_wp2_with fail
 go_loopw [3, 4] (fun v i wr => ∃ k : Nat, k ≤ 128 ∧ i = .int .i64 k ∧ wr.ownsRow w.heap.size 5 1 v (mW c k).length ((mW c k).map fun (j : Nat) => Value.int .u8 (j : Int)) ∧ Rv v (mW c k).length ∧ Blk wr w.heap.size 54 #[.int .i64 c.lo.toInt, .int .i64 c.hi.toInt] ∧ v.ownBlock ≠ some w.heap.size ∧ Below w.heap.size w wr) (fun _ i _ => 128 - (intOf i).toNat)
 case atStart =>
  have h0 := World.ownsRow_lit (w.alloc (.cells #[.int .i64 c.lo.toInt, .int .i64 c.hi.toInt] 54)) #[] 0 (e := 5) (size := 1) (nR _) (by decide) rfl
  have h1 := Jv h0 (base' := w.heap.size) (by simp)
  refine ⟨0, nZ _, rfl, ?_, ⟨w.heap.size + 1, 0, rfl⟩, (Blk.new w _ _).alloc _, (by simp [Value.ownBlock]), (bA _ _).alloc (by simp) _⟩
  simpa [mW] using h1
 case round =>
  obtain ⟨k, hk, rfl, hown, hsl, ha, hne, hb⟩ := hrel
  obtain ⟨wo, rfl⟩ := nW wr
  obtain ⟨v, hv⟩ : ∃ v, v = u3 := ⟨_, rfl⟩
  subst hv
  have hz := hb.size
  have hln := EN c k
  by_cases hlt : k < 128
  ·have ca := ha.cell
   have HC := lH (fun w => EK c k w (by omega))
   cases hh : c.has k with
   | true =>
     rw [hh] at HC
     have HS := lH (EM hh)
     clear hh
     go_wp2_with fail
     refine (HC.out _).mono ?_; rintro e w1 ⟨rfl, hb1⟩
     have hown1 := pG hown hb1
     have ha1 := ha.later hb1
     have hb2 := hb.trans (hb1.mono hz)
     clear hown ca ha hb1 hsl
     go_wp2_with (first | (at_builtin; refine F6 rfl (.tmp 14) (.tmp 17) 225 rfl 5 _ 1 1 M9 Tryz.underlying225 rfl (by decide) (by decide) w.heap.size v _ _ rfl hown1 #[.int .u8 k] 1 _ rfl rfl (by simp [Value.oneCell']) (by omega) hb2.size ?_))
     rintro v' w2 hown2 hgrow hat
     have hb3 := BK hb2 hb2.size hown1 hgrow
     have ha3 := ha1.grown hgrow (fun e => hne e.symm)
     have Ut : v'.ownBlock ≠ some w.heap.size := by
      rcases hat with e | e
      ·rw [e]; exact hne
      ·rw [e]; intro h; injection h with h; have := hb2.size; omega
     obtain ⟨g, cap, hv', -⟩ := hown2.form (by omega)
     have ho3 : w2.ownsRow w.heap.size 5 1 v' (mW c (k + 1)).length ((mW c (k + 1)).map fun (j : Nat) => Value.int .u8 (j : Int)) := by rw [HS.out]; simpa using hown2
     have hs3 : Rv v' (mW c (k + 1)).length := ⟨g, cap, by rw [HS.out, hv']; simp⟩
     clear hown2 hgrow hat hown1 hv' ha1 hne
     go_wp2_with fail
     go_roundw
     case rel => exact ⟨k + 1, by omega, by go_num, ho3, hs3, ha3, Ut, hb3⟩
     case measure => simp [intOf]; omega
   | false =>
     rw [hh] at HC
     have HS := lH (Gh hh)
     clear hh
     go_wp2_with fail
     refine (HC.out _).mono ?_; rintro e w1 ⟨rfl, hb1⟩
     have hown1 := pG hown hb1
     have ha1 := ha.later hb1
     have hb2 := hb.trans (hb1.mono hz)
     clear hown ca ha hb1
     go_wp2_with fail
     go_roundw
     case rel => exact ⟨k + 1, by omega, by go_num, by rw [HS.out]; exact hown1, by rw [HS.out]; exact hsl, ha1, hne, hb2⟩
     case measure => simp [intOf]; omega
  ·obtain rfl : k = 128 := by omega
   obtain ⟨g, cap, rfl⟩ := hsl
   have hcv := HCV.out wo g cap (mW c 128).length ((mW c 128).map fun (j : Nat) => (j : Int)) (by simp) (fun i hi => by
    have := hown.cellAt i (by omega)
    rw [Nat.zero_add, this, List.getElem?_map, gE hi, List.getD, List.getElem?_map, gE hi]
    rfl)
   clear hown HCV
   go_wp2_with fail
   go_ret
   exact ⟨rfl, hb⟩
def sP (s : ByteArray) (j : Nat) : Bool := decide (lV s j ≤ 127) && (decide (j = 0) || decide (lV s (j - 1) < lV s j))
def uV (s : ByteArray) : Bool := (List.range s.size).all (sP s)
theorem zM {s : ByteArray} {k : Nat} (hk : k < s.size) (h : sP s k = false) : uV s = false := by
 unfold uV
 rw [List.all_eq_false]
 exact ⟨k, List.mem_range.2 hk, by rw [h]; simp⟩
theorem BQ {s : ByteArray} (h : ∀ j, j < s.size → sP s j = true) : uV s = true := by
 unfold uV
 rw [List.all_eq_true]
 exact fun j hj => h j (List.mem_range.1 hj)
theorem Bf (s : ByteArray) (w : World) (hs : s.size ≤ 1048576) :
 Calls Tryz.prog 135 #[.string s] w fun e w' => e = .returned (.bool (uV s)) ∧ Same w w' := by
 go_enter Tryz.func135, Tryz.ntmps135
 go_wp2_with fail
 go_loopw [3] (fun i wr => ∃ k : Nat, k ≤ s.size ∧ i = .int .i64 k ∧ Hid (∀ j, j < k → sP s j = true) ∧ Same w wr) (fun i _ => s.size - (intOf i).toNat)
 case atStart => exact ⟨0, nZ _, rfl, (fun j hj => by omega), Same.refl _⟩
 case round =>
  obtain ⟨k, hk, rfl, hgo, hsm⟩ := hrel
  obtain ⟨wo, rfl⟩ := nW wr
  by_cases hlt : k < s.size
  ·have e0 : (0 : Int) ≤ (k : Int) := by omega
   have e8 : (k : Int) < (s.size : Int) := by omega
   have HK := tY s k hlt
   by_cases h7 : 127 < s[k].toNat
   ·have HN := lH (zM hlt (by unfold sP; rw [HK, dF (by omega)]; rfl))
    have d7 : decide ((127 : Int) < (s[k].toNat : Int)) = true := by simp; omega
    have n7 := dT h7
    clear HK hgo
    go_wp2_with fail
    go_quiet (fail)
    go_wp2_with fail
    go_ret
    exact ⟨ah HN.out.symm, hsm.drewN _⟩
   have d7 : decide ((127 : Int) < (s[k].toNat : Int)) = false := by simp; omega
   have n7 := dF h7
   by_cases hk0 : k = 0
   ·have HN : Hid (∀ j, j < k + 1 → sP s j = true) := by
     intro j hj
     obtain rfl : j = k := by omega
     unfold sP; rw [HK, dT (by omega : s[j].toNat ≤ 127), dT hk0]; rfl
    have d0 : decide ((0 : Int) < (k : Int)) = false := by simp; omega
    have n0 : decide (0 < k) = false := dF (by omega)
    clear HK hgo hk0
    go_wp2_with fail
    go_quiet (fail)
    go_wp2_with fail
    go_roundw
    case rel => exact ⟨k + 1, by omega, by go_num, HN, hsm.drewN _⟩
    case measure => simp [intOf]; omega
   obtain ⟨m, hmk⟩ : ∃ m : Nat, k = m + 1 := ⟨k - 1, by omega⟩
   have hm : m < s.size := by omega
   have HM := tY s m hm
   have d0 : decide ((0 : Int) < (k : Int)) = true := dT (by omega)
   have n0 : decide (0 < k) = true := dT (by omega)
   have g1 : IntKind.i64.wrap ((k : Int) - 1) = (m : Int) := (IntWalk.i64_in _ (by omega)).trans (by omega)
   have f0 : (0 : Int) ≤ (m : Int) := by omega
   have f8 : (m : Int) < (s.size : Int) := by omega
   have hkm : k - 1 = m := by omega
   by_cases hle : s[k].toNat ≤ s[m].toNat
   ·have HN := lH (zM hlt (by unfold sP; rw [hkm, HK, HM, dF hk0, dF (by omega : ¬ s[m].toNat < s[k].toNat)]; simp))
    have l7 := dT hle
    clear HK HM hgo hk0 hmk hkm
    go_wp2_with fail
    go_quiet (fail)
    go_wp2_with fail
    go_ret
    exact ⟨ah HN.out.symm, hsm.drewN _⟩
   ·have HN : Hid (∀ j, j < k + 1 → sP s j = true) := by
     intro j hj
     by_cases e : j = k
     ·unfold sP; rw [e, hkm, HK, HM, dT (by omega : s[k].toNat ≤ 127), dT (by omega : s[m].toNat < s[k].toNat)]; simp
     ·exact hgo.out j (by omega)
    have l7 := dF hle
    clear HK HM hgo hk0 hmk hkm
    go_wp2_with fail
    go_quiet (fail)
    go_wp2_with fail
    go_roundw
    case rel => exact ⟨k + 1, by omega, by go_num, HN, hsm.drewN _⟩
    case measure => simp [intOf]; omega
  ·obtain rfl : k = s.size := by omega
   have HY := lH (BQ hgo.out)
   clear hgo
   go_wp2_with fail
   go_ret
   exact ⟨ah HY.out.symm, hsm⟩
theorem Eh : ∀ {a b : List Nat}, a.Pairwise (· < ·) → b.Pairwise (· < ·) → (∀ x, x ∈ a ↔ x ∈ b) → a = b
 | [], [], _, _, _ => rfl
 | [], y :: _, _, _, h => by have := (h y).2 List.mem_cons_self; cases this
 | x :: _, [], _, _, h => by have := (h x).1 List.mem_cons_self; cases this
 | x :: a, y :: b, ha, hb, h => by
   rw [List.pairwise_cons] at ha hb
   have hxy : x = y := by
    rcases List.mem_cons.1 ((h x).1 List.mem_cons_self) with e | h1
    ·exact e
    ·rcases List.mem_cons.1 ((h y).2 List.mem_cons_self) with e | h2
     ·exact e.symm
     ·have := hb.1 x h1; have := ha.1 y h2; omega
   subst hxy
   rw [Eh ha.2 hb.2 fun z => ?_]
   constructor
   ·intro hz
    rcases List.mem_cons.1 ((h z).1 (List.mem_cons_of_mem _ hz)) with e | h1
    ·have := ha.1 z hz; omega
    ·exact h1
   ·intro hz
    rcases List.mem_cons.1 ((h z).2 (List.mem_cons_of_mem _ hz)) with e | h1
    ·have := hb.1 z hz; omega
    ·exact h1
def numsOf (s : ByteArray) : List Nat := s.data.toList.map UInt8.toNat
theorem uf (s : ByteArray) (j : Nat) : (numsOf s)[j]? = if j < s.size then some (lV s j) else none := by
 unfold numsOf lV
 rw [List.getElem?_map]
 split
 ·rename_i h
  rw [List.getD, gE (by simpa using h)]; rfl
 ·rename_i h
  rw [List.getElem?_eq_none (by simpa using h)]; rfl
theorem Gi (s : ByteArray) : strOfNums ((numsOf s).map fun (j : Nat) => (j : Int)) = s := by
 apply ByteArray.ext
 apply Array.toList_inj.1
 show List.map _ _ = _
 rw [numsOf, List.map_map, List.map_map]
 conv => rhs; rw [← List.map_id s.data.toList]
 apply List.map_congr_left
 intro x _
 simp
theorem KM {a b : List Nat} (ha : ∀ x ∈ a, x < 256) (hb : ∀ x ∈ b, x < 256) (h : strOfNums (a.map fun (j : Nat) => (j : Int)) = strOfNums (b.map fun (j : Nat) => (j : Int))) : a = b := by
 have h1 := congrArg (fun s => s.data.toList.map UInt8.toNat) h
 simp only [strOfNums_data, List.map_map] at h1
 have e : ∀ l : List Nat, (∀ x ∈ l, x < 256) → l.map (UInt8.toNat ∘ (fun n : Int => UInt8.ofNat n.toNat) ∘ fun (j : Nat) => (j : Int)) = l := by
  intro l hl
  conv => rhs; rw [← List.map_id l]
  apply List.map_congr_left
  intro x hx
  have := hl x hx
  simp; omega
 rw [e a ha, e b hb] at h1
 exact h1
theorem BR (s : ByteArray) (x : Nat) : x ∈ numsOf s ↔ ∃ i, i < s.size ∧ lV s i = x := by
 rw [List.mem_iff_getElem?]
 constructor
 ·rintro ⟨i, hi⟩
  rw [uf] at hi
  split at hi
  ·rename_i h; exact ⟨i, h, Option.some.inj hi⟩
  ·cases hi
 ·rintro ⟨i, h, e⟩
  exact ⟨i, by rw [uf, if_pos h, e]⟩
theorem yw (c : ow) (k : Nat) : (mW c k).Pairwise (· < ·) := (List.pairwise_lt_range (n := k)).filter _
theorem sQ (s : ByteArray) : (numsOf s).length = s.size := by rw [numsOf, List.length_map]; rfl
theorem Jw (s : ByteArray) (h : vE s = true) : (xG (uJ s) = s) ↔ uV s = true := by
 have ha : ∀ j, j < s.size → lV s j ≤ 127 := fun j hj => of_decide_eq_true (List.all_eq_true.1 h j (List.mem_range.2 hj))
 have hm : ∀ x, x ∈ mW (uJ s) 128 ↔ x ∈ numsOf s := by
  intro x
  rw [Az h, BR, mW, List.mem_filter, List.mem_range]
  constructor
  ·rintro ⟨h1, h2⟩; exact (BP s x (by omega) s.size ha).1 h2
  ·rintro ⟨i, hi, e⟩
   have := ha i hi
   exact ⟨by omega, (BP s x (by omega) s.size ha).2 ⟨i, hi, e⟩⟩
 have hlt : ∀ x ∈ numsOf s, x < 256 := fun x hx => by obtain ⟨i, hi, e⟩ := (BR s x).1 hx; have := ha i hi; omega
 constructor
 ·intro he
  have h1 : mW (uJ s) 128 = numsOf s := KM (fun x hx => hlt x ((hm x).1 hx)) hlt (by rw [Gi]; exact he)
  have hr := yw (uJ s) 128
  rw [h1] at hr
  refine BQ fun j hj => ?_
  unfold sP
  rw [dT (ha j hj)]
  by_cases h0 : j = 0
  ·simp [h0]
  ·have := List.pairwise_iff_getElem.1 hr (j - 1) j (by rw [sQ]; omega) (by rw [sQ]; exact hj) (by omega)
   have g1 := uf s (j - 1)
   have g2 := uf s j
   rw [if_pos (by omega), gE (by rw [sQ]; omega)] at g1
   rw [if_pos hj, gE (by rw [sQ]; exact hj)] at g2
   rw [Option.some.inj g1, Option.some.inj g2] at this
   simp [this]
 ·intro he
  have hr : ∀ j, j < s.size → sP s j = true := fun j hj => List.all_eq_true.1 he j (List.mem_range.2 hj)
  have hstep : ∀ i d, i + d + 1 < s.size → lV s i < lV s (i + d + 1) := by
   intro i d
   induction d with
   | zero =>
     intro hi
     have := hr (i + 0 + 1) hi
     simp [sP] at this
     exact this.2
   | succ d ih =>
     intro hi
     have h1 := ih (by omega)
     have := hr (i + (d + 1) + 1) hi
     simp [sP] at this
     have h2 := this.2
     have e : i + (d + 1) = i + d + 1 := by omega
     rw [e] at h2 ⊢
     omega
  have hp : (numsOf s).Pairwise (· < ·) := by
   rw [List.pairwise_iff_getElem]
   intro i j hi hj hij
   rw [sQ] at hi hj
   have g1 := uf s i
   have g2 := uf s j
   rw [if_pos hi, gE (by rw [sQ]; exact hi)] at g1
   rw [if_pos hj, gE (by rw [sQ]; exact hj)] at g2
   rw [Option.some.inj g1, Option.some.inj g2]
   obtain ⟨d, rfl⟩ : ∃ d, j = i + d + 1 := ⟨j - i - 1, by omega⟩
   exact hstep i d hj
  rw [xG, Eh (yw _ _) hp hm, Gi]
theorem Hw {s : ByteArray} (h : vE s = false) : uV s = false := by
 obtain ⟨j, hj, hd⟩ := List.all_eq_false.1 h
 exact zM (List.mem_range.1 hj) (by unfold sP; rw [Bool.eq_false_iff.2 hd]; rfl)
end
end
section
def At {α : Type} (w : World) (g off lo hi : Nat) (f : α → List Dat) (c : α) : Prop :=
 ∃ cs : List Value, fA w lo hi f (.agg cs.toArray) c ∧ (∀ i u, cs[i]? = some u → w.cell? ⟨g, off + i, none⟩ = some u) ∧ g < w.heap.size ∧ hi ≤ w.heap.size
section
variable {α : Type} {w w' : World} {g off lo hi : Nat} {f : α → List Dat} {c : α}
theorem At.below (h : At w g off lo hi f c) (hb : Below w.heap.size w w') : At w' g off lo hi f c := by
 obtain ⟨cs, h1, h2, h3, h4⟩ := h
 exact ⟨cs, h1.below hb h4, fun i u hu => (hb.cell (p := ⟨g, off + i, none⟩) h3).trans (h2 i u hu), nL h3 hb.size, nT h4 hb.size⟩
theorem At.same (h : At w g off lo hi f c) (hs : Same w w') : At w' g off lo hi f c := h.below (hs.below _)
theorem At.box {t : TypeId} {cs : List Value} (hb : Blk w g t cs.toArray) (hr : fA w lo hi f (.agg cs.toArray) c) (hhi : hi ≤ w.heap.size) : At w g 0 lo hi f c :=
 ⟨cs, hr, fun i u hu => by rw [Nat.zero_add, hb.cell]; simpa using hu, hb.lt, hhi⟩
theorem At.lt (h : At w g off lo hi f c) : g < w.heap.size := by obtain ⟨_, _, _, h3, _⟩ := h; exact h3
theorem At.le (h : At w g off lo hi f c) : hi ≤ w.heap.size := by obtain ⟨_, _, _, _, h4⟩ := h; exact h4
end
end
theorem yG (l : List Int) (v : Value) (left : Int) (w : World) (lo hi : Nat) (h : dz w lo hi 1 gW v l) (hhi : hi ≤ w.heap.size) (hl0 : 0 ≤ left) (hl1 : left ≤ 1048576) :
 Calls Tryz.prog 12 #[v, .int .i64 left] w fun e w' => e = .returned (.int .i64 (leftOf left (l.length + sumOf oL l))) ∧ Below w.heap.size w w' := by
 obtain ⟨A, cap, rfl, hc1, hc2⟩ := h.shape
 unfold maxLen at hc2
 rw [wN (b := oL) (fun _ => rfl) l, Nat.add_zero]
 by_cases hn : left < l.length
 ·go_enter Tryz.func12, Tryz.ntmps12
  go_wp2_with fail
  go_ret
  exact ⟨eX (dM (by omega)).symm, bR _ _⟩
 go_enter Tryz.func12, Tryz.ntmps12
 go_wp2_with fail
 go_ret
 exact ⟨eX (by rw [ep (by omega)]), bR _ _⟩
theorem vF (l : List ByteArray) (v : Value) (left : Int) (w : World) (lo hi : Nat) (h : dz w lo hi 1 eF v l) (hhi : hi ≤ w.heap.size) (hl0 : 0 ≤ left) (hl1 : left ≤ 1048576) (hf : ∀ s ∈ l, s.size ≤ 9223372036854775807) :
 Calls Tryz.prog 28 #[v, .int .i64 left] w fun e w' => e = .returned (.int .i64 (leftOf left (l.length + sumOf ByteArray.size l))) ∧ Below w.heap.size w w' := by
 obtain ⟨A, cap, rfl, hc1, hc2⟩ := h.shape
 unfold maxLen at hc2
 have HF := lH hf
 clear hf
 by_cases hn : left < l.length
 ·go_enter Tryz.func28, Tryz.ntmps28
  go_wp2_with fail
  go_ret
  exact ⟨eX (dM (by omega)).symm, bR _ _⟩
 go_enter Tryz.func28, Tryz.ntmps28
 go_wp2_with fail
 go_loopw [1, 5] (fun t i wr => ∃ k : Nat, k ≤ l.length ∧ i = .int .i64 k ∧ t = .int .i64 (left - l.length - sumOf ByteArray.size (l.take k)) ∧ sumOf ByteArray.size (l.take k) ≤ left - l.length ∧ Same w wr) (fun _ i _ => l.length - (intOf i).toNat)
 case atStart => exact ⟨0, nZ _, rfl, by simp [sumOf], by simp [sumOf]; omega, Same.refl _⟩
 case round =>
  obtain ⟨k, hk, rfl, rfl, hle, hb⟩ := hrel
  obtain ⟨wo, rfl⟩ := nW wr
  by_cases hlt : k < l.length
  ·obtain ⟨s, hc⟩ : ∃ s, l[k]? = some s := ⟨_, gE hlt⟩
   obtain ⟨g, off, rfl, hg1, hg2, q0⟩ := (h.same hb).text hc
   have HB := lH (rM (b := ByteArray.size) hc)
   have hft := HF.out s (mG hc)
   clear hc
   by_cases hk1 : left - l.length - sumOf ByteArray.size (l.take k) < s.size
   ·go_wp2_with fail
    go_ret
    exact ⟨eX (dM (by have := HB.out; have := pX ByteArray.size l (k + 1); omega)).symm, hb.below _⟩
   ·go_wp2_with fail
    go_roundw
    case rel => exact ⟨k + 1, by omega, by go_num, by rw [HB.out]; go_num, by rw [HB.out]; omega, hb⟩
    case measure => simp [intOf]; omega
  ·obtain rfl : k = l.length := by omega
   rw [List.take_length] at hle ⊢
   go_wp2_with fail
   go_ret
   exact ⟨eX (by rw [ep (by omega)]; omega), hb.below _⟩
theorem AA (l : List kG) (v : Value) (left : Int) (w : World) (lo hi : Nat) (h : dz w lo hi 8 kG.ay v l) (hhi : hi ≤ w.heap.size) (hl0 : 0 ≤ left) (hl1 : left ≤ 1048576) (hf : ∀ y ∈ l, y.Fits) :
 Calls Tryz.prog 68 #[v, .int .i64 left] w fun e w' => e = .returned (.int .i64 (leftOf left (l.length + sumOf kG.dX l))) ∧ Below w.heap.size w w' := by
 obtain ⟨A, cap, rfl, hc1, hc2⟩ := h.shape
 unfold maxLen at hc2
 rw [wN (b := kG.dX) (fun _ => rfl) l, Nat.add_zero]
 by_cases hn : left < l.length
 ·go_enter Tryz.func68, Tryz.ntmps68
  go_wp2_with fail
  go_ret
  exact ⟨eX (dM (by omega)).symm, bR _ _⟩
 go_enter Tryz.func68, Tryz.ntmps68
 go_wp2_with fail
 go_ret
 exact ⟨eX (by rw [ep (by omega)]), bR _ _⟩
theorem za (c : aQ) (x : Value) (w : World) (lo hi : Nat) (h : fA w lo hi aQ.ay x c) (hhi : hi ≤ w.heap.size) (hbk : c.dX ≤ 1048576) :
 Calls Tryz.prog 19 #[x] w (uN aQ.ay c w) := by
 obtain rfl := aQ.form h
 go_enter Tryz.func19, Tryz.ntmps19
 go_wp2_with fail
 have fr0 := rZ.new w 38 56 #[Value.int .i64 c.kind, .int .i64 c.number, .int .i64 c.index, .string c.text, .int .i64 c.eB, .int .i64 c.dW] #[Value.int .i64 0, .int .i64 0, .int .i64 0, .string ⟨#[]⟩, .int .i64 0, .int .i64 0] #[Value.int .i64 c.kind, .int .i64 c.number, .int .i64 c.index, .string c.text, .int .i64 0, .int .i64 0]
 refine (Gd c.set _ _ lo hi (CsT.mk_) (by simp; omega) (nZ _)).mono ?_; rintro e w1 ⟨cs1, rfl, r1, hb1⟩
 obtain hcs := CsT.form ⟨cs1, rfl, r1.rep⟩
 obtain rfl : cs1 = [Value.int .i64 c.eB, .int .i64 c.dW] := congrArg Array.toList (Value.agg.inj hcs)
 clear hcs
 have fr1 := fr0.later hb1
 have z1 : w.heap.size + 3 ≤ w1.heap.size := by have := fr1.var.lt; omega
 have R1 : gZ w1 (w.heap.size + 3) w1.heap.size [Dat.int .i64 c.eB, .int .i64 c.dW] [Value.int .i64 c.eB, .int .i64 c.dW] := gZ.wide r1 (by simp) (nR _)
 clear hb1 r1
 obtain ⟨ca, co, fo, cr, fr', la, lv⟩ := fr1.rJ
 go_wp2_with fail
 refine bodyPost_ret (v := .agg #[Value.int .i64 c.kind, .int .i64 c.number, .int .i64 c.index, .string c.text, .int .i64 c.eB, .int .i64 c.dW]) ?_ rfl ⟨[Value.int .i64 c.kind, .int .i64 c.number, .int .i64 c.index, .string c.text, .int .i64 c.eB, .int .i64 c.dW], rfl, (.gG (.gG (.gG (.wD (gZ.app (ds := [Dat.int .i64 c.eB, .int .i64 c.dW]) (vs := [Value.int .i64 c.eB, .int .i64 c.dW]) (mid := w1.heap.size) ?_ .lu (by omega) (by first | (simp [World.setCell] <;> omega) | exact nR _ | omega)))))), ?_⟩
 ·simp [results, Tryz.results19, go_sem, cr]
 ·refine gZ.wide (lo := w.heap.size + 3) (hi := w1.heap.size) ?_ (by omega) (nR _)
  iterate 8 refine gZ.eY ?_ (.inl (by simp <;> omega)) _
  exact R1
 ·iterate 8 refine Below.setCell ?_ (by simp <;> omega) _
  exact fr1.bel
theorem Jy : (Tryz.prog.info? 56).map (fun i => (i.zero, i.size, i.bytes)) = some (some (.agg #[.int .i64 0, .int .i64 0, .int .i64 0, .string ⟨#[]⟩, .int .i64 0, .int .i64 0]), 6, 56) := by kernel_rfl
theorem rA (l : List aQ) (v : Value) (w : World) (lo hi : Nat) (h : dz w lo hi 6 aQ.ay v l) (hhi : hi ≤ w.heap.size) (hl : l.length + sumOf aQ.dX l ≤ 1048576) :
 Calls Tryz.prog 45 #[v] w (vT 6 aQ.ay l w) := by
 obtain ⟨i0, hi0, hz0, hz1, hz2⟩ := info_parts Jy
 obtain ⟨A, cap, rfl, hc1, hc2⟩ := h.shape
 unfold maxLen at hc2
 go_enter Tryz.func45, Tryz.ntmps45
 go_wp2_with (first | (at_make; refine wpList_make_full w rfl (.tmp 6) (.tmp 6) 49 rfl w.heap.size 56 i0 _ 6 Tryz.underlying49 hi0 hz0 hz1 .i64 .i64 _ _ l.length rfl rfl rfl rfl (by rw [hz2]; omega) (by unfold maxLen; omega) (nR _) ?_))
 intro w1 hown hg
 have hb := kM hg (nR w.heap.size) (fun g hg => by cases hg)
 have hz : w.heap.size + 1 ≤ w1.heap.size := (hown.lt _ rfl).2
 obtain ⟨Z, hown⟩ : ∃ Z, w1.ownsRow w.heap.size 56 6 (.slice (some ⟨w.heap.size, 0, none⟩) l.length l.length) l.length Z := ⟨_, hown⟩
 have HZ := lH hown.1
 clear hg
 go_wp2_with fail
 go_loopw [4] (fun i wr => ∃ (k : Nat) (vs : List Value), k ≤ l.length ∧ i = .int .i64 k ∧ wr.ownsRow w.heap.size 56 6 (.slice (some ⟨w.heap.size, 0, none⟩) l.length l.length) l.length (vs ++ Z.drop (k * 6)) ∧ gZ wr (w.heap.size + 1) wr.heap.size (flat aQ.ay (l.take k)) vs ∧ Below w.heap.size w wr ∧ w.heap.size + 1 ≤ wr.heap.size) (fun i _ => l.length - (intOf i).toNat)
 case atStart => exact ⟨0, [], nZ _, rfl, by simpa using hown, by simp only [List.take_zero, oP]; exact .lu, hb, hz⟩
 case round =>
  clear hown hb hz
  obtain ⟨k, vs, hk, rfl, hown, hrep, hb, hz⟩ := hrel
  obtain ⟨wo, rfl⟩ := nW wr
  have hvs : vs.length = k * 6 := by rw [hrep.len, qJ aQ.gK, List.length_take, Nat.min_eq_left hk]
  have HV := lH hvs
  clear hvs
  by_cases hlt : k < l.length
  ·obtain ⟨c, hc⟩ : ∃ c, l[k]? = some c := ⟨_, gE hlt⟩
   obtain ⟨g, off, rfl, hg1, hg2, hmem, hcr, q0, q1, q2, q3, q4, q5⟩ := aQ.at_ (h.below hb hhi) hc
   have HD := lH (rz (f := aQ.ay) hc)
   have hbm := qK (b := aQ.dX) hmem
   clear hc hmem
   go_wp2_with fail
   refine (za c _ _ _ _ hcr (by omega) (by omega)).mono ?_; rintro e w1 ⟨cs, rfl, hx, hb1⟩
   obtain hcs := aQ.form ⟨cs, rfl, hx.rep⟩
   obtain rfl : cs = [Value.int .i64 c.kind, .int .i64 c.number, .int .i64 c.index, .string c.text, .int .i64 c.eB, .int .i64 c.dW] := congrArg Array.toList (Value.agg.inj hcs)
   have z1 := hb1.size
   have hown1 := pG hown hb1
   have qD := (hrep.below hb1 (nR _)).app hx hz z1
   have hb2 := hb.trans (hb1.mono (by omega))
   clear hown hrep hx hb1 hb hcr q0 q1 q2 q3 q4 q5
   obtain ⟨⟨o0, d0⟩, f0⟩ := gM hown1 (k * 6) (by omega)
   obtain ⟨⟨o1, d1⟩, f1⟩ := gM hown1 (k * 6 + 1) (by omega)
   obtain ⟨⟨o2, d2⟩, f2⟩ := gM hown1 (k * 6 + 2) (by omega)
   obtain ⟨⟨o3, d3⟩, f3⟩ := gM hown1 (k * 6 + 3) (by omega)
   obtain ⟨⟨o4, d4⟩, f4⟩ := gM hown1 (k * 6 + 4) (by omega)
   obtain ⟨⟨o5, d5⟩, f5⟩ := gM hown1 (k * 6 + 5) (by omega)
   have pO := qc [Value.int .i64 c.kind, .int .i64 c.number, .int .i64 c.index, .string c.text, .int .i64 c.eB, .int .i64 c.dW] _ _ (k * 6) hown1
   rw [oq _ _ _ HV.out (by rw [HZ.out]; simp; omega)] at pO
   have qQ := gZ.gq (g := w.heap.size) (.inl (Nat.lt_succ_self _)) [Value.int .i64 c.kind, .int .i64 c.number, .int .i64 c.index, .string c.text, .int .i64 c.eB, .int .i64 c.dW] _ (k * 6) qD
   have tC := lK (nR w.heap.size) [Value.int .i64 c.kind, .int .i64 c.number, .int .i64 c.index, .string c.text, .int .i64 c.eB, .int .i64 c.dW] _ _ (k * 6) hb2
   have qR := kK w.heap.size [Value.int .i64 c.kind, .int .i64 c.number, .int .i64 c.index, .string c.text, .int .i64 c.eB, .int .i64 c.dW] w1 (k * 6)
   simp only [gq, Nat.add_assoc, Nat.reduceAdd, List.length_cons, List.length_nil] at pO qQ tC qR
   have O2 := lH pO
   have R2 := lH qQ
   have S2 := lH qR
   clear pO qQ hown1 qD qR hcs
   go_wp2_with fail
   go_roundw
   case rel =>
    refine ⟨k + 1, vs ++ [Value.int .i64 c.kind, .int .i64 c.number, .int .i64 c.index, .string c.text, .int .i64 c.eB, .int .i64 c.dW], by omega, by go_num, ?_, ?_, tC, by rw [S2.out]; omega⟩
    ·rw [Nat.succ_mul]; exact O2.out
    ·rw [HD.out, S2.out]; exact R2.out
   case measure => simp [intOf]; omega
  ·obtain rfl : k = l.length := by omega
   rw [List.take_length] at hrep
   go_wp2_with fail
   go_ret
   rw [List.drop_eq_nil_of_le (by rw [HZ.out]; exact nR _), List.append_nil] at hown
   exact ⟨_, rfl, dI.mk_ (mid := w.heap.size + 1) hown hrep (by simp [Value.ownBlock]) (by omega) hz, hb⟩
theorem Hy (c : CsT) (x y : Value) (w : World) (lo hi lo' hi' : Nat) (h : fA w lo hi CsT.ay x c) (h' : fA w lo' hi' CsT.ay y c) (hhi : hi ≤ w.heap.size) (eP : hi' ≤ w.heap.size) :
 Calls Tryz.prog 62 #[x, y] w fun e w' => e = .returned (.bool true) ∧ Below w.heap.size w w' := by
 obtain rfl := CsT.form h
 obtain rfl := CsT.form h'
 have Vn : (c.low != c.low) = false := by simp
 have Vb : (c.high != c.high) = false := by simp
 have hw0 : Below w.heap.size w ((w.alloc (.cells #[Value.int .i64 c.low, .int .i64 c.high] 54)).alloc (.cells #[Value.int .i64 c.low, .int .i64 c.high] 54)) := (bA _ _).alloc (by simp) _
 have a0 := (Blk.new w 54 #[Value.int .i64 c.low, .int .i64 c.high]).alloc (.cells #[Value.int .i64 c.low, .int .i64 c.high] 54)
 have e0 := Blk.newAt (w.alloc (.cells #[Value.int .i64 c.low, .int .i64 c.high] 54)) 54 #[Value.int .i64 c.low, .int .i64 c.high] (w.heap.size + 1) (by simp)
 go_enter Tryz.func62, Tryz.ntmps62
 go_wp2_with fail
 go_ret
 exact ⟨rfl, hw0⟩
theorem Hz (c : kG) (x y : Value) (w : World) (lo hi lo' hi' : Nat) (h : fA w lo hi kG.ay x c) (h' : fA w lo' hi' kG.ay y c) (hhi : hi ≤ w.heap.size) (eP : hi' ≤ w.heap.size) :
 Calls Tryz.prog 144 #[x, y] w fun e w' => e = .returned (.bool true) ∧ Below w.heap.size w w' := by
 obtain rfl := kG.form h
 obtain rfl := kG.form h'
 have bret : (c.ret != c.ret) = false := by simp
 have H6 : (c.frame != c.frame) = false := by simp
 have KN : (c.routine != c.routine) = false := by simp
 have Na : (c.height != c.height) = false := by simp
 have Uu : (c.dU != c.dU) = false := by simp
 have KO : (c.dx != c.dx) = false := by simp
 have OU : (c.eT != c.eT) = false := by simp
 have IY : (c.line != c.line) = false := by simp
 have hw0 : Below w.heap.size w ((w.alloc (.cells #[Value.int .i64 c.ret, .int .i64 c.frame, .int .i64 c.routine, .int .i64 c.height, .int .i64 c.dU, .int .i64 c.dx, .int .i64 c.eT, .int .i64 c.line] 210)).alloc (.cells #[Value.int .i64 c.ret, .int .i64 c.frame, .int .i64 c.routine, .int .i64 c.height, .int .i64 c.dU, .int .i64 c.dx, .int .i64 c.eT, .int .i64 c.line] 210)) := (bA _ _).alloc (by simp) _
 have a0 := (Blk.new w 210 #[Value.int .i64 c.ret, .int .i64 c.frame, .int .i64 c.routine, .int .i64 c.height, .int .i64 c.dU, .int .i64 c.dx, .int .i64 c.eT, .int .i64 c.line]).alloc (.cells #[Value.int .i64 c.ret, .int .i64 c.frame, .int .i64 c.routine, .int .i64 c.height, .int .i64 c.dU, .int .i64 c.dx, .int .i64 c.eT, .int .i64 c.line] 210)
 have e0 := Blk.newAt (w.alloc (.cells #[Value.int .i64 c.ret, .int .i64 c.frame, .int .i64 c.routine, .int .i64 c.height, .int .i64 c.dU, .int .i64 c.dx, .int .i64 c.eT, .int .i64 c.line] 210)) 210 #[Value.int .i64 c.ret, .int .i64 c.frame, .int .i64 c.routine, .int .i64 c.height, .int .i64 c.dU, .int .i64 c.dx, .int .i64 c.eT, .int .i64 c.line] (w.heap.size + 1) (by simp)
 go_enter Tryz.func144, Tryz.ntmps144
 go_wp2_with fail
 go_ret
 exact ⟨rfl, hw0⟩
theorem AB (l : List kG) (v u : Value) (w : World) (lo hi lo' hi' : Nat) (h : dz w lo hi 8 kG.ay v l) (h' : dz w lo' hi' 8 kG.ay u l) (hhi : hi ≤ w.heap.size) (eP : hi' ≤ w.heap.size) :
 Calls Tryz.prog 109 #[v, u] w fun e w' => e = .returned (.bool true) ∧ Below w.heap.size w w' := by
 obtain ⟨A, cap, rfl, hc1, hc2⟩ := h.shape
 obtain ⟨A', cap', rfl, hc1', hc2'⟩ := h'.shape
 unfold maxLen at hc2 hc2'
 have hne : ((l.length : Int) != (l.length : Int)) = false := by simp
 go_enter Tryz.func109, Tryz.ntmps109
 go_wp2_with fail
 go_loopw [5] (fun i wr => ∃ k : Nat, k ≤ l.length ∧ i = .int .i64 k ∧ Below w.heap.size w wr) (fun i _ => l.length - (intOf i).toNat)
 case atStart => exact ⟨0, nZ _, rfl, bR _ _⟩
 case round =>
  obtain ⟨k, hk, rfl, hb⟩ := hrel
  obtain ⟨wo, rfl⟩ := nW wr
  have hz := hb.size
  by_cases hlt : k < l.length
  ·obtain ⟨c, hc⟩ : ∃ c, l[k]? = some c := ⟨_, gE hlt⟩
   obtain ⟨g, off, rfl, hg1, hg2, hmem, hrep, q0, q1, q2, q3, q4, q5, q6, q7⟩ := kG.at_ (h.below hb hhi) hc
   obtain ⟨g', off', rfl, hg1', wE, tF, qE, p0, p1, p2, p3, p4, p5, p6, p7⟩ := kG.at_ (h'.below hb eP) hc
   have e0 : (0 : Int) ≤ (k : Int) := by omega
   have e8 : (k : Int) < (l.length : Int) := by omega
   have y1 : hi ≤ wo.drew.heap.size := nT hhi hz
   have y2 : hi' ≤ wo.drew.heap.size := nT eP hz
   have t1 := nL hg2 y1
   have t2 := nL wE y2
   clear hc hmem tF
   go_wp2_with fail
   go_region_held3 (fun w' => (w'.cell? ⟨g, off + k * 8, none⟩ = some (.int .i64 c.ret) ∧ w'.cell? ⟨g, off + k * 8 + 1, none⟩ = some (.int .i64 c.frame) ∧ w'.cell? ⟨g, off + k * 8 + 2, none⟩ = some (.int .i64 c.routine) ∧ w'.cell? ⟨g, off + k * 8 + 3, none⟩ = some (.int .i64 c.height) ∧ w'.cell? ⟨g, off + k * 8 + 4, none⟩ = some (.int .i64 c.dU) ∧ w'.cell? ⟨g, off + k * 8 + 5, none⟩ = some (.int .i64 c.dx) ∧ w'.cell? ⟨g, off + k * 8 + 6, none⟩ = some (.int .i64 c.eT) ∧ w'.cell? ⟨g, off + k * 8 + 7, none⟩ = some (.int .i64 c.line)) ∧ (w'.cell? ⟨g', off' + k * 8, none⟩ = some (.int .i64 c.ret) ∧ w'.cell? ⟨g', off' + k * 8 + 1, none⟩ = some (.int .i64 c.frame) ∧ w'.cell? ⟨g', off' + k * 8 + 2, none⟩ = some (.int .i64 c.routine) ∧ w'.cell? ⟨g', off' + k * 8 + 3, none⟩ = some (.int .i64 c.height) ∧ w'.cell? ⟨g', off' + k * 8 + 4, none⟩ = some (.int .i64 c.dU) ∧ w'.cell? ⟨g', off' + k * 8 + 5, none⟩ = some (.int .i64 c.dx) ∧ w'.cell? ⟨g', off' + k * 8 + 6, none⟩ = some (.int .i64 c.eT) ∧ w'.cell? ⟨g', off' + k * 8 + 7, none⟩ = some (.int .i64 c.line)))
    (first | exact ⟨⟨q0, q1, q2, q3, q4, q5, q6, q7⟩, p0, p1, p2, p3, p4, p5, p6, p7⟩ | exact ⟨⟨(hbA.cell t1).trans q0, (hbA.cell t1).trans q1, (hbA.cell t1).trans q2, (hbA.cell t1).trans q3, (hbA.cell t1).trans q4, (hbA.cell t1).trans q5, (hbA.cell t1).trans q6, (hbA.cell t1).trans q7⟩, (hbA.cell t2).trans p0, (hbA.cell t2).trans p1, (hbA.cell t2).trans p2, (hbA.cell t2).trans p3, (hbA.cell t2).trans p4, (hbA.cell t2).trans p5, (hbA.cell t2).trans p6, (hbA.cell t2).trans p7⟩)
    ((go_at_call 144; refine (Hz c _ _ _ _ _ _ _ (hrep.same (Same.refl _).drew) (qE.same (Same.refl _).drew) y1 y2).mono ?_; rintro e wA ⟨rfl, hbA⟩))
   have hb2 : Below w.heap.size w wA := hb.drew.trans (hbA.mono hz)
   clear hrep qE q0 q1 q2 q3 q4 q5 q6 q7 p0 p1 p2 p3 p4 p5 p6 p7
   go_wp2_with fail
   go_roundw
   case rel => exact ⟨k + 1, by omega, by go_num, hb2⟩
   case measure => simp [intOf]; omega
  ·obtain rfl : k = l.length := by omega
   go_wp2_with fail
   go_ret
   exact ⟨rfl, hb⟩
end Go.Proofs.YtoddlphekcihgaaGreatDoor
