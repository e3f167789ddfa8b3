/- CsetAll: several texts in one. FormatInt of the reference: the decimal numeral, Lib.itoa. What is left of a budget: the plain words of the laws' size counts. Core trees in memory: the plain words and readings. No program. Values of literals, and what the operators make of them: the plain words. Calculations of both sides: sums, differences, products in range. -/
import Derived.Test.YtjeomamdlmoghaaGreatDoorQ00
import Derived.Test.YtjeomamdlmoghaaGreatDoorQ01
import Derived.Test.YtjeomamdlmoghaaGreatDoorProg
import Derived.Laws.BitsLemmas
import Derived.Deep.RegionHeld3
import Derived.Lib.ItoaNum
import Derived.Lib.ItoaMem
import Derived.Lib.ItoaLen
import Derived.Lib.Bytealg
import Derived.Shelf.Bits.Mul64
set_option maxRecDepth 100000
set_option maxHeartbeats 8000000
set_option linter.unusedVariables false
set_option linter.unusedSimpArgs false
section
section
namespace Go.Proofs.YtjeomamdlmoghaaGreatDoor
open Go.RowKit
theorem wrap_bv (v : BitVec 64) : IntKind.i64.wrap (v.toNat : Int) = v.toInt := by
 rw [IntKind.wrap_i64, BitVec.toInt_eq_toNat_cond]
 have := v.isLt
 split <;> omega
theorem bits_or_bv (u v : BitVec 64) : bits .or .i64 u.toInt v.toInt = (u ||| v).toInt := by
 rw [← wrap_bv (u ||| v)]
 simp only [bits, IntKind.bits, BitVec.ofInt_toInt]
 rfl
theorem bits_and_bv (u v : BitVec 64) : bits .and .i64 u.toInt v.toInt = (u &&& v).toInt := by
 rw [← wrap_bv (u &&& v)]
 simp only [bits, IntKind.bits, BitVec.ofInt_toInt]
 rfl
theorem wrap_pow (b : Nat) (h : b ≤ 63) : wrap64 (2 ^ b) = (BitVec.twoPow 64 b).toInt := by
 have h1 : (2 : Nat) ^ b < 2 ^ 64 := Nat.pow_lt_pow_right (by decide) (by omega)
 rw [← wrap_bv, BitVec.toNat_twoPow, Nat.mod_eq_of_lt h1]
 rw [IntKind.wrap_i64, show (((2 ^ b : Nat)) : Int) = 2 ^ b by simp]
 simp only [wrap64]
structure CsetT where
 lo : BitVec 64
 hi : BitVec 64
def CsetT.val (c : CsetT) : Value := .agg #[.int .i64 c.lo.toInt, .int .i64 c.hi.toInt]
def CsetT.add (c : CsetT) (b : Nat) : CsetT := if b ≤ 63 then ⟨c.lo ||| BitVec.twoPow 64 b, c.hi⟩ else ⟨c.lo, c.hi ||| BitVec.twoPow 64 (b - 64)⟩
def CsetT.has (c : CsetT) (b : Nat) : Bool := if b ≤ 63 then c.lo.getLsbD b else c.hi.getLsbD (b - 64)
theorem CsetT.has_add (c : CsetT) (b j : Nat) (hb : b ≤ 127) (hj : j ≤ 127) : (c.add b).has j = (c.has j || decide (j = b)) := by
 unfold CsetT.add CsetT.has
 by_cases h1 : b ≤ 63 <;> by_cases h2 : j ≤ 63 <;> simp [h1, h2, BitVec.getLsbD_twoPow] <;> (try omega)
 all_goals (first | (congr 1; rw [Bool.eq_iff_iff]; simp; omega) | (intro h; omega))
theorem and_pow (u : BitVec 64) (b : Nat) (h : b ≤ 63) : (bits .and .i64 u.toInt (wrap64 (2 ^ b)) != 0) = u.getLsbD b := by
 rw [wrap_pow b h, bits_and_bv, BitVec.and_twoPow]
 cases hb : u.getLsbD b with
 | false => simp
 | true =>
   simp only [if_true]
   rw [bne_iff_ne]
   intro h0
   have : BitVec.twoPow 64 b = 0#64 := by apply BitVec.eq_of_toInt_eq; rw [h0]; rfl
   have h2 := congrArg BitVec.toNat this
   rw [BitVec.toNat_twoPow] at h2
   have h1 : (2 : Nat) ^ b < 2 ^ 64 := Nat.pow_lt_pow_right (by decide) (by omega)
   rw [Nat.mod_eq_of_lt h1] at h2
   have := Nat.two_pow_pos b
   simp at h2
theorem spec_l2Add (c : CsetT) (b : Nat) (w : World) (hb : b ≤ 127) :
 Calls Tryz.prog 89 #[c.val, .int .u8 b] w fun e w' => e = .returned (c.add b).val ∧ Below w.heap.size w w' := by
 by_cases h : b ≤ 63
 ·have HE : Hid (bits .or .i64 c.lo.toInt (wrap64 (2 ^ b)) = (c.lo ||| BitVec.twoPow 64 b).toInt) := by show _ = _; rw [wrap_pow b h, bits_or_bv]
  have HA : Hid ((c.add b).val = .agg #[.int .i64 (c.lo ||| BitVec.twoPow 64 b).toInt, .int .i64 c.hi.toInt]) := by show _ = _; rw [CsetT.add, if_pos h]; rfl
  unfold CsetT.val
  go_enter Tryz.func89, Tryz.ntmps89
  go_wp2_with fail
  refine bodyPost_ret (v := .agg #[.int .i64 (bits .or .i64 c.lo.toInt (wrap64 (2 ^ b))), .int .i64 c.hi.toInt]) ?_ rfl ⟨?_, ((Below.refl _ _).alloc (Nat.le_refl _) _).alloc (by simp) _⟩
  ·simp [results, Tryz.results89, go_sem]
  ·rw [HE.out]; exact congrArg _ HA.out.symm
 ·obtain ⟨d, rfl⟩ : ∃ d : Nat, b = d + 64 := ⟨b - 64, by omega⟩
  have HE : Hid (bits .or .i64 c.hi.toInt (wrap64 (2 ^ d)) = (c.hi ||| BitVec.twoPow 64 d).toInt) := by show _ = _; rw [wrap_pow d (by omega), bits_or_bv]
  have HA : Hid ((c.add (d + 64)).val = .agg #[.int .i64 c.lo.toInt, .int .i64 (c.hi ||| BitVec.twoPow 64 d).toInt]) := by show _ = _; rw [CsetT.add, if_neg h, Nat.add_sub_cancel]; rfl
  unfold CsetT.val
  go_enter Tryz.func89, Tryz.ntmps89
  go_wp2_with fail
  refine bodyPost_ret (v := .agg #[.int .i64 c.lo.toInt, .int .i64 (bits .or .i64 c.hi.toInt (wrap64 (2 ^ d)))]) ?_ rfl ⟨?_, ((Below.refl _ _).alloc (Nat.le_refl _) _).alloc (by simp) _⟩
  ·simp [results, Tryz.results89, go_sem]
  ·rw [HE.out]; exact congrArg _ HA.out.symm
theorem spec_HasByte (c : CsetT) (b : Nat) (w : World) (hb : b ≤ 127) :
 Calls Tryz.prog 90 #[c.val, .int .u8 b] w fun e w' => e = .returned (.bool (c.has b)) ∧ Below w.heap.size w w' := by
 by_cases h : b ≤ 63
 ·have HE : Hid ((bits .and .i64 c.lo.toInt (wrap64 (2 ^ b)) != 0) = c.has b) := by show _ = _; rw [and_pow _ b h, CsetT.has, if_pos h]
  unfold CsetT.val
  go_enter Tryz.func90, Tryz.ntmps90
  go_wp2_with fail
  go_ret
  exact ⟨ret_bool HE.out, (Below.refl _ _).alloc (Nat.le_refl _) _⟩
 ·obtain ⟨d, rfl⟩ : ∃ d : Nat, b = d + 64 := ⟨b - 64, by omega⟩
  have HE : Hid ((bits .and .i64 c.hi.toInt (wrap64 (2 ^ d)) != 0) = c.has (d + 64)) := by show _ = _; rw [and_pow _ d (by omega), CsetT.has, if_neg h, Nat.add_sub_cancel]
  unfold CsetT.val
  go_enter Tryz.func90, Tryz.ntmps90
  go_wp2_with fail
  go_ret
  exact ⟨ret_bool HE.out, (Below.refl _ _).alloc (Nat.le_refl _) _⟩
end Go.Proofs.YtjeomamdlmoghaaGreatDoor
end
section
namespace Go.Proofs.YtjeomamdlmoghaaGreatDoor
open Go.RowKit
def csetTo (s : ByteArray) (k : Nat) : CsetT := (List.range k).foldl (fun c j => c.add (byteAt s j)) ⟨0#64, 0#64⟩
theorem csetTo_succ (s : ByteArray) (k : Nat) : csetTo s (k + 1) = (csetTo s k).add (byteAt s k) := by simp [csetTo, List.range_succ]
theorem csetTo_has (s : ByteArray) (j : Nat) (hj : j ≤ 127) : ∀ k, (∀ i, i < k → byteAt s i ≤ 127) → ((csetTo s k).has j = true ↔ ∃ i, i < k ∧ byteAt s i = j) := by
 intro k
 induction k with
 | zero => intro _; simp [csetTo, CsetT.has]
 | succ k ih =>
   intro h
   rw [csetTo_succ, CsetT.has_add _ _ _ (h k (by omega)) hj, Bool.or_eq_true, ih (fun i hi => h i (by omega)), decide_eq_true_eq]
   constructor
   ·rintro (⟨i, hi, e⟩ | e)
    ·exact ⟨i, by omega, e⟩
    ·exact ⟨k, by omega, e.symm⟩
   ·rintro ⟨i, hi, e⟩
    by_cases hk : i = k
    ·subst hk; exact .inr e.symm
    ·exact .inl ⟨i, by omega, e⟩
def asciiB (s : ByteArray) : Bool := (List.range s.size).all fun j => decide (byteAt s j ≤ 127)
theorem ascii_no {s : ByteArray} {k : Nat} (hk : k < s.size) (h : 127 < byteAt s k) : asciiB s = false := by
 unfold asciiB
 rw [List.all_eq_false]
 exact ⟨k, List.mem_range.2 hk, by simp; omega⟩
theorem ascii_yes {s : ByteArray} (h : ∀ j, j < s.size → byteAt s j ≤ 127) : asciiB s = true := by
 unfold asciiB
 rw [List.all_eq_true]
 exact fun j hj => decide_eq_true (h j (List.mem_range.1 hj))
def newCset (s : ByteArray) : CsetT := if asciiB s then csetTo s s.size else ⟨0#64, 0#64⟩
theorem newCset_no {s : ByteArray} (h : asciiB s = false) : newCset s = ⟨0#64, 0#64⟩ := by simp [newCset, h]
theorem newCset_yes {s : ByteArray} (h : asciiB s = true) : newCset s = csetTo s s.size := by simp [newCset, h]
def CsetPair (c : CsetT) (ok : Bool) (w : World) (e : Ending) (w' : World) : Prop := e = .returned (.tuple #[c.val, .bool ok]) ∧ Below w.heap.size w w'
theorem spec_NewCset (s : ByteArray) (w : World) (hs : s.size ≤ 1048576) :
 Calls Tryz.prog 67 #[.string s] w (CsetPair (newCset s) (asciiB s) w) := by
 go_enter Tryz.func67, Tryz.ntmps67
 go_wp2_with fail
 go_loopw [5] (fun i wr => ∃ k : Nat, k ≤ s.size ∧ i = .int .i64 k ∧ Hid (∀ j, j < k → byteAt s j ≤ 127) ∧ Blk wr w.heap.size 74 #[.int .i64 0, .int .i64 0] ∧ Blk wr (w.heap.size + 1) 74 #[.int .i64 (csetTo s k).lo.toInt, .int .i64 (csetTo s k).hi.toInt] ∧ Below w.heap.size w wr) (fun i _ => s.size - (intOf i).toNat)
 case atStart => exact ⟨0, Nat.zero_le _, rfl, (fun j hj => by omega), (Blk.new w _ _).alloc _, Blk.newAt _ _ _ _ (by simp), ((Below.refl _ _).alloc (Nat.le_refl _) _).alloc (by simp) _⟩
 case round =>
  obtain ⟨k, hk, rfl, hgo, hr, hc, hb⟩ := hrel
  obtain ⟨wo, rfl⟩ : ∃ wo : World, wo = wr := ⟨_, rfl⟩
  have hz := hb.size
  by_cases hlt : k < s.size
  ·have HK := Lib.hid (byteAt_eq s k hlt)
   by_cases h7 : 127 < s[k].toNat
   ·have HN := Lib.hid (ascii_no hlt (by rw [HK.out]; exact h7))
    have cr := hr.cell
    have fr := hr.frozen
    go_wp2_with fail
    refine bodyPost_ret (v := .tuple #[.agg #[.int .i64 0, .int .i64 0], .bool false]) ?_ rfl ⟨?_, ?_⟩
    ·simp [results, Tryz.results67, go_sem, cr]
    ·rw [newCset_no HN.out, HN.out]; rfl
    ·exact (hb.setCell (p := ⟨w.heap.size, 0, none⟩) (Nat.le_refl _) _).setCell (p := ⟨w.heap.size, 1, none⟩) (Nat.le_refl _) _
   ·have hb7 : s[k].toNat ≤ 127 := by omega
    have HG : Hid (∀ j, j < k + 1 → byteAt s j ≤ 127) := by
     intro j hj
     by_cases e : j = k
     ·rw [e, HK.out]; exact hb7
     ·exact hgo.out j (by omega)
    have HS := Lib.hid (csetTo_succ s k)
    have cc := hc.cell
    have e0 : (0 : Int) ≤ (k : Int) := by omega
    have e8 : (k : Int) < (s.size : Int) := by omega
    clear hgo
    go_wp2_with fail
    go_region_with (first
     | (go_at_call 89; refine (spec_l2Add (csetTo s k) s[k].toNat _ hb7).mono ?_; rintro e w1 ⟨rfl, hb1⟩; unfold CsetT.val; have cc1 := (hc.drew.later hb1).cell; have fc1 := (hc.drew.later hb1).frozen))
    all_goals
     have hr1 := hr.drew.later hb1
     have hc1 := hc.drew.later hb1
     have hb2 : Below w.heap.size w w1 := hb.drew.trans (hb1.mono hz)
     clear cc cc1 fc1
     go_wp2_with fail
     go_roundw
     case rel =>
      refine ⟨k + 1, by omega, by go_num, HG, (hr1.far (p := ⟨w.heap.size + 1, 0, none⟩) (by simp) _).far (p := ⟨w.heap.size + 1, 1, none⟩) (by simp) _, ?_, (hb2.setCell (p := ⟨w.heap.size + 1, 0, none⟩) (by simp) _).setCell (p := ⟨w.heap.size + 1, 1, none⟩) (by simp) _⟩
      rw [HS.out, HK.out]
      exact (hc1.set_ 0 _).set_ 1 _
     case measure => simp [intOf]; omega
  ·obtain rfl : k = s.size := by omega
   have HY := Lib.hid (ascii_yes hgo.out)
   have cc := hc.cell
   have cr := hr.cell
   have fr := hr.frozen
   clear hgo
   go_wp2_with fail
   refine bodyPost_ret (v := .tuple #[(csetTo s s.size).val, .bool true]) ?_ rfl ⟨?_, ?_⟩
   ·simp [results, Tryz.results67, go_sem, cr, CsetT.val]
   ·rw [newCset_yes HY.out, HY.out]
   ·exact (hb.setCell (p := ⟨w.heap.size, 0, none⟩) (Nat.le_refl _) _).setCell (p := ⟨w.heap.size, 1, none⟩) (Nat.le_refl _) _
end Go.Proofs.YtjeomamdlmoghaaGreatDoor
end
section
namespace Go.Proofs.YtjeomamdlmoghaaGreatDoor
open Go.RowKit
def csetNums (c : CsetT) (k : Nat) : List Nat := (List.range k).filter c.has
def csetText (c : CsetT) : ByteArray := strOfNums ((csetNums c 128).map fun (j : Nat) => (j : Int))
theorem csetNums_yes {c : CsetT} {k : Nat} (h : c.has k = true) : csetNums c (k + 1) = csetNums c k ++ [k] := by simp [csetNums, List.range_succ, List.filter_append, h]
theorem csetNums_no {c : CsetT} {k : Nat} (h : c.has k = false) : csetNums c (k + 1) = csetNums c k := by simp [csetNums, List.range_succ, List.filter_append, h]
theorem csetNums_len (c : CsetT) (k : Nat) : (csetNums c k).length ≤ k := by
 have := List.length_filter_le c.has (List.range k)
 simpa [csetNums] using this
theorem own_base' {w : World} {base base' : Nat} {e : TypeId} {size n : Nat} {v : Value} {xs : List Value} (h : w.ownsRow base e size v n xs) (hb : base' ≤ base) : w.ownsRow base' e size v n xs := by
 refine ⟨h.1, ?_⟩
 rcases h.2 with h0 | ⟨g, cap, cur, h1, h2, h3⟩
 ·exact .inl h0
 ·exact .inr ⟨g, cap, cur, h1, Nat.le_trans hb h2, h3⟩
def IsSl (v : Value) (n : Nat) : Prop := ∃ g cap, v = .slice (some ⟨g, 0, none⟩) n cap
theorem info_u8 : (Tryz.prog.info? 5).map (fun i => (i.zero, i.size, i.bytes)) = some (some (.int .u8 0), 1, 1) := by kernel_rfl
theorem spec_CsetText (c : CsetT) (w : World) :
 Calls Tryz.prog 68 #[c.val] w fun e w' => e = .returned (.string (csetText c)) ∧ Below w.heap.size w w' := by
 have hcv := fun (W : World) (g cap n : Nat) (xs : List Int) (hl : xs.length = n) (hc : ∀ i, i < n → W.cell? ⟨g, 0 + i, none⟩ = some (.int .u8 (xs.getD i 0))) => run_convert_bytes_arg (P := Tryz.prog) W 119 5 Tryz.underlying119 Tryz.underlying5 g 0 n cap xs hl hc 9 Tryz.underlying9
 have HCV := Lib.hid hcv
 clear hcv
 unfold CsetT.val
 go_enter Tryz.func68, Tryz.ntmps68
 go_wp2_with fail
 go_loopw [3, 4] (fun v i wr => ∃ k : Nat, k ≤ 128 ∧ i = .int .i64 k ∧ wr.ownsRow w.heap.size 5 1 v (csetNums c k).length ((csetNums c k).map fun (j : Nat) => Value.int .u8 (j : Int)) ∧ IsSl v (csetNums c k).length ∧ Blk wr w.heap.size 74 #[.int .i64 c.lo.toInt, .int .i64 c.hi.toInt] ∧ v.ownBlock ≠ some w.heap.size ∧ Below w.heap.size w wr) (fun _ i _ => 128 - (intOf i).toNat)
 case atStart =>
  have h0 := World.ownsRow_lit (w.alloc (.cells #[.int .i64 c.lo.toInt, .int .i64 c.hi.toInt] 74)) #[] 0 (e := 5) (size := 1) (Nat.le_refl _) (by decide) rfl
  have h1 := own_base' h0 (base' := w.heap.size) (by simp)
  refine ⟨0, Nat.zero_le _, rfl, ?_, ⟨w.heap.size + 1, 0, rfl⟩, (Blk.new w _ _).alloc _, (by simp [Value.ownBlock]), ((Below.refl _ _).alloc (Nat.le_refl _) _).alloc (by simp) _⟩
  simpa [csetNums] using h1
 case round =>
  obtain ⟨k, hk, rfl, hown, hsl, ha, hne, hb⟩ := hrel
  obtain ⟨wo, rfl⟩ : ∃ wo : World, wo = wr := ⟨_, rfl⟩
  obtain ⟨v, hv⟩ : ∃ v, v = u3 := ⟨_, rfl⟩
  subst hv
  have hz := hb.size
  have hln := csetNums_len c k
  by_cases hlt : k < 128
  ·have ca := ha.cell
   have HC := Lib.hid (fun w => spec_HasByte c k w (by omega))
   cases hh : c.has k with
   | true =>
     rw [hh] at HC
     have HS := Lib.hid (csetNums_yes hh)
     clear hh
     go_wp2_with fail
     refine (HC.out _).mono ?_; rintro e w1 ⟨rfl, hb1⟩
     have hown1 := own_later hown hb1
     have ha1 := ha.later hb1
     have hb2 := hb.trans (hb1.mono hz)
     clear hown ca ha hb1 hsl
     go_wp2_with (first | (at_builtin; refine wpList_push rfl (.tmp 14) (.tmp 17) 119 rfl 5 _ 1 1 info_u8 Tryz.underlying119 rfl (by decide) (by decide) w.heap.size v _ _ rfl hown1 #[.int .u8 k] 1 _ rfl rfl (by simp [Value.oneCell']) (by omega) hb2.size ?_))
     rintro v' w2 hown2 hgrow hat
     have hb3 := below_push hb2 hb2.size hown1 hgrow
     have ha3 := ha1.grown hgrow (fun e => hne e.symm)
     have hne3 : v'.ownBlock ≠ some w.heap.size := by
      rcases hat with e | e
      ·rw [e]; exact hne
      ·rw [e]; intro h; injection h with h; have := hb2.size; omega
     obtain ⟨g, cap, hv', -⟩ := hown2.form (by omega)
     have ho3 : w2.ownsRow w.heap.size 5 1 v' (csetNums c (k + 1)).length ((csetNums c (k + 1)).map fun (j : Nat) => Value.int .u8 (j : Int)) := by rw [HS.out]; simpa using hown2
     have hs3 : IsSl v' (csetNums c (k + 1)).length := ⟨g, cap, by rw [HS.out, hv']; simp⟩
     clear hown2 hgrow hat hown1 hv' ha1 hne
     go_wp2_with fail
     go_roundw
     case rel => exact ⟨k + 1, by omega, by go_num, ho3, hs3, ha3, hne3, hb3⟩
     case measure => simp [intOf]; omega
   | false =>
     rw [hh] at HC
     have HS := Lib.hid (csetNums_no hh)
     clear hh
     go_wp2_with fail
     refine (HC.out _).mono ?_; rintro e w1 ⟨rfl, hb1⟩
     have hown1 := own_later hown hb1
     have ha1 := ha.later hb1
     have hb2 := hb.trans (hb1.mono hz)
     clear hown ca ha hb1
     go_wp2_with fail
     go_roundw
     case rel => exact ⟨k + 1, by omega, by go_num, by rw [HS.out]; exact hown1, by rw [HS.out]; exact hsl, ha1, hne, hb2⟩
     case measure => simp [intOf]; omega
  ·obtain rfl : k = 128 := by omega
   obtain ⟨g, cap, rfl⟩ := hsl
   have hcv := HCV.out wo g cap (csetNums c 128).length ((csetNums c 128).map fun (j : Nat) => (j : Int)) (by simp) (fun i hi => by
    have := hown.cellAt i (by omega)
    rw [Nat.zero_add, this, List.getElem?_map, List.getElem?_eq_getElem hi, List.getD, List.getElem?_map, List.getElem?_eq_getElem hi]
    rfl)
   clear hown HCV
   go_wp2_with fail
   go_ret
   exact ⟨rfl, hb⟩
def riseAt (s : ByteArray) (j : Nat) : Bool := decide (byteAt s j ≤ 127) && (decide (j = 0) || decide (byteAt s (j - 1) < byteAt s j))
def csetOk (s : ByteArray) : Bool := (List.range s.size).all (riseAt s)
theorem csetOk_no {s : ByteArray} {k : Nat} (hk : k < s.size) (h : riseAt s k = false) : csetOk s = false := by
 unfold csetOk
 rw [List.all_eq_false]
 exact ⟨k, List.mem_range.2 hk, by rw [h]; simp⟩
theorem csetOk_yes {s : ByteArray} (h : ∀ j, j < s.size → riseAt s j = true) : csetOk s = true := by
 unfold csetOk
 rw [List.all_eq_true]
 exact fun j hj => h j (List.mem_range.1 hj)
theorem impl_isCsetText (s : ByteArray) (w : World) (hs : s.size ≤ 1048576) :
 Calls Tryz.prog 80 #[.string s] w fun e w' => e = .returned (.bool (csetOk s)) ∧ Same w w' := by
 go_enter Tryz.func80, Tryz.ntmps80
 go_wp2_with fail
 go_loopw [3] (fun i wr => ∃ k : Nat, k ≤ s.size ∧ i = .int .i64 k ∧ Hid (∀ j, j < k → riseAt s j = true) ∧ Same w wr) (fun i _ => s.size - (intOf i).toNat)
 case atStart => exact ⟨0, Nat.zero_le _, rfl, (fun j hj => by omega), Same.refl _⟩
 case round =>
  obtain ⟨k, hk, rfl, hgo, hsm⟩ := hrel
  obtain ⟨wo, rfl⟩ : ∃ wo : World, wo = wr := ⟨_, rfl⟩
  by_cases hlt : k < s.size
  ·have e0 : (0 : Int) ≤ (k : Int) := by omega
   have e8 : (k : Int) < (s.size : Int) := by omega
   have HK := byteAt_eq s k hlt
   by_cases h7 : 127 < s[k].toNat
   ·have HN := Lib.hid (csetOk_no hlt (by unfold riseAt; rw [HK, decide_eq_false (by omega)]; rfl))
    have d7 : decide ((127 : Int) < (s[k].toNat : Int)) = true := by simp; omega
    have n7 : decide (127 < s[k].toNat) = true := decide_eq_true h7
    clear HK hgo
    go_wp2_with fail
    go_quiet (fail)
    go_wp2_with fail
    go_ret
    exact ⟨ret_bool HN.out.symm, hsm.drewN _⟩
   have d7 : decide ((127 : Int) < (s[k].toNat : Int)) = false := by simp; omega
   have n7 : decide (127 < s[k].toNat) = false := decide_eq_false h7
   by_cases hk0 : k = 0
   ·have HN : Hid (∀ j, j < k + 1 → riseAt s j = true) := by
     intro j hj
     obtain rfl : j = k := by omega
     unfold riseAt; rw [HK, decide_eq_true (by omega : s[j].toNat ≤ 127), decide_eq_true hk0]; rfl
    have d0 : decide ((0 : Int) < (k : Int)) = false := by simp; omega
    have n0 : decide (0 < k) = false := decide_eq_false (by omega)
    clear HK hgo hk0
    go_wp2_with fail
    go_quiet (fail)
    go_wp2_with fail
    go_roundw
    case rel => exact ⟨k + 1, by omega, by go_num, HN, hsm.drewN _⟩
    case measure => simp [intOf]; omega
   obtain ⟨m, hmk⟩ : ∃ m : Nat, k = m + 1 := ⟨k - 1, by omega⟩
   have hm : m < s.size := by omega
   have HM := byteAt_eq s m hm
   have d0 : decide ((0 : Int) < (k : Int)) = true := decide_eq_true (by omega)
   have n0 : decide (0 < k) = true := decide_eq_true (by omega)
   have g1 : IntKind.i64.wrap ((k : Int) - 1) = (m : Int) := (IntWalk.i64_in _ (by omega)).trans (by omega)
   have f0 : (0 : Int) ≤ (m : Int) := by omega
   have f8 : (m : Int) < (s.size : Int) := by omega
   have hkm : k - 1 = m := by omega
   by_cases hle : s[k].toNat ≤ s[m].toNat
   ·have HN := Lib.hid (csetOk_no hlt (by unfold riseAt; rw [hkm, HK, HM, decide_eq_false hk0, decide_eq_false (by omega : ¬ s[m].toNat < s[k].toNat)]; simp))
    have l7 : decide (s[k].toNat ≤ s[m].toNat) = true := decide_eq_true hle
    clear HK HM hgo hk0 hmk hkm
    go_wp2_with fail
    go_quiet (fail)
    go_wp2_with fail
    go_ret
    exact ⟨ret_bool HN.out.symm, hsm.drewN _⟩
   ·have HN : Hid (∀ j, j < k + 1 → riseAt s j = true) := by
     intro j hj
     by_cases e : j = k
     ·unfold riseAt; rw [e, hkm, HK, HM, decide_eq_true (by omega : s[k].toNat ≤ 127), decide_eq_true (by omega : s[m].toNat < s[k].toNat)]; simp
     ·exact hgo.out j (by omega)
    have l7 : decide (s[k].toNat ≤ s[m].toNat) = false := decide_eq_false hle
    clear HK HM hgo hk0 hmk hkm
    go_wp2_with fail
    go_quiet (fail)
    go_wp2_with fail
    go_roundw
    case rel => exact ⟨k + 1, by omega, by go_num, HN, hsm.drewN _⟩
    case measure => simp [intOf]; omega
  ·obtain rfl : k = s.size := by omega
   have HY := Lib.hid (csetOk_yes hgo.out)
   clear hgo
   go_wp2_with fail
   go_ret
   exact ⟨ret_bool HY.out.symm, hsm⟩
theorem rise_uniq : ∀ {a b : List Nat}, a.Pairwise (· < ·) → b.Pairwise (· < ·) → (∀ x, x ∈ a ↔ x ∈ b) → a = b
 | [], [], _, _, _ => rfl
 | [], y :: _, _, _, h => by have := (h y).2 List.mem_cons_self; cases this
 | x :: _, [], _, _, h => by have := (h x).1 List.mem_cons_self; cases this
 | x :: a, y :: b, ha, hb, h => by
   rw [List.pairwise_cons] at ha hb
   have hxy : x = y := by
    rcases List.mem_cons.1 ((h x).1 List.mem_cons_self) with e | h1
    ·exact e
    ·rcases List.mem_cons.1 ((h y).2 List.mem_cons_self) with e | h2
     ·exact e.symm
     ·have := hb.1 x h1; have := ha.1 y h2; omega
   subst hxy
   rw [rise_uniq ha.2 hb.2 fun z => ?_]
   constructor
   ·intro hz
    rcases List.mem_cons.1 ((h z).1 (List.mem_cons_of_mem _ hz)) with e | h1
    ·have := ha.1 z hz; omega
    ·exact h1
   ·intro hz
    rcases List.mem_cons.1 ((h z).2 (List.mem_cons_of_mem _ hz)) with e | h1
    ·have := hb.1 z hz; omega
    ·exact h1
def numsOf (s : ByteArray) : List Nat := s.data.toList.map UInt8.toNat
theorem numsOf_get (s : ByteArray) (j : Nat) : (numsOf s)[j]? = if j < s.size then some (byteAt s j) else none := by
 unfold numsOf byteAt
 rw [List.getElem?_map]
 split
 ·rename_i h
  rw [List.getD, List.getElem?_eq_getElem (by simpa using h)]; rfl
 ·rename_i h
  rw [List.getElem?_eq_none (by simpa using h)]; rfl
theorem str_nums (s : ByteArray) : strOfNums ((numsOf s).map fun (j : Nat) => (j : Int)) = s := by
 apply ByteArray.ext
 apply Array.toList_inj.1
 show List.map _ _ = _
 rw [numsOf, List.map_map, List.map_map]
 conv => rhs; rw [← List.map_id s.data.toList]
 apply List.map_congr_left
 intro x _
 simp
theorem nums_inj {a b : List Nat} (ha : ∀ x ∈ a, x < 256) (hb : ∀ x ∈ b, x < 256) (h : strOfNums (a.map fun (j : Nat) => (j : Int)) = strOfNums (b.map fun (j : Nat) => (j : Int))) : a = b := by
 have h1 := congrArg (fun s => s.data.toList.map UInt8.toNat) h
 simp only [strOfNums_data, List.map_map] at h1
 have e : ∀ l : List Nat, (∀ x ∈ l, x < 256) → l.map (UInt8.toNat ∘ (fun n : Int => UInt8.ofNat n.toNat) ∘ fun (j : Nat) => (j : Int)) = l := by
  intro l hl
  conv => rhs; rw [← List.map_id l]
  apply List.map_congr_left
  intro x hx
  have := hl x hx
  simp; omega
 rw [e a ha, e b hb] at h1
 exact h1
theorem numsOf_mem (s : ByteArray) (x : Nat) : x ∈ numsOf s ↔ ∃ i, i < s.size ∧ byteAt s i = x := by
 rw [List.mem_iff_getElem?]
 constructor
 ·rintro ⟨i, hi⟩
  rw [numsOf_get] at hi
  split at hi
  ·rename_i h; exact ⟨i, h, Option.some.inj hi⟩
  ·cases hi
 ·rintro ⟨i, h, e⟩
  exact ⟨i, by rw [numsOf_get, if_pos h, e]⟩
theorem csetNums_rise (c : CsetT) (k : Nat) : (csetNums c k).Pairwise (· < ·) := (List.pairwise_lt_range (n := k)).filter _
theorem numsOf_len (s : ByteArray) : (numsOf s).length = s.size := by rw [numsOf, List.length_map]; rfl
theorem cset_same (s : ByteArray) (h : asciiB s = true) : (csetText (newCset s) = s) ↔ csetOk s = true := by
 have ha : ∀ j, j < s.size → byteAt s j ≤ 127 := fun j hj => of_decide_eq_true (List.all_eq_true.1 h j (List.mem_range.2 hj))
 have hm : ∀ x, x ∈ csetNums (newCset s) 128 ↔ x ∈ numsOf s := by
  intro x
  rw [newCset_yes h, numsOf_mem, csetNums, List.mem_filter, List.mem_range]
  constructor
  ·rintro ⟨h1, h2⟩; exact (csetTo_has s x (by omega) s.size ha).1 h2
  ·rintro ⟨i, hi, e⟩
   have := ha i hi
   exact ⟨by omega, (csetTo_has s x (by omega) s.size ha).2 ⟨i, hi, e⟩⟩
 have hlt : ∀ x ∈ numsOf s, x < 256 := fun x hx => by obtain ⟨i, hi, e⟩ := (numsOf_mem s x).1 hx; have := ha i hi; omega
 constructor
 ·intro he
  have h1 : csetNums (newCset s) 128 = numsOf s := nums_inj (fun x hx => hlt x ((hm x).1 hx)) hlt (by rw [str_nums]; exact he)
  have hr := csetNums_rise (newCset s) 128
  rw [h1] at hr
  refine csetOk_yes fun j hj => ?_
  unfold riseAt
  rw [decide_eq_true (ha j hj)]
  by_cases h0 : j = 0
  ·simp [h0]
  ·have := List.pairwise_iff_getElem.1 hr (j - 1) j (by rw [numsOf_len]; omega) (by rw [numsOf_len]; exact hj) (by omega)
   have g1 := numsOf_get s (j - 1)
   have g2 := numsOf_get s j
   rw [if_pos (by omega), List.getElem?_eq_getElem (by rw [numsOf_len]; omega)] at g1
   rw [if_pos hj, List.getElem?_eq_getElem (by rw [numsOf_len]; exact hj)] at g2
   rw [Option.some.inj g1, Option.some.inj g2] at this
   simp [this]
 ·intro he
  have hr : ∀ j, j < s.size → riseAt s j = true := fun j hj => List.all_eq_true.1 he j (List.mem_range.2 hj)
  have hstep : ∀ i d, i + d + 1 < s.size → byteAt s i < byteAt s (i + d + 1) := by
   intro i d
   induction d with
   | zero =>
     intro hi
     have := hr (i + 0 + 1) hi
     simp [riseAt] at this
     exact this.2
   | succ d ih =>
     intro hi
     have h1 := ih (by omega)
     have := hr (i + (d + 1) + 1) hi
     simp [riseAt] at this
     have h2 := this.2
     have e : i + (d + 1) = i + d + 1 := by omega
     rw [e] at h2 ⊢
     omega
  have hp : (numsOf s).Pairwise (· < ·) := by
   rw [List.pairwise_iff_getElem]
   intro i j hi hj hij
   rw [numsOf_len] at hi hj
   have g1 := numsOf_get s i
   have g2 := numsOf_get s j
   rw [if_pos hi, List.getElem?_eq_getElem (by rw [numsOf_len]; exact hi)] at g1
   rw [if_pos hj, List.getElem?_eq_getElem (by rw [numsOf_len]; exact hj)] at g2
   rw [Option.some.inj g1, Option.some.inj g2]
   obtain ⟨d, rfl⟩ : ∃ d, j = i + d + 1 := ⟨j - i - 1, by omega⟩
   exact hstep i d hj
  rw [csetText, rise_uniq (csetNums_rise _ _) hp hm, str_nums]
theorem cset_ascii {s : ByteArray} (h : asciiB s = false) : csetOk s = false := by
 obtain ⟨j, hj, hd⟩ := List.all_eq_false.1 h
 exact csetOk_no (List.mem_range.1 hj) (by unfold riseAt; rw [Bool.eq_false_iff.2 hd]; rfl)
end Go.Proofs.YtjeomamdlmoghaaGreatDoor
end
end
section
namespace Go.Proofs.YtjeomamdlmoghaaGreatDoor
open Go.RowKit
def dd (u : Nat) : List UInt8 := if u = 0 then [] else Lib.decDigits u
theorem ofNat_48 (x : Nat) : UInt8.ofNat (48 + x) = 48 + UInt8.ofNat x := by
 rw [UInt8.ofNat_add]; rfl
theorem dd_step {u : Nat} (h : 0 < u) : dd u = dd (u / 10) ++ [48 + UInt8.ofNat (u % 10)] := by
 rw [dd, if_neg (by omega), Lib.decDigits]
 split
 ·rename_i hlt
  rw [dd, if_pos (by omega), ofNat_48, Nat.mod_eq_of_lt hlt]; rfl
 ·rw [dd, if_neg (by omega), ofNat_48]
theorem dd_pos {u : Nat} (h : 0 < u) : Lib.decDigits u = dd u := by rw [dd, if_neg (by omega)]
theorem ba_cons2 (x : UInt8) (acc : List UInt8) : (⟨#[x]⟩ : ByteArray) ++ ⟨acc.toArray⟩ = ⟨(x :: acc).toArray⟩ := by
 apply ByteArray.ext; simp
def formatInt (n : Int) : ByteArray := ⟨(Lib.itoa n).toArray⟩
theorem spec_FormatInt_pos (n : Nat) (w : World) (h0 : 0 < n) (h1 : n ≤ 9223372036854775807) :
 Calls Tryz.prog 141 #[.int .i64 n] w fun e w' => e = .returned (.string (formatInt n)) ∧ Below w.heap.size w w' := by
 have hn0 : ((n : Int) == 0) = false := beq_eq_false_iff_ne.2 (by omega)
 have hn1 : decide ((n : Int) < 0) = false := decide_eq_false (by omega)
 have hcv := run_convert_byte1 (P := Tryz.prog) 119 9 5 Tryz.underlying119 Tryz.underlying5 Tryz.underlying9
 have HF : Hid (formatInt n = ⟨(dd n).toArray⟩) := by show formatInt n = _; rw [formatInt, Lib.itoa_nonneg, dd_pos h0]
 go_enter Tryz.func141, Tryz.ntmps141
 go_wp2_with fail
 go_loopw [0, 4] (fun i s wr => ∃ (u : Nat) (acc : List UInt8), u ≤ n ∧ ((0 < u ∧ 2 * acc.length ≤ n - u + 1) ∨ (u = 0 ∧ 2 * acc.length ≤ n + 2)) ∧ i = .int .i64 u ∧ s = .string ⟨acc.toArray⟩ ∧ Hid (dd n = dd u ++ acc) ∧ Below w.heap.size w wr) (fun i _ _ => (intOf i).toNat)
 case atStart => exact ⟨n, [], Nat.le_refl _, .inl ⟨h0, by simp⟩, rfl, rfl, by simp [Hid], Below.refl _ _⟩
 case round =>
  obtain ⟨u, acc, hu, hacc, rfl, rfl, hd, hb⟩ := hrel
  have hlen : 2 * acc.length ≤ n + 2 := by omega
  by_cases hz : 0 < u
  ·have hlen2 : 2 * acc.length ≤ n - u + 1 := by omega
   clear hacc hlen
   have H : Hid (dd n = dd (u / 10) ++ ((48 + UInt8.ofNat (u % 10)) :: acc)) := by show dd n = _; rw [hd.out, dd_step hz]; simp
   have hne : ((u : Int) != 0) = true := bne_iff_ne.2 (by omega)
   clear hd
   go_wp2_with fail
   go_roundw
   case rel => exact ⟨u / 10, _, by omega, by simp only [List.length_cons]; omega, by go_num, by rw [ba_cons2], H.out, hb.alloc hb.size _⟩
   case measure => simp [intOf]; omega
  ·clear hacc
   obtain rfl : u = 0 := by omega
   have H : Hid (dd n = acc) := by show dd n = _; rw [hd.out]; rfl
   clear hd
   go_wp2_with fail
   go_ret
   exact ⟨ret_string (by rw [HF.out, H.out]), hb⟩
theorem spec_FormatInt_neg (n : Nat) (w : World) (h0 : 0 < n) (h1 : n ≤ 9223372036854775808) :
 Calls Tryz.prog 141 #[.int .i64 (-(n : Int))] w fun e w' => e = .returned (.string (formatInt (-(n : Int)))) ∧ Below w.heap.size w w' := by
 have hn0 : (-(n : Int) == 0) = false := beq_eq_false_iff_ne.2 (by omega)
 have hn1 : decide (-(n : Int) < 0) = true := decide_eq_true (by omega)
 have hcv := run_convert_byte1 (P := Tryz.prog) 119 9 5 Tryz.underlying119 Tryz.underlying5 Tryz.underlying9
 have HF : Hid (formatInt (-(n : Int)) = ⟨(45 :: dd n).toArray⟩) := by show formatInt _ = _; rw [formatInt, Lib.itoa_neg n h0, dd_pos h0]
 go_enter Tryz.func141, Tryz.ntmps141
 go_wp2_with fail
 go_loopw [0, 4] (fun i s wr => ∃ (u : Nat) (acc : List UInt8), u ≤ n ∧ ((0 < u ∧ 2 * acc.length ≤ n - u + 1) ∨ (u = 0 ∧ 2 * acc.length ≤ n + 2)) ∧ i = .int .i64 (-(u : Int)) ∧ s = .string ⟨acc.toArray⟩ ∧ Hid (dd n = dd u ++ acc) ∧ Below w.heap.size w wr) (fun i _ _ => (-(intOf i)).toNat)
 case atStart => exact ⟨n, [], Nat.le_refl _, .inl ⟨h0, by simp⟩, rfl, rfl, by simp [Hid], Below.refl _ _⟩
 case round =>
  obtain ⟨u, acc, hu, hacc, rfl, rfl, hd, hb⟩ := hrel
  have hlen : 2 * acc.length ≤ n + 2 := by omega
  by_cases hz : 0 < u
  ·have hlen2 : 2 * acc.length ≤ n - u + 1 := by omega
   clear hacc hlen
   have H : Hid (dd n = dd (u / 10) ++ ((48 + UInt8.ofNat (u % 10)) :: acc)) := by show dd n = _; rw [hd.out, dd_step hz]; simp
   have hne : (-(u : Int) != 0) = true := bne_iff_ne.2 (by omega)
   have e2 : (-(u : Int)).tdiv 10 = -((u / 10 : Nat) : Int) := by rw [Int.neg_tdiv]; rfl
   by_cases hm : u % 10 = 0
   ·have e1 : (-(u : Int)).tmod 10 = 0 := by rw [Int.neg_tmod]; show -((u % 10 : Nat) : Int) = 0; omega
    rw [hm] at H
    clear hd hm
    go_wp2_with fail
    go_roundw
    case rel => exact ⟨u / 10, _, by omega, by simp only [List.length_cons]; omega, by go_num, by rw [ba_cons2]; rfl, H.out, hb.alloc hb.size _⟩
    case measure => simp [intOf]; omega
   ·have e1 : (-(u : Int)).tmod 10 = -((u % 10 : Nat) : Int) := by rw [Int.neg_tmod]; rfl
    have e3 : (0 : Int) < (u : Int) % 10 := by omega
    clear hd
    go_wp2_with fail
    go_roundw
    case rel => exact ⟨u / 10, _, by omega, by simp only [List.length_cons]; omega, by go_num, by rw [ba_cons2], H.out, hb.alloc hb.size _⟩
    case measure => simp [intOf]; omega
  ·clear hacc
   obtain rfl : u = 0 := by omega
   have H : Hid (dd n = acc) := by show dd n = _; rw [hd.out]; rfl
   clear hd
   go_wp2_with fail
   go_ret
   exact ⟨ret_string (by rw [HF.out, H.out]; exact ba_cons2 _ _), hb⟩
theorem spec_FormatInt (n : Int) (w : World) (h0 : -9223372036854775808 ≤ n) (h1 : n ≤ 9223372036854775807) :
 Calls Tryz.prog 141 #[.int .i64 n] w fun e w' => e = .returned (.string (formatInt n)) ∧ Below w.heap.size w w' := by
 by_cases hz : n = 0
 ·subst hz
  go_enter Tryz.func141, Tryz.ntmps141
  go_wp2_with fail
  go_ret
  exact ⟨ret_string (by decide +kernel), Below.refl _ _⟩
 ·by_cases hp : 0 < n
  ·obtain ⟨k, rfl⟩ : ∃ k : Nat, n = k := ⟨n.toNat, by omega⟩
   exact spec_FormatInt_pos k w (by omega) (by omega)
  ·obtain ⟨k, rfl⟩ : ∃ k : Nat, n = -(k : Int) := ⟨n.natAbs, by omega⟩
   exact spec_FormatInt_neg k w (by omega) (by omega)
theorem formatInt_size (n : Int) (h0 : -9223372036854775808 ≤ n) (h1 : n ≤ 9223372036854775807) : (formatInt n).size ≤ 40 := by
 have h : ∀ u : Nat, u ≤ 9223372036854775808 → (Lib.decDigits u).length ≤ 20 := fun u hu => by rw [Lib.decDigits_length]; exact Lib.nDigits_le20 u (by omega)
 unfold formatInt Lib.itoa
 split
 ·have := h n.natAbs (by omega); simp [ByteArray.size]; omega
 ·have := h n.toNat (by omega); simp [ByteArray.size]; omega
end Go.Proofs.YtjeomamdlmoghaaGreatDoor
end
section
namespace Go.Proofs.YtjeomamdlmoghaaGreatDoor
def leftOf (left : Int) (b : Nat) : Int := if left < b then -1 else left - b
theorem leftOf_no {left : Int} {b : Nat} (h : left < b) : leftOf left b = -1 := by simp [leftOf, h]
theorem leftOf_yes {left : Int} {b : Nat} (h : ¬ left < b) : leftOf left b = left - b := by simp [leftOf, h]
end Go.Proofs.YtjeomamdlmoghaaGreatDoor
end
section
namespace Go.Proofs.YtjeomamdlmoghaaGreatDoor
open Go.RowKit
inductive CoreT where
 | mk (kind op number line : Int) (text : ByteArray) (kids : List CoreT)
def CoreT.kind : CoreT → Int | .mk k _ _ _ _ _ => k
def CoreT.op : CoreT → Int | .mk _ o _ _ _ _ => o
def CoreT.number : CoreT → Int | .mk _ _ n _ _ _ => n
def CoreT.line : CoreT → Int | .mk _ _ _ l _ _ => l
def CoreT.text : CoreT → ByteArray | .mk _ _ _ _ t _ => t
def CoreT.kids : CoreT → List CoreT | .mk _ _ _ _ _ ks => ks
theorem CoreT.ind {P : CoreT → Prop} (h : ∀ c : CoreT, (∀ x ∈ c.kids, P x) → P c) (c : CoreT) : P c :=
 match c with
 | .mk k o n l t kids => h _ fun x _hx => CoreT.ind h x
termination_by SizeOf.sizeOf c
decreasing_by have := List.sizeOf_lt_of_mem _hx; simp [CoreT.kids] at this ⊢; omega
mutual
def CoreT.dats : CoreT → List Dat
 | .mk k o n l t kids => [.int .i64 k, .int .i64 o, .int .i64 n, .int .i64 l, .str t, .row 6 kids.length (coreDats kids)]
def coreDats : List CoreT → List Dat
 | [] => []
 | c :: cs => c.dats ++ coreDats cs
end
theorem CoreT.dats_eq (c : CoreT) : c.dats = [.int .i64 c.kind, .int .i64 c.op, .int .i64 c.number, .int .i64 c.line, .str c.text, .row 6 c.kids.length (coreDats c.kids)] := by
 cases c; simp only [CoreT.dats, CoreT.kind, CoreT.op, CoreT.number, CoreT.line, CoreT.text, CoreT.kids]
theorem CoreT.dats_len (c : CoreT) : c.dats.length = 6 := by rw [c.dats_eq]; rfl
theorem coreDats_len (l : List CoreT) : (coreDats l).length = l.length * 6 := by
 induction l with
 | nil => simp [coreDats]
 | cons c l ih => simp [coreDats, CoreT.dats_len, ih]; omega
theorem coreDats_app (a b : List CoreT) : coreDats (a ++ b) = coreDats a ++ coreDats b := by
 induction a with
 | nil => simp [coreDats]
 | cons c l ih => simp [coreDats, ih]
theorem coreDats_at {l : List CoreT} {j : Nat} {c : CoreT} (h : l[j]? = some c) : coreDats l = coreDats (l.take j) ++ (c.dats ++ coreDats (l.drop (j + 1))) := by
 obtain ⟨hj, rfl⟩ := List.getElem?_eq_some_iff.1 h
 have e : l = l.take j ++ (l[j] :: l.drop (j + 1)) := by rw [← List.drop_eq_getElem_cons hj, List.take_append_drop]
 conv => lhs; rw [e]
 rw [coreDats_app]
 simp [coreDats]
def CRep (w : World) (lo hi : Nat) (x : Value) (c : CoreT) : Prop := ARep w lo hi c.dats x
def KRep (w : World) (lo hi : Nat) (v : Value) (l : List CoreT) : Prop := Rep w lo hi (.row 6 l.length (coreDats l)) v
section
variable {w w' : World} {lo hi : Nat} {x v : Value} {c : CoreT} {l : List CoreT}
theorem CRep.below {B : Nat} (h : CRep w lo hi x c) (hb : Below B w w') (hB : hi ≤ B) : CRep w' lo hi x c := ARep.below h hb hB
theorem CRep.wide {lo' hi' : Nat} (h : CRep w lo hi x c) (h1 : lo' ≤ lo) (h2 : hi ≤ hi') : CRep w lo' hi' x c := ARep.wide h h1 h2
theorem CRep.same (h : CRep w lo hi x c) (hs : Same w w') : CRep w' lo hi x c := ARep.same h hs
theorem CRep.alloc (h : CRep w lo hi x c) (hB : hi ≤ w.heap.size) (o : Obj) : CRep (w.alloc o) lo hi x c := ARep.alloc h hB o
theorem KRep.below {B : Nat} (h : KRep w lo hi v l) (hb : Below B w w') (hB : hi ≤ B) : KRep w' lo hi v l := Rep.below h hb hB
theorem KRep.wide {lo' hi' : Nat} (h : KRep w lo hi v l) (h1 : lo' ≤ lo) (h2 : hi ≤ hi') : KRep w lo' hi' v l := Rep.wide h h1 h2
theorem KRep.same (h : KRep w lo hi v l) (hs : Same w w') : KRep w' lo hi v l := Rep.same h hs
theorem KRep.alloc (h : KRep w lo hi v l) (hB : hi ≤ w.heap.size) (o : Obj) : KRep (w.alloc o) lo hi v l := Rep.alloc h hB o
theorem KRep.shape (h : KRep w lo hi v l) : ∃ A c, v = .slice A l.length c ∧ l.length ≤ c ∧ c ≤ maxLen := by
 obtain ⟨A, c, h1, h2, h3, -⟩ := Rep.shape h; exact ⟨A, c, h1, h2, h3⟩
theorem CRep.form (h : CRep w lo hi x c) : ∃ A cap, x = .agg #[.int .i64 c.kind, .int .i64 c.op, .int .i64 c.number, .int .i64 c.line, .string c.text, .slice A c.kids.length cap] ∧ KRep w lo hi (.slice A c.kids.length cap) c.kids ∧ c.kids.length ≤ cap ∧ cap ≤ maxLen := by
 obtain ⟨cs, rfl, h1⟩ := h
 rw [c.dats_eq] at h1
 obtain ⟨v0, t0, rfl, a0, h1⟩ := h1.out
 obtain ⟨v1, t1, rfl, a1, h1⟩ := h1.out
 obtain ⟨v2, t2, rfl, a2, h1⟩ := h1.out
 obtain ⟨v3, t3, rfl, a3, h1⟩ := h1.out
 obtain ⟨v4, t4, rfl, a4, h1⟩ := h1.out
 obtain ⟨v5, t5, rfl, a5, h1⟩ := h1.out
 obtain rfl := h1.outNil
 obtain rfl := a0.int_
 obtain rfl := a1.int_
 obtain rfl := a2.int_
 obtain rfl := a3.int_
 obtain rfl := a4.str_
 obtain ⟨A, cap, rfl, g1, g2⟩ := KRep.shape a5
 exact ⟨A, cap, rfl, a5, g1, g2⟩
theorem CRep.mk_ {A : Option Addr} {cap : Nat} (h : KRep w lo hi (.slice A c.kids.length cap) c.kids) : CRep w lo hi (.agg #[.int .i64 c.kind, .int .i64 c.op, .int .i64 c.number, .int .i64 c.line, .string c.text, .slice A c.kids.length cap]) c :=
 ⟨[_, _, _, _, _, _], rfl, by
  rw [c.dats_eq]
  exact .cons_ .mkInt (.cons_ .mkInt (.cons_ .mkInt (.cons_ .mkInt (.cons_ .mkStr (.cons_ h .nil_)))))⟩
theorem KRep.kid {A : Option Addr} {cap j : Nat} (h : KRep w lo hi (.slice A l.length cap) l) (hj : j < l.length) :
 ∃ g off c B d, A = some ⟨g, off, none⟩ ∧ lo ≤ g ∧ g < hi ∧ l[j]? = some c ∧ c ∈ l ∧
  CRep w lo hi (.agg #[.int .i64 c.kind, .int .i64 c.op, .int .i64 c.number, .int .i64 c.line, .string c.text, .slice B c.kids.length d]) c ∧
  w.cell? ⟨g, off + j * 6, none⟩ = some (.int .i64 c.kind) ∧ w.cell? ⟨g, off + j * 6 + 1, none⟩ = some (.int .i64 c.op) ∧ w.cell? ⟨g, off + j * 6 + 2, none⟩ = some (.int .i64 c.number) ∧ w.cell? ⟨g, off + j * 6 + 3, none⟩ = some (.int .i64 c.line) ∧ w.cell? ⟨g, off + j * 6 + 4, none⟩ = some (.string c.text) ∧ w.cell? ⟨g, off + j * 6 + 5, none⟩ = some (.slice B c.kids.length d) := by
 obtain ⟨c, hc⟩ : ∃ c, l[j]? = some c := ⟨_, List.getElem?_eq_getElem hj⟩
 obtain ⟨g, off, us, hA, h1, h2, h3, h4, h5⟩ := Rep.elem h hj (coreDats_at hc) (by rw [coreDats_len, List.length_take]; omega) c.dats_len
 obtain ⟨B, d, hx, h6, -, -⟩ := CRep.form (w := w) (lo := lo) (hi := hi) (c := c) (x := .agg us.toArray) ⟨us, rfl, h4⟩
 injection hx with hx
 obtain rfl : us = [_, _, _, _, _, _] := congrArg Array.toList hx
 exact ⟨g, off, c, B, d, hA, h1, h2, hc, List.mem_of_getElem? hc, CRep.mk_ h6, h5 0 _ rfl, h5 1 _ rfl, h5 2 _ rfl, h5 3 _ rfl, h5 4 _ rfl, h5 5 _ rfl⟩
end
mutual
def CoreT.bulk : CoreT → Nat
 | .mk _ _ _ _ t kids => t.size + (kids.length + bulkL kids)
def bulkL : List CoreT → Nat
 | [] => 0
 | c :: cs => c.bulk + bulkL cs
end
theorem CoreT.bulk_eq (c : CoreT) : c.bulk = c.text.size + (c.kids.length + bulkL c.kids) := by cases c; simp only [CoreT.bulk, CoreT.text, CoreT.kids]
theorem bulkL_app (a b : List CoreT) : bulkL (a ++ b) = bulkL a + bulkL b := by
 induction a with
 | nil => simp [bulkL]
 | cons c l ih => simp [bulkL, ih]; omega
theorem bulkL_snoc {l : List CoreT} {j : Nat} {c : CoreT} (h : l[j]? = some c) : bulkL (l.take (j + 1)) = bulkL (l.take j) + c.bulk := by
 rw [take_snoc_of h, bulkL_app]; simp [bulkL]
theorem bulkL_take_le (l : List CoreT) (j : Nat) : bulkL (l.take j) ≤ bulkL l := by
 have := bulkL_app (l.take j) (l.drop j)
 rw [List.take_append_drop] at this
 omega
inductive CoreT.Fits : CoreT → Prop
 | mk {c : CoreT} (h : c.text.size ≤ 9223372036854775807) (hk : ∀ x ∈ c.kids, x.Fits) : c.Fits
theorem CoreT.Fits.text {c : CoreT} (h : c.Fits) : c.text.size ≤ 9223372036854775807 := by cases h; assumption
theorem CoreT.Fits.kids {c : CoreT} (h : c.Fits) : ∀ x ∈ c.kids, x.Fits := by cases h; assumption
theorem bulk_mem {l : List CoreT} {c : CoreT} (h : c ∈ l) : c.bulk ≤ bulkL l := by
 induction l with
 | nil => cases h
 | cons a l ih =>
   simp only [bulkL]
   rcases List.mem_cons.1 h with rfl | h
   ·omega
   ·have := ih h; omega
end Go.Proofs.YtjeomamdlmoghaaGreatDoor
end
section
namespace Go.Proofs.YtjeomamdlmoghaaGreatDoor
open Go.RowKit
inductive LitT where
 | null
 | int (n : Int)
 | text (s : ByteArray)
 | set (c : CsetT)
def valOf (kind number index : Int) (text : ByteArray) (lo hi : Int) : Value := .agg #[.int .i64 kind, .int .i64 number, .int .i64 index, .string text, .int .i64 lo, .int .i64 hi]
def LitT.val : LitT → Value
 | .null => .agg #[.int .i64 0, .int .i64 0, .int .i64 0, .string ⟨#[]⟩, .int .i64 0, .int .i64 0]
 | .int n => .agg #[.int .i64 1, .int .i64 n, .int .i64 0, .string ⟨#[]⟩, .int .i64 0, .int .i64 0]
 | .text s => .agg #[.int .i64 2, .int .i64 0, .int .i64 0, .string s, .int .i64 0, .int .i64 0]
 | .set c => .agg #[.int .i64 3, .int .i64 0, .int .i64 0, .string ⟨#[]⟩, .int .i64 c.lo.toInt, .int .i64 c.hi.toInt]
theorem cset_inj {c d : CsetT} (h1 : c.lo.toInt = d.lo.toInt) (h2 : c.hi.toInt = d.hi.toInt) : c = d := by
 cases c; cases d
 simp only [CsetT.mk.injEq]
 exact ⟨BitVec.eq_of_toInt_eq h1, BitVec.eq_of_toInt_eq h2⟩
theorem LitT.val_inj {a b : LitT} (h : a.val = b.val) : a = b := by
 cases a <;> cases b <;> simp_all [LitT.val]
 exact cset_inj h.1 h.2
def LitT.Ok : LitT → Prop
 | .null => True
 | .int n => -999999999999 ≤ n ∧ n ≤ 999999999999
 | .text s => s.size ≤ 120
 | .set _ => True
def setOf (s : ByteArray) : Option CsetT := if asciiB s = true then some (newCset s) else none
def LitT.toText : LitT → Option ByteArray
 | .null => none
 | .int n => some (formatInt n)
 | .text s => some s
 | .set c => if (csetText c).size ≤ 120 then some (csetText c) else none
def LitT.toInt : LitT → Option Int
 | .null => none
 | .int n => some n
 | .text s => integerOfText s
 | .set c => if (csetText c).size ≤ 120 then integerOfText (csetText c) else none
def LitT.toSet : LitT → Option CsetT
 | .null => none
 | .int n => setOf (formatInt n)
 | .text s => setOf s
 | .set c => some c
def numR (n : Int) : LitT × Int := if -999999999999 ≤ n ∧ n ≤ 999999999999 then (.int n, 0) else (.null, 203)
def powL (a : Int) : Nat → Int → Option Int
 | 0, n => some n
 | k + 1, n => if 999999999999 < n.natAbs * a.natAbs then none else powL a k (n * a)
def powR (a b : Int) : LitT × Int :=
 if b < 0 ∧ a = 0 then (.null, 201)
 else if a = 1 ∨ a = -1 then (.int (if a = -1 ∧ ¬ b.tmod 2 = 0 then -1 else 1), 0)
 else if b < 0 then (.int 0, 0)
 else if a = 0 ∧ 0 < b then (.int 0, 0)
 else match powL a b.toNat 1 with
  | none => (.null, 203)
  | some n => (.int n, 0)
def arithR (op x y : Int) : LitT × Int :=
 if op = 20 then numR (x + y)
 else if op = 21 then numR (x - y)
 else if op = 22 then (if 999999999999 < x.natAbs * y.natAbs then (.null, 203) else (.int (x * y), 0))
 else if op = 25 then powR x y
 else if y = 0 then (.null, 201)
 else if op = 23 then (.int (x.tdiv y), 0)
 else (.int (x.tmod y), 0)
def holdsB (k s : Int) : Bool :=
 if k = 0 then decide (s < 0) else if k = 1 then decide (s ≤ 0) else if k = 2 then decide (s = 0) else if k = 3 then decide (0 ≤ s) else if k = 4 then decide (0 < s) else decide (¬ s = 0)
def signI (x y : Int) : Int := if x < y then -1 else if y < x then 1 else 0
def cmpS (x y : ByteArray) : Int := Lib.compareBytes x.data.toList y.data.toList
def numsR (op : Int) : Option Int → Option Int → LitT × Int
 | some x, some y => if op ≤ 25 then arithR op x y else if holdsB (op - 30) (signI x y) = true then (.int y, 0) else (.null, -1)
 | _, _ => (.null, 101)
def textsR (op : Int) : Option ByteArray → Option ByteArray → LitT × Int
 | some x, some y => if op = 50 then (if x.size + y.size ≤ 120 then (.text (x ++ y), 0) else (.null, 302)) else if holdsB (op - 40) (cmpS x y) = true then (.text y, 0) else (.null, -1)
 | _, _ => (.null, 103)
def CsetT.or_ (c d : CsetT) : CsetT := ⟨c.lo ||| d.lo, c.hi ||| d.hi⟩
def CsetT.and_ (c d : CsetT) : CsetT := ⟨c.lo &&& d.lo, c.hi &&& d.hi⟩
def CsetT.sub_ (c d : CsetT) : CsetT := ⟨c.lo &&& ~~~ d.lo, c.hi &&& ~~~ d.hi⟩
def CsetT.not_ (c : CsetT) : CsetT := ⟨~~~ c.lo, ~~~ c.hi⟩
def setsR (op : Int) : Option CsetT → Option CsetT → LitT × Int
 | some x, some y => (.set (if op = 52 then x.or_ y else if op = 53 then x.sub_ y else x.and_ y), 0)
 | _, _ => (.null, 104)
open Classical in
noncomputable def binR (op : Int) (a b : LitT) : LitT × Int :=
 if 20 ≤ op ∧ op ≤ 35 then numsR op a.toInt b.toInt
 else if op = 46 ∨ op = 47 then (if (a = b) ↔ (op = 46) then (b, 0) else (.null, -1))
 else if (40 ≤ op ∧ op ≤ 45) ∨ op = 50 then textsR op a.toText b.toText
 else setsR op a.toSet b.toSet
def unR (op : Int) (v : LitT) : LitT × Int :=
 if op = 6 then (match v.toSet with
  | some c => (.set c.not_, 0)
  | none => (.null, 104))
 else (match v.toInt with
  | some n => (.int (if op = 1 then -n else n), 0)
  | none => (.null, 101))
def pairV (r : LitT × Int) : Value := .tuple #[r.1.val, .int .i64 r.2]
def Pair (r : LitT × Int) (w : World) (e : Ending) (w' : World) : Prop := e = .returned (pairV r) ∧ Below w.heap.size w w'
def textV (r : Option ByteArray) : Value := .tuple #[.string (r.getD ⟨#[]⟩), .bool r.isSome]
def setV (r : Option CsetT) : Value := .tuple #[(r.getD ⟨0#64, 0#64⟩).val, .bool r.isSome]
def Gives (v : Value) (w : World) (e : Ending) (w' : World) : Prop := e = .returned v ∧ Below w.heap.size w w'
def litB (c : CoreT) : Bool := decide (1 ≤ c.kind) && decide (c.kind ≤ 4)
def litOf (c : CoreT) : LitT := if c.kind = 1 then .int c.number else if c.kind = 2 then .text c.text else if c.kind = 3 then .set (newCset c.text) else .null
def leafT (kind number line : Int) (text : ByteArray) : CoreT := .mk kind 0 number line text []
def coreOfLit (line : Int) : LitT → CoreT
 | .null => leafT 4 0 line ⟨#[]⟩
 | .int n => leafT 1 n line ⟨#[]⟩
 | .text s => leafT 2 0 line s
 | .set c => leafT 3 0 line (csetText c)
noncomputable def opR (c : CoreT) : LitT × Int :=
 match c.kids with
 | [a] => if c.op = 1 ∨ c.op = 2 ∨ c.op = 6 then unR c.op (litOf a) else (.null, 205)
 | [a, b] => if 20 ≤ c.op ∧ c.op ≤ 54 ∧ ¬ c.op = 51 then binR c.op (litOf a) (litOf b) else (.null, 205)
 | _ => (.null, 205)
noncomputable def foldOp (c : CoreT) : CoreT :=
 if c.kids.all litB = true then (if (opR c).2 = -1 then leafT 28 0 c.line ⟨#[]⟩ else if (opR c).2 = 0 then coreOfLit c.line (opR c).1 else c) else c
def keepB (n : Nat) (i : Nat) (c : CoreT) : Bool := decide (i + 1 = n) || (!litB c && !decide (c.kind = 28))
def keepL (n : Nat) : Nat → List CoreT → List CoreT
 | _, [] => []
 | i, c :: l => if keepB n i c = true then c :: keepL n (i + 1) l else keepL n (i + 1) l
def CoreT.with (c : CoreT) (kids : List CoreT) : CoreT := .mk c.kind c.op c.number c.line c.text kids
def foldBlock (c : CoreT) : CoreT :=
 match keepL c.kids.length 0 c.kids with
 | [x] => x
 | l => c.with l
def foldAlt (c : CoreT) : CoreT :=
 match c.kids with
 | [a, b] => if a.kind = 28 then b else if b.kind = 28 then a else c
 | _ => c
def foldIf (c : CoreT) : CoreT :=
 match c.kids with
 | [a, b, d] => if litB a = true then b else if a.kind = 28 then d else c
 | _ => c
noncomputable def foldNode (c : CoreT) : CoreT :=
 if c.kind = 11 then foldOp c else if c.kind = 13 then foldAlt c else if c.kind = 16 then foldBlock c else if c.kind = 17 then foldIf c else c
mutual
noncomputable def foldT : CoreT → CoreT
 | .mk k o n l t kids => foldNode (.mk k o n l t (foldL kids))
noncomputable def foldL : List CoreT → List CoreT
 | [] => []
 | c :: l => foldT c :: foldL l
end
theorem foldL_map (l : List CoreT) : foldL l = l.map foldT := by
 induction l with
 | nil => simp only [foldL, List.map_nil]
 | cons c l ih => simp only [foldL, List.map_cons, ih]
theorem foldT_eq (c : CoreT) : foldT c = foldNode (c.with (c.kids.map foldT)) := by
 rw [← foldL_map]; cases c; simp only [foldT, CoreT.with, CoreT.kind, CoreT.op, CoreT.number, CoreT.line, CoreT.text, CoreT.kids]
end Go.Proofs.YtjeomamdlmoghaaGreatDoor
end
section
namespace Go.Proofs.YtjeomamdlmoghaaGreatDoor
open Go.RowKit
theorem digVal_bd (s : ByteArray) : ∀ f i acc n j, digVal s f i acc = some n → 0 ≤ acc → acc < 10 ^ j → 0 ≤ n ∧ n < 10 ^ (j + f) := by
 intro f
 induction f with
 | zero => intro i acc n j h h0 h1; simp [digVal] at h; subst h; exact ⟨h0, h1⟩
 | succ f ih =>
   intro i acc n j h h0 h1
   rw [digVal] at h
   split at h
   ·have hp := pow10_succ j
    have := ih _ _ _ (j + 1) h (by omega) (by rw [hp]; omega)
    rw [show j + (f + 1) = j + 1 + f by omega]; exact this
   ·cases h
theorem intRest_bd {s : ByteArray} {z b : Nat} {m : Bool} {n : Int} (h : intRest s z b m = some n) : n.natAbs ≤ 999999999999 := by
 rw [intRest] at h
 split at h
 ·cases h
 ·rename_i hc
  cases hd : digVal s (z - b) b 0 with
  | none => rw [hd] at h; cases h
  | some k =>
    rw [hd] at h
    have hb := digVal_bd s _ _ _ _ 0 hd (by omega) (by decide)
    have hp := pow10 (0 + (z - b)) (by omega)
    simp at h
    split at h <;> omega
theorem integerOfText_bd {s : ByteArray} {n : Int} (h : integerOfText s = some n) : n.natAbs ≤ 999999999999 := by
 unfold integerOfText at h
 dsimp only at h
 split at h
 ·exact intRest_bd h
 ·split at h <;> exact intRest_bd h
theorem spec_l15Abs (x : Int) (w : World) (h0 : -1000000000000000000 ≤ x) (h1 : x ≤ 1000000000000000000) :
 Calls Tryz.prog 142 #[.int .i64 x] w fun e w' => e = .returned (.int .i64 (x.natAbs : Int)) ∧ w = w' := by
 by_cases hx : x < 0
 ·go_enter Tryz.func142, Tryz.ntmps142
  go_wp2
  go_ret
  exact ⟨ret_int (by omega), rfl⟩
 ·go_enter Tryz.func142, Tryz.ntmps142
  go_wp2
  go_ret
  exact ⟨ret_int (by omega), rfl⟩
def compR (n : Int) : Value := if n.natAbs ≤ 999999999999 then .tuple #[.int .i64 n, .int .i64 0] else .tuple #[.int .i64 0, .int .i64 203]
theorem comp_yes {n m : Int} (h : m.natAbs ≤ 999999999999) (e : n = m) : Ending.returned (.tuple #[.int .i64 n, .int .i64 0]) = .returned (compR m) := by rw [compR, if_pos h, e]
theorem comp_no {m : Int} (h : ¬ m.natAbs ≤ 999999999999) : Ending.returned (.tuple #[.int .i64 0, .int .i64 203]) = .returned (compR m) := by rw [compR, if_neg h]
theorem spec_compute_add (a b : Int) (w : World) (ha : a.natAbs ≤ 999999999999) (hb : b.natAbs ≤ 999999999999) :
 Calls Tryz.prog 122 #[.int .i64 20, .int .i64 a, .int .i64 b] w fun e w' => e = .returned (compR (a + b)) ∧ w = w' := by
 have a0 : -999999999999 ≤ a := by omega
 have a1 : a ≤ 999999999999 := by omega
 have b0 : -999999999999 ≤ b := by omega
 have b1 : b ≤ 999999999999 := by omega
 by_cases h1 : a + b ≤ 999999999999
 ·by_cases h2 : -999999999999 ≤ a + b
  ·go_enter Tryz.func122, Tryz.ntmps122
   go_wp2_with fail
   go_ret2
   exact ⟨comp_yes (by omega) rfl, rfl⟩
  ·go_enter Tryz.func122, Tryz.ntmps122
   go_wp2_with fail
   go_ret2
   exact ⟨comp_no (by omega), rfl⟩
 ·go_enter Tryz.func122, Tryz.ntmps122
  go_wp2_with fail
  go_ret2
  exact ⟨comp_no (by omega), rfl⟩
theorem spec_compute_sub (a b : Int) (w : World) (ha : a.natAbs ≤ 999999999999) (hb : b.natAbs ≤ 999999999999) :
 Calls Tryz.prog 122 #[.int .i64 21, .int .i64 a, .int .i64 b] w fun e w' => e = .returned (compR (a - b)) ∧ w = w' := by
 have a0 : -999999999999 ≤ a := by omega
 have a1 : a ≤ 999999999999 := by omega
 have b0 : -999999999999 ≤ b := by omega
 have b1 : b ≤ 999999999999 := by omega
 by_cases h1 : a - b ≤ 999999999999
 ·by_cases h2 : -999999999999 ≤ a - b
  ·go_enter Tryz.func122, Tryz.ntmps122
   go_wp2_with fail
   go_ret2
   exact ⟨comp_yes (by omega) rfl, rfl⟩
  ·go_enter Tryz.func122, Tryz.ntmps122
   go_wp2_with fail
   go_ret2
   exact ⟨comp_no (by omega), rfl⟩
 ·go_enter Tryz.func122, Tryz.ntmps122
  go_wp2_with fail
  go_ret2
  exact ⟨comp_no (by omega), rfl⟩
theorem mul_small {a b : Int} (ha0 : a ≠ 0) : ((a * b).natAbs ≤ 999999999999) ↔ ¬ ((999999999999 : Int) / (a.natAbs : Int) < (b.natAbs : Int)) := by
 have hp : 0 < a.natAbs := by omega
 rw [Int.natAbs_mul]
 have h1 : ((999999999999 : Int) / (a.natAbs : Int)) = ((999999999999 / a.natAbs : Nat) : Int) := by simp
 rw [h1]
 have h2 := Nat.le_div_iff_mul_le hp (x := b.natAbs) (y := 999999999999)
 rw [Nat.mul_comm] at h2
 omega
theorem spec_compute_mul (a b : Int) (w : World) (ha : a.natAbs ≤ 999999999999) (hb : b.natAbs ≤ 999999999999) :
 Calls Tryz.prog 122 #[.int .i64 22, .int .i64 a, .int .i64 b] w fun e w' => e = .returned (compR (a * b)) ∧ w = w' := by
 have a0 : -999999999999 ≤ a := by omega
 have a1 : a ≤ 999999999999 := by omega
 have b0 : -999999999999 ≤ b := by omega
 have b1 : b ≤ 999999999999 := by omega
 by_cases hz : a = 0
 ·subst hz
  go_enter Tryz.func122, Tryz.ntmps122
  go_wp2_with fail
  go_ret2
  exact ⟨comp_yes (by simp) (by simp), rfl⟩
 ·have hm := mul_small (b := b) hz
  have hzb : (a != 0) = true := by simpa using hz
  have hp : 0 < a.natAbs := by omega
  by_cases hc : (999999999999 : Int) / (a.natAbs : Int) < (b.natAbs : Int)
  ·have hN : ¬ (a * b).natAbs ≤ 999999999999 := fun h => hm.1 h hc
   clear hm
   go_enter Tryz.func122, Tryz.ntmps122
   go_wp2_with fail
   refine (spec_l15Abs b _ (by omega) (by omega)).mono ?_; rintro e w' ⟨rfl, rfl⟩
   go_wp2_with fail
   refine (spec_l15Abs a _ (by omega) (by omega)).mono ?_; rintro e w' ⟨rfl, rfl⟩
   go_wp2_with fail
   go_ret2
   exact ⟨comp_no hN, rfl⟩
  ·have hN : (a * b).natAbs ≤ 999999999999 := hm.2 hc
   have n0 : -999999999999 ≤ a * b := by omega
   have n1 : a * b ≤ 999999999999 := by omega
   clear hm
   go_enter Tryz.func122, Tryz.ntmps122
   go_wp2_with fail
   refine (spec_l15Abs b _ (by omega) (by omega)).mono ?_; rintro e w' ⟨rfl, rfl⟩
   go_wp2_with fail
   refine (spec_l15Abs a _ (by omega) (by omega)).mono ?_; rintro e w' ⟨rfl, rfl⟩
   go_wp2_with fail
   go_ret2
   exact ⟨comp_yes hN rfl, rfl⟩
theorem impl_abs (x : Int) (w : World) (h0 : -1000000000000000000 ≤ x) (h1 : x ≤ 1000000000000000000) :
 Calls Tryz.prog 155 #[.int .i64 x] w fun e w' => e = .returned (.int .i64 (x.natAbs : Int)) ∧ w = w' := by
 by_cases hx : x < 0
 ·go_enter Tryz.func155, Tryz.ntmps155
  go_wp2
  go_ret
  exact ⟨ret_int (by omega), rfl⟩
 ·go_enter Tryz.func155, Tryz.ntmps155
  go_wp2
  go_ret
  exact ⟨ret_int (by omega), rfl⟩
theorem mul64_any (x y : Nat) (hx : x < 18446744073709551616) (hy : y < 18446744073709551616) (w : World) :
 Calls Tryz.prog 154 #[.int .u64 x, .int .u64 y] w fun e w' => e = .returned (.tuple #[.int .u64 ((x * y / 18446744073709551616 : Nat) : Int), .int .u64 ((x * y % 18446744073709551616 : Nat) : Int)]) ∧ w = w' := by
 obtain ⟨bd, bt, bw, hhi⟩ := Lib.mul64_hi x y hx hy
 have ba := Lib.half_mul_le (a := x / 4294967296) (b := y / 4294967296) (by omega) (by omega)
 have bb := Lib.half_mul_le (a := x / 4294967296) (b := y % 4294967296) (by omega) (by omega)
 have bc := Lib.half_mul_le (a := x % 4294967296) (b := y / 4294967296) (by omega) (by omega)
 have ba' : x / 4294967296 * (y / 4294967296) < 18446744073709551616 := by omega
 have bb' : x / 4294967296 * (y % 4294967296) < 18446744073709551616 := by omega
 have bc' : x % 4294967296 * (y / 4294967296) < 18446744073709551616 := by omega
 have bh1 : x / 4294967296 * (y / 4294967296) + (x / 4294967296 * (y % 4294967296) + x % 4294967296 * (y % 4294967296) / 4294967296) / 4294967296 < 18446744073709551616 := by omega
 have bh : x / 4294967296 * (y / 4294967296) + (x / 4294967296 * (y % 4294967296) + x % 4294967296 * (y % 4294967296) / 4294967296) / 4294967296 + ((x / 4294967296 * (y % 4294967296) + x % 4294967296 * (y % 4294967296) / 4294967296) % 4294967296 + x % 4294967296 * (y / 4294967296)) / 4294967296 < 18446744073709551616 := by omega
 go_enter Tryz.func154, Tryz.ntmps154
 go_wp2
 simp only [Mul64.maskN x hx, Mul64.maskN y hy, Mul64.divN, Mul64.mulN, Mul64.addN, Mul64.wrapN _ bd, Mul64.wrapN _ bb', Mul64.wrapN _ bt, Mul64.maskN _ bt, Mul64.wrapN _ bc', Mul64.wrapN _ bw, Mul64.wrapN _ ba', Mul64.wrapN _ bh1, Mul64.wrapN _ bh, Mul64.wrapM (x * y)]
 rw [hhi]
 go_ret2
 exact ⟨rfl, rfl⟩
def prodR (a b : Int) : Option Int := if (a * b).natAbs ≤ 999999999999 then some (a * b) else none
theorem impl_product (a b : Int) (w : World) (ha : a.natAbs ≤ 999999999999) (hb : b.natAbs ≤ 999999999999) :
 Calls Tryz.prog 148 #[.int .i64 a, .int .i64 b] w fun e w' => e = .returned (pairOf (prodR a b)) ∧ w = w' := by
 have a0 : (a.natAbs : Int) ≤ 999999999999 := by omega
 have b0 : (b.natAbs : Int) ≤ 999999999999 := by omega
 have a1 : (0 : Int) ≤ (a.natAbs : Int) := by omega
 have b1 : (0 : Int) ≤ (b.natAbs : Int) := by omega
 have hmul := Int.natAbs_mul a b
 by_cases hq : (a * b).natAbs ≤ 999999999999
 ·have n0 : -999999999999 ≤ a * b := by omega
  have n1 : a * b ≤ 999999999999 := by omega
  have HR : Hid (prodR a b = some (a * b)) := by show prodR a b = _; rw [prodR, if_pos hq]
  have q1 : a.natAbs * b.natAbs / 18446744073709551616 = 0 := by rw [← hmul]; omega
  have q2 : a.natAbs * b.natAbs % 18446744073709551616 ≤ 999999999999 := by rw [← hmul]; omega
  clear hmul
  go_enter Tryz.func148, Tryz.ntmps148
  go_wp2_with fail
  refine (impl_abs a _ (by omega) (by omega)).mono ?_; rintro e w' ⟨rfl, rfl⟩
  go_wp2_with fail
  refine (impl_abs b _ (by omega) (by omega)).mono ?_; rintro e w' ⟨rfl, rfl⟩
  go_wp2_with fail
  refine (mul64_any _ _ (by omega) (by omega) _).mono ?_
  rw [q1]
  generalize a.natAbs * b.natAbs % 18446744073709551616 = lo at *
  clear q1
  rintro e w' ⟨rfl, rfl⟩
  go_wp2_with fail
  go_ret2
  exact ⟨pair_some HR.out rfl, rfl⟩
 ·have HR : Hid (prodR a b = none) := by show prodR a b = _; rw [prodR, if_neg hq]
  by_cases hl : a.natAbs * b.natAbs < 18446744073709551616
  ·have q1 : a.natAbs * b.natAbs / 18446744073709551616 = 0 := by omega
   have q2 : 999999999999 < a.natAbs * b.natAbs % 18446744073709551616 := by rw [← hmul] at hl ⊢; omega
   clear hmul hq hl
   go_enter Tryz.func148, Tryz.ntmps148
   go_wp2_with fail
   refine (impl_abs a _ (by omega) (by omega)).mono ?_; rintro e w' ⟨rfl, rfl⟩
   go_wp2_with fail
   refine (impl_abs b _ (by omega) (by omega)).mono ?_; rintro e w' ⟨rfl, rfl⟩
   go_wp2_with fail
   refine (mul64_any _ _ (by omega) (by omega) _).mono ?_
   rw [q1]
   generalize a.natAbs * b.natAbs % 18446744073709551616 = lo at *
   clear q1
   rintro e w' ⟨rfl, rfl⟩
   go_wp2_with fail
   go_ret2
   exact ⟨pair_none HR.out, rfl⟩
  ·have q1 : 0 < a.natAbs * b.natAbs / 18446744073709551616 := by omega
   clear hmul hq hl
   go_enter Tryz.func148, Tryz.ntmps148
   go_wp2_with fail
   refine (impl_abs a _ (by omega) (by omega)).mono ?_; rintro e w' ⟨rfl, rfl⟩
   go_wp2_with fail
   refine (impl_abs b _ (by omega) (by omega)).mono ?_; rintro e w' ⟨rfl, rfl⟩
   go_wp2_with fail
   refine (mul64_any _ _ (by omega) (by omega) _).mono ?_
   generalize a.natAbs * b.natAbs % 18446744073709551616 = lo at *
   generalize a.natAbs * b.natAbs / 18446744073709551616 = hi at *
   have hne : ((hi : Int) != 0) = true := bne_iff_ne.2 (by omega)
   rintro e w' ⟨rfl, rfl⟩
   go_wp2_with fail
   go_ret2
   exact ⟨pair_none HR.out, rfl⟩
end Go.Proofs.YtjeomamdlmoghaaGreatDoor
end
