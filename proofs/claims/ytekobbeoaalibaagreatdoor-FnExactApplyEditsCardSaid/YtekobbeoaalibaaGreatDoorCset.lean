/- Sets of characters of the reference: l2Add, HasByte. -/
import Derived.Test.YtekobbeoaalibaaGreatDoorProg
import Derived.Test.YtekobbeoaalibaaGreatDoorDat
import Derived.Laws.BitsLemmas
namespace Go.Proofs.YtekobbeoaalibaaGreatDoor
open Go.RowKit

theorem wrap_bv (v : BitVec 64) : IntKind.i64.wrap (v.toNat : Int) = v.toInt := by
  rw [IntKind.wrap_i64, BitVec.toInt_eq_toNat_cond]
  have := v.isLt
  split <;> omega
theorem bits_or_bv (u v : BitVec 64) : bits .or .i64 u.toInt v.toInt = (u ||| v).toInt := by
  rw [← wrap_bv (u ||| v)]
  simp only [bits, IntKind.bits, BitVec.ofInt_toInt]
  rfl
theorem bits_and_bv (u v : BitVec 64) : bits .and .i64 u.toInt v.toInt = (u &&& v).toInt := by
  rw [← wrap_bv (u &&& v)]
  simp only [bits, IntKind.bits, BitVec.ofInt_toInt]
  rfl
theorem wrap_pow (b : Nat) (h : b ≤ 63) : wrap64 (2 ^ b) = (BitVec.twoPow 64 b).toInt := by
  have h1 : (2 : Nat) ^ b < 2 ^ 64 := Nat.pow_lt_pow_right (by decide) (by omega)
  rw [← wrap_bv, BitVec.toNat_twoPow, Nat.mod_eq_of_lt h1]
  rw [IntKind.wrap_i64, show (((2 ^ b : Nat)) : Int) = 2 ^ b by simp]
  simp only [wrap64]
structure CsetT where
  lo : BitVec 64
  hi : BitVec 64
def CsetT.val (c : CsetT) : Value := .agg #[.int .i64 c.lo.toInt, .int .i64 c.hi.toInt]
def CsetT.add (c : CsetT) (b : Nat) : CsetT := if b ≤ 63 then ⟨c.lo ||| BitVec.twoPow 64 b, c.hi⟩ else ⟨c.lo, c.hi ||| BitVec.twoPow 64 (b - 64)⟩
def CsetT.has (c : CsetT) (b : Nat) : Bool := if b ≤ 63 then c.lo.getLsbD b else c.hi.getLsbD (b - 64)
theorem CsetT.has_add (c : CsetT) (b j : Nat) (hb : b ≤ 127) (hj : j ≤ 127) : (c.add b).has j = (c.has j || decide (j = b)) := by
  unfold CsetT.add CsetT.has
  by_cases h1 : b ≤ 63 <;> by_cases h2 : j ≤ 63 <;> simp [h1, h2, BitVec.getLsbD_twoPow] <;> (try omega)
  all_goals (first | (congr 1; rw [Bool.eq_iff_iff]; simp; omega) | (intro h; omega))
theorem and_pow (u : BitVec 64) (b : Nat) (h : b ≤ 63) : (bits .and .i64 u.toInt (wrap64 (2 ^ b)) != 0) = u.getLsbD b := by
  rw [wrap_pow b h, bits_and_bv, BitVec.and_twoPow]
  cases hb : u.getLsbD b with
  | false => simp
  | true =>
    simp only [if_true]
    rw [bne_iff_ne]
    intro h0
    have : BitVec.twoPow 64 b = 0#64 := by apply BitVec.eq_of_toInt_eq; rw [h0]; rfl
    have h2 := congrArg BitVec.toNat this
    rw [BitVec.toNat_twoPow] at h2
    have h1 : (2 : Nat) ^ b < 2 ^ 64 := Nat.pow_lt_pow_right (by decide) (by omega)
    rw [Nat.mod_eq_of_lt h1] at h2
    have := Nat.two_pow_pos b
    simp at h2

set_option maxRecDepth 100000 in
theorem spec_l2Add (c : CsetT) (b : Nat) (w : World) (hb : b ≤ 127) :
    Calls Tryz.prog 134 #[c.val, .int .u8 b] w fun e w' => e = .returned (c.add b).val ∧ Below w.heap.size w w' := by
  by_cases h : b ≤ 63
  · have HE : Hid (bits .or .i64 c.lo.toInt (wrap64 (2 ^ b)) = (c.lo ||| BitVec.twoPow 64 b).toInt) := by show _ = _; rw [wrap_pow b h, bits_or_bv]
    have HA : Hid ((c.add b).val = .agg #[.int .i64 (c.lo ||| BitVec.twoPow 64 b).toInt, .int .i64 c.hi.toInt]) := by show _ = _; rw [CsetT.add, if_pos h]; rfl
    unfold CsetT.val
    go_enter Tryz.func134, Tryz.ntmps134
    go_wp2_with fail
    refine bodyPost_ret (v := .agg #[.int .i64 (bits .or .i64 c.lo.toInt (wrap64 (2 ^ b))), .int .i64 c.hi.toInt]) ?_ rfl ⟨?_, ((Below.refl _ _).alloc (Nat.le_refl _) _).alloc (by simp) _⟩
    · simp [results, Tryz.results134, go_sem]
    · rw [HE.out]; exact congrArg _ HA.out.symm
  · obtain ⟨d, rfl⟩ : ∃ d : Nat, b = d + 64 := ⟨b - 64, by omega⟩
    have HE : Hid (bits .or .i64 c.hi.toInt (wrap64 (2 ^ d)) = (c.hi ||| BitVec.twoPow 64 d).toInt) := by show _ = _; rw [wrap_pow d (by omega), bits_or_bv]
    have HA : Hid ((c.add (d + 64)).val = .agg #[.int .i64 c.lo.toInt, .int .i64 (c.hi ||| BitVec.twoPow 64 d).toInt]) := by show _ = _; rw [CsetT.add, if_neg h, Nat.add_sub_cancel]; rfl
    unfold CsetT.val
    go_enter Tryz.func134, Tryz.ntmps134
    go_wp2_with fail
    refine bodyPost_ret (v := .agg #[.int .i64 c.lo.toInt, .int .i64 (bits .or .i64 c.hi.toInt (wrap64 (2 ^ d)))]) ?_ rfl ⟨?_, ((Below.refl _ _).alloc (Nat.le_refl _) _).alloc (by simp) _⟩
    · simp [results, Tryz.results134, go_sem]
    · rw [HE.out]; exact congrArg _ HA.out.symm
set_option maxRecDepth 100000 in
theorem spec_HasByte (c : CsetT) (b : Nat) (w : World) (hb : b ≤ 127) :
    Calls Tryz.prog 135 #[c.val, .int .u8 b] w fun e w' => e = .returned (.bool (c.has b)) ∧ Below w.heap.size w w' := by
  by_cases h : b ≤ 63
  · have HE : Hid ((bits .and .i64 c.lo.toInt (wrap64 (2 ^ b)) != 0) = c.has b) := by show _ = _; rw [and_pow _ b h, CsetT.has, if_pos h]
    unfold CsetT.val
    go_enter Tryz.func135, Tryz.ntmps135
    go_wp2_with fail
    go_ret
    exact ⟨ret_bool HE.out, (Below.refl _ _).alloc (Nat.le_refl _) _⟩
  · obtain ⟨d, rfl⟩ : ∃ d : Nat, b = d + 64 := ⟨b - 64, by omega⟩
    have HE : Hid ((bits .and .i64 c.hi.toInt (wrap64 (2 ^ d)) != 0) = c.has (d + 64)) := by show _ = _; rw [and_pow _ d (by omega), CsetT.has, if_neg h, Nat.add_sub_cancel]
    unfold CsetT.val
    go_enter Tryz.func135, Tryz.ntmps135
    go_wp2_with fail
    go_ret
    exact ⟨ret_bool HE.out, (Below.refl _ _).alloc (Nat.le_refl _) _⟩
end Go.Proofs.YtekobbeoaalibaaGreatDoor
