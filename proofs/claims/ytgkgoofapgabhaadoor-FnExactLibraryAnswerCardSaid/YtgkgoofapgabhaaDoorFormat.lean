/- FormatInt of the reference: the decimal numeral, Lib.itoa. -/
import Derived.Test.YtgkgoofapgabhaaDoorProg
import Derived.Test.YtgkgoofapgabhaaDoorMem
import Derived.Lib.ItoaNum
import Derived.Lib.ItoaMem
import Derived.Lib.ItoaLen
namespace Go.Proofs.YtgkgoofapgabhaaDoor
open Go.RowKit

def dd (u : Nat) : List UInt8 := if u = 0 then [] else Lib.decDigits u
theorem ofNat_48 (x : Nat) : UInt8.ofNat (48 + x) = 48 + UInt8.ofNat x := by
  rw [UInt8.ofNat_add]; rfl
theorem dd_step {u : Nat} (h : 0 < u) : dd u = dd (u / 10) ++ [48 + UInt8.ofNat (u % 10)] := by
  rw [dd, if_neg (by omega), Lib.decDigits]
  split
  · rename_i hlt
    rw [dd, if_pos (by omega), ofNat_48, Nat.mod_eq_of_lt hlt]; rfl
  · rw [dd, if_neg (by omega), ofNat_48]
theorem dd_pos {u : Nat} (h : 0 < u) : Lib.decDigits u = dd u := by rw [dd, if_neg (by omega)]
theorem ba_cons2 (x : UInt8) (acc : List UInt8) : (⟨#[x]⟩ : ByteArray) ++ ⟨acc.toArray⟩ = ⟨(x :: acc).toArray⟩ := by
  apply ByteArray.ext; simp
def formatInt (n : Int) : ByteArray := ⟨(Lib.itoa n).toArray⟩

set_option maxRecDepth 100000 in
set_option maxHeartbeats 1000000 in
theorem spec_FormatInt_pos (n : Nat) (w : World) (h0 : 0 < n) (h1 : n ≤ 9223372036854775807) :
    Calls Tryd.prog 32 #[.int .i64 n] w fun e w' => e = .returned (.string (formatInt n)) ∧ Below w.heap.size w w' := by
  have hn0 : ((n : Int) == 0) = false := beq_eq_false_iff_ne.2 (by omega)
  have hn1 : decide ((n : Int) < 0) = false := decide_eq_false (by omega)
  have hcv := run_convert_byte1 (P := Tryd.prog) 66 9 5 Tryd.underlying66 Tryd.underlying5 Tryd.underlying9
  have HF : Hid (formatInt n = ⟨(dd n).toArray⟩) := by show formatInt n = _; rw [formatInt, Lib.itoa_nonneg, dd_pos h0]
  go_enter Tryd.func32, Tryd.ntmps32
  go_wp2_with fail
  go_loopw [0, 4] (fun i s wr => ∃ (u : Nat) (acc : List UInt8), u ≤ n ∧ ((0 < u ∧ 2 * acc.length ≤ n - u + 1) ∨ (u = 0 ∧ 2 * acc.length ≤ n + 2)) ∧ i = .int .i64 u ∧ s = .string ⟨acc.toArray⟩ ∧ Hid (dd n = dd u ++ acc) ∧ Below w.heap.size w wr) (fun i _ _ => (intOf i).toNat)
  case atStart => exact ⟨n, [], Nat.le_refl _, .inl ⟨h0, by simp⟩, rfl, rfl, by simp [Hid], Below.refl _ _⟩
  case round =>
    obtain ⟨u, acc, hu, hacc, rfl, rfl, hd, hb⟩ := hrel
    have hlen : 2 * acc.length ≤ n + 2 := by omega
    by_cases hz : 0 < u
    · have hlen2 : 2 * acc.length ≤ n - u + 1 := by omega
      clear hacc hlen
      have H : Hid (dd n = dd (u / 10) ++ ((48 + UInt8.ofNat (u % 10)) :: acc)) := by show dd n = _; rw [hd.out, dd_step hz]; simp
      have hne : ((u : Int) != 0) = true := bne_iff_ne.2 (by omega)
      clear hd
      go_wp2_with fail
      go_roundw
      case rel => exact ⟨u / 10, _, by omega, by simp only [List.length_cons]; omega, by go_num, by rw [ba_cons2], H.out, hb.alloc hb.size _⟩
      case measure => simp [intOf]; omega
    · clear hacc
      obtain rfl : u = 0 := by omega
      have H : Hid (dd n = acc) := by show dd n = _; rw [hd.out]; rfl
      clear hd
      go_wp2_with fail
      go_ret
      exact ⟨ret_string (by rw [HF.out, H.out]), hb⟩

set_option maxRecDepth 100000 in
set_option maxHeartbeats 1000000 in
theorem spec_FormatInt_neg (n : Nat) (w : World) (h0 : 0 < n) (h1 : n ≤ 9223372036854775808) :
    Calls Tryd.prog 32 #[.int .i64 (-(n : Int))] w fun e w' => e = .returned (.string (formatInt (-(n : Int)))) ∧ Below w.heap.size w w' := by
  have hn0 : (-(n : Int) == 0) = false := beq_eq_false_iff_ne.2 (by omega)
  have hn1 : decide (-(n : Int) < 0) = true := decide_eq_true (by omega)
  have hcv := run_convert_byte1 (P := Tryd.prog) 66 9 5 Tryd.underlying66 Tryd.underlying5 Tryd.underlying9
  have HF : Hid (formatInt (-(n : Int)) = ⟨(45 :: dd n).toArray⟩) := by show formatInt _ = _; rw [formatInt, Lib.itoa_neg n h0, dd_pos h0]
  go_enter Tryd.func32, Tryd.ntmps32
  go_wp2_with fail
  go_loopw [0, 4] (fun i s wr => ∃ (u : Nat) (acc : List UInt8), u ≤ n ∧ ((0 < u ∧ 2 * acc.length ≤ n - u + 1) ∨ (u = 0 ∧ 2 * acc.length ≤ n + 2)) ∧ i = .int .i64 (-(u : Int)) ∧ s = .string ⟨acc.toArray⟩ ∧ Hid (dd n = dd u ++ acc) ∧ Below w.heap.size w wr) (fun i _ _ => (-(intOf i)).toNat)
  case atStart => exact ⟨n, [], Nat.le_refl _, .inl ⟨h0, by simp⟩, rfl, rfl, by simp [Hid], Below.refl _ _⟩
  case round =>
    obtain ⟨u, acc, hu, hacc, rfl, rfl, hd, hb⟩ := hrel
    have hlen : 2 * acc.length ≤ n + 2 := by omega
    by_cases hz : 0 < u
    · have hlen2 : 2 * acc.length ≤ n - u + 1 := by omega
      clear hacc hlen
      have H : Hid (dd n = dd (u / 10) ++ ((48 + UInt8.ofNat (u % 10)) :: acc)) := by show dd n = _; rw [hd.out, dd_step hz]; simp
      have hne : (-(u : Int) != 0) = true := bne_iff_ne.2 (by omega)
      have e2 : (-(u : Int)).tdiv 10 = -((u / 10 : Nat) : Int) := by rw [Int.neg_tdiv]; rfl
      by_cases hm : u % 10 = 0
      · have e1 : (-(u : Int)).tmod 10 = 0 := by rw [Int.neg_tmod]; show -((u % 10 : Nat) : Int) = 0; omega
        rw [hm] at H
        clear hd hm
        go_wp2_with fail
        go_roundw
        case rel => exact ⟨u / 10, _, by omega, by simp only [List.length_cons]; omega, by go_num, by rw [ba_cons2]; rfl, H.out, hb.alloc hb.size _⟩
        case measure => simp [intOf]; omega
      · have e1 : (-(u : Int)).tmod 10 = -((u % 10 : Nat) : Int) := by rw [Int.neg_tmod]; rfl
        have e3 : (0 : Int) < (u : Int) % 10 := by omega
        clear hd
        go_wp2_with fail
        go_roundw
        case rel => exact ⟨u / 10, _, by omega, by simp only [List.length_cons]; omega, by go_num, by rw [ba_cons2], H.out, hb.alloc hb.size _⟩
        case measure => simp [intOf]; omega
    · clear hacc
      obtain rfl : u = 0 := by omega
      have H : Hid (dd n = acc) := by show dd n = _; rw [hd.out]; rfl
      clear hd
      go_wp2_with fail
      go_ret
      exact ⟨ret_string (by rw [HF.out, H.out]; exact ba_cons2 _ _), hb⟩

set_option maxRecDepth 100000 in
theorem spec_FormatInt (n : Int) (w : World) (h0 : -9223372036854775808 ≤ n) (h1 : n ≤ 9223372036854775807) :
    Calls Tryd.prog 32 #[.int .i64 n] w fun e w' => e = .returned (.string (formatInt n)) ∧ Below w.heap.size w w' := by
  by_cases hz : n = 0
  · subst hz
    go_enter Tryd.func32, Tryd.ntmps32
    go_wp2_with fail
    go_ret
    exact ⟨ret_string (by decide +kernel), Below.refl _ _⟩
  · by_cases hp : 0 < n
    · obtain ⟨k, rfl⟩ : ∃ k : Nat, n = k := ⟨n.toNat, by omega⟩
      exact spec_FormatInt_pos k w (by omega) (by omega)
    · obtain ⟨k, rfl⟩ : ∃ k : Nat, n = -(k : Int) := ⟨n.natAbs, by omega⟩
      exact spec_FormatInt_neg k w (by omega) (by omega)
theorem formatInt_size (n : Int) (h0 : -9223372036854775808 ≤ n) (h1 : n ≤ 9223372036854775807) : (formatInt n).size ≤ 40 := by
  have h : ∀ u : Nat, u ≤ 9223372036854775808 → (Lib.decDigits u).length ≤ 20 := fun u hu => by rw [Lib.decDigits_length]; exact Lib.nDigits_le20 u (by omega)
  unfold formatInt Lib.itoa
  split
  · have := h n.natAbs (by omega); simp [ByteArray.size]; omega
  · have := h n.toNat (by omega); simp [ByteArray.size]; omega
end Go.Proofs.YtgkgoofapgabhaaDoor
