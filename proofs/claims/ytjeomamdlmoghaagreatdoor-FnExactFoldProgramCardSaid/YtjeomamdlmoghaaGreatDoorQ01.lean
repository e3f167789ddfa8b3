/- IntegerOfText of the reference and of the program return the same pair, by integerOfText. -/
import Derived.Test.YtjeomamdlmoghaaGreatDoorQ00
import Derived.Test.YtjeomamdlmoghaaGreatDoorProg
import Derived.Deep.DeepCutAuto
import Derived.Deep.LoopGhost
import Derived.Deep.CutBlock
set_option maxRecDepth 100000
set_option maxHeartbeats 8000000
set_option linter.unusedVariables false
set_option linter.unusedSimpArgs false
section
namespace Go.Proofs.YtjeomamdlmoghaaGreatDoor
open Go.RowKit
def leadSp (s : ByteArray) : Nat → Nat → Nat
 | 0, i => i
 | f + 1, i => if i < s.size ∧ byteAt s i = 32 then leadSp s f (i + 1) else i
def trailSp (s : ByteArray) (a : Nat) : Nat → Nat → Nat
 | 0, z => z
 | f + 1, z => if a < z ∧ byteAt s (z - 1) = 32 then trailSp s a f (z - 1) else z
def digVal (s : ByteArray) : Nat → Nat → Int → Option Int
 | 0, _, acc => some acc
 | f + 1, i, acc => if 48 ≤ byteAt s i ∧ byteAt s i ≤ 57 then digVal s f (i + 1) (10 * acc + ((byteAt s i : Int) - 48)) else none
def intRest (s : ByteArray) (z b : Nat) (minus : Bool) : Option Int :=
 if z < b + 1 ∨ b + 12 < z then none else (digVal s (z - b) b 0).map fun n => if minus then -n else n
def integerOfText (s : ByteArray) : Option Int :=
 let a := leadSp s s.size 0
 let z := trailSp s a s.size s.size
 if a < z ∧ byteAt s a = 43 then intRest s z (a + 1) false
 else if a < z ∧ byteAt s a = 45 then intRest s z (a + 1) true
 else intRest s z a false
def pairOf (r : Option Int) : Value := .tuple #[.int .i64 (r.getD 0), .bool r.isSome]
theorem pair_none {r : Option Int} (h : r = none) : Ending.returned (.tuple #[.int .i64 0, .bool false]) = .returned (pairOf r) := by rw [h]; rfl
theorem pair_some {r : Option Int} {n m : Int} (h : r = some m) (e : n = m) : Ending.returned (.tuple #[.int .i64 n, .bool true]) = .returned (pairOf r) := by rw [h, e]; rfl
theorem lead_yes {s : ByteArray} {k : Nat} (h : leadSp s s.size 0 = leadSp s (s.size - k) k) (hk : k < s.size) (hb : byteAt s k = 32) : leadSp s s.size 0 = leadSp s (s.size - (k + 1)) (k + 1) := by
 rw [h, show s.size - k = (s.size - (k + 1)) + 1 by omega, leadSp, if_pos ⟨hk, hb⟩]
theorem lead_no {s : ByteArray} {k : Nat} (h : leadSp s s.size 0 = leadSp s (s.size - k) k) (hk : k < s.size) (hb : ¬ byteAt s k = 32) : leadSp s s.size 0 = k := by
 rw [h, show s.size - k = (s.size - (k + 1)) + 1 by omega, leadSp, if_neg (fun h => hb h.2)]
theorem lead_end {s : ByteArray} {k : Nat} (h : leadSp s s.size 0 = leadSp s (s.size - k) k) (hk : ¬ k < s.size) : leadSp s s.size 0 = k := by
 rw [h, show s.size - k = 0 by omega, leadSp]
theorem trail_yes {s : ByteArray} {a k : Nat} (h : trailSp s a s.size s.size = trailSp s a k k) (hk : a < k) (hb : byteAt s (k - 1) = 32) : trailSp s a s.size s.size = trailSp s a (k - 1) (k - 1) := by
 obtain ⟨j, rfl⟩ : ∃ j, k = j + 1 := ⟨k - 1, by omega⟩
 rw [h, trailSp, if_pos ⟨hk, hb⟩]; rfl
theorem trail_no {s : ByteArray} {a k : Nat} (h : trailSp s a s.size s.size = trailSp s a k k) (hb : ¬ (a < k ∧ byteAt s (k - 1) = 32)) : trailSp s a s.size s.size = k := by
 rw [h]
 cases k with
 | zero => rfl
 | succ j => rw [trailSp, if_neg hb]
theorem dig_yes {s : ByteArray} {z b k : Nat} {acc : Int} (h : digVal s (z - b) b 0 = digVal s (z - k) k acc) (hk : k < z) (h1 : 48 ≤ byteAt s k) (h2 : byteAt s k ≤ 57) :
 digVal s (z - b) b 0 = digVal s (z - (k + 1)) (k + 1) (10 * acc + ((byteAt s k : Int) - 48)) := by
 rw [h, show z - k = (z - (k + 1)) + 1 by omega, digVal, if_pos ⟨h1, h2⟩]
theorem dig_no {s : ByteArray} {z b k : Nat} {acc : Int} (h : digVal s (z - b) b 0 = digVal s (z - k) k acc) (hk : k < z) (h1 : ¬ (48 ≤ byteAt s k ∧ byteAt s k ≤ 57)) : digVal s (z - b) b 0 = none := by
 rw [h, show z - k = (z - (k + 1)) + 1 by omega, digVal, if_neg h1]
theorem dig_end {s : ByteArray} {z b k : Nat} {acc : Int} (h : digVal s (z - b) b 0 = digVal s (z - k) k acc) (hk : ¬ k < z) : digVal s (z - b) b 0 = some acc := by
 rw [h, show z - k = 0 by omega, digVal]
theorem pow10 (m : Nat) (h : m ≤ 12) : (0 : Int) < 10 ^ m ∧ (10 : Int) ^ m ≤ 1000000000000 := by
 match m, h with
 | 0, _ => decide
 | 1, _ => decide
 | 2, _ => decide
 | 3, _ => decide
 | 4, _ => decide
 | 5, _ => decide
 | 6, _ => decide
 | 7, _ => decide
 | 8, _ => decide
 | 9, _ => decide
 | 10, _ => decide
 | 11, _ => decide
 | 12, _ => decide
theorem pow10_succ (m : Nat) : (10 : Int) ^ (m + 1) = 10 * 10 ^ m := by rw [Int.pow_succ, Int.mul_comm]
theorem int_is {s : ByteArray} {a z : Nat} (ha : leadSp s s.size 0 = a) (hz : trailSp s a s.size s.size = z) : integerOfText s = if a < z ∧ byteAt s a = 43 then intRest s z (a + 1) false
 else if a < z ∧ byteAt s a = 45 then intRest s z (a + 1) true else intRest s z a false := by
 subst ha hz; rfl
theorem rest_none {s : ByteArray} {z b : Nat} {m : Bool} (h : z < b + 1 ∨ b + 12 < z) : intRest s z b m = none := by rw [intRest, if_pos h]
theorem rest_bad {s : ByteArray} {z b : Nat} {m : Bool} (h : digVal s (z - b) b 0 = none) : intRest s z b m = none := by rw [intRest]; split <;> simp [h]
theorem rest_some {s : ByteArray} {z b : Nat} {m : Bool} {n : Int} (h0 : ¬ (z < b + 1 ∨ b + 12 < z)) (h : digVal s (z - b) b 0 = some n) : intRest s z b m = some (if m then -n else n) := by rw [intRest, if_neg h0, h]; rfl
theorem byteAt_lt (s : ByteArray) (k : Nat) : byteAt s k ≤ 255 := by have := (s.data.toList.getD k 0).toNat_lt; unfold byteAt; omega
theorem impl_IntegerOfText (s : ByteArray) (w : World) (hs : s.size ≤ 9223372036854775807) :
 Calls Tryz.prog 128 #[.string s] w fun e w' => e = .returned (pairOf (integerOfText s)) ∧ w = w' := by
 go_enter Tryz.func128, Tryz.ntmps128
 go_upto_block 0 with fail
 go_cut [4] (fun v wx => ∃ a : Nat, a ≤ s.size ∧ v = .int .i64 a ∧ Hid (leadSp s s.size 0 = a) ∧ wx = w)
 case first =>
  go_wp2_with fail
  go_loop [4] (fun i => ∃ k : Nat, k ≤ s.size ∧ i = .int .i64 k ∧ Hid (leadSp s s.size 0 = leadSp s (s.size - k) k)) (fun i => s.size - (intOf i).toNat)
  case atStart => exact ⟨0, Nat.zero_le _, rfl, rfl⟩
  case round =>
   obtain ⟨k, hk, rfl, hl⟩ := hrel
   by_cases hlt : k < s.size
   ·have hby := byteAt_eq s k hlt
    by_cases h32 : (s[k].toNat : Int) = 32
    ·have H := Lib.hid (lead_yes hl.out hlt (by omega))
     clear hl hby
     go_wp2_with fail
     go_round
     case rel => exact ⟨k + 1, by omega, by go_num, H.out⟩
     case measure => simp [intOf]; omega
    ·have H := Lib.hid (lead_no hl.out hlt (by omega))
     clear hl hby
     go_wp2_with fail
     go_meet
     exact ⟨k, hk, rfl, H.out, rfl⟩
   ·have H := Lib.hid (lead_end hl.out hlt)
    clear hl
    go_wp2_with fail
    go_meet
    exact ⟨k, hk, rfl, H.out, rfl⟩
 case rest =>
  obtain ⟨a, ha, rfl, HA, rfl⟩ := hcut
  go_upto_block 2 with fail
  go_cut [5] (fun v wx => ∃ z : Nat, a ≤ z ∧ z ≤ s.size ∧ v = .int .i64 z ∧ Hid (trailSp s a s.size s.size = z) ∧ wx = wc)
  case first =>
   go_wp2_with fail
   go_loop [5] (fun i => ∃ k : Nat, a ≤ k ∧ k ≤ s.size ∧ i = .int .i64 k ∧ Hid (trailSp s a s.size s.size = trailSp s a k k)) (fun i => (intOf i).toNat)
   case atStart => exact ⟨s.size, ha, Nat.le_refl _, rfl, rfl⟩
   case round =>
    obtain ⟨k, hak, hk, rfl, hl⟩ := hrel
    by_cases hlt : a < k
    ·have hk1 : k - 1 < s.size := by omega
     have hby := byteAt_eq s (k - 1) hk1
     have hn1 : ((k : Int) - 1).toNat = k - 1 := by omega
     by_cases h32 : (s[k - 1].toNat : Int) = 32
     ·have H := Lib.hid (trail_yes hl.out hlt (by omega))
      clear hl hby
      go_wp2_with fail
      go_round
      case rel => exact ⟨k - 1, by omega, by omega, by go_num, H.out⟩
      case measure => simp [intOf]; omega
     ·have H := Lib.hid (trail_no hl.out (by omega))
      clear hl hby
      go_wp2_with fail
      go_meet
      exact ⟨k, hak, hk, rfl, H.out, rfl⟩
    ·have H := Lib.hid (trail_no hl.out (by omega))
     clear hl
     go_wp2_with fail
     go_meet
     exact ⟨k, hak, hk, rfl, H.out, rfl⟩
  case rest =>
   obtain ⟨z, haz, hz, rfl, HZ, rfl⟩ := hcut
   have hs63 : s.size ≤ 9223372036854775807 := hs
   by_cases h1 : a < z
   ·have has : a < s.size := by omega
    have hby := byteAt_eq s a has
    by_cases h43 : (s[a].toNat : Int) = 43
    ·have hB : byteAt s a = 43 := by omega
     clear hby
     have HI := Lib.hid (show integerOfText s = intRest s z (a + 1) false from by rw [int_is HA.out HZ.out, if_pos ⟨h1, hB⟩])
     clear HA HZ
     by_cases hr : z < (a + 1) + 1
     ·go_wp2_with fail
      all_goals (go_ret2; exact ⟨pair_none (by rw [HI.out, rest_none (.inl hr)]), rfl⟩)
     by_cases hr2 : (a + 1) + 12 < z
     ·go_wp2_with fail
      go_ret2
      exact ⟨pair_none (by rw [HI.out, rest_none (.inr hr2)]), rfl⟩
     go_wp2_with fail
     go_loop [4, 7] (fun i n => ∃ (k : Nat) (acc : Int), (a + 1) ≤ k ∧ k ≤ z ∧ i = .int .i64 k ∧ n = .int .i64 acc ∧ 0 ≤ acc ∧ acc < 10 ^ (k - (a + 1)) ∧ Hid (digVal s (z - (a + 1)) (a + 1) 0 = digVal s (z - k) k acc)) (fun i _ => z - (intOf i).toNat)
     case atStart => exact ⟨a + 1, 0, Nat.le_refl _, by omega, by go_num, rfl, by omega, by simp, rfl⟩
     case round =>
      obtain ⟨k, acc, hbk, hkz, rfl, rfl, hacc0, hacc1, hd⟩ := hrel
      have hp := pow10 (k - (a + 1)) (by omega)
      by_cases hlt : k < z
      ·have hks : k < s.size := by omega
       have hby := byteAt_eq s k hks
       have hp1 := pow10_succ (k - (a + 1))
       rw [show k - (a + 1) + 1 = k + 1 - (a + 1) by omega] at hp1
       generalize hP : (10 : Int) ^ (k - (a + 1)) = P at *
       have HP1 := Lib.hid hp1
       clear hP hp1
       have hc255 := byteAt_lt s k
       rw [hby] at hc255
       by_cases h48 : s[k].toNat < 48
       ·have H := Lib.hid (dig_no hd.out hlt (by omega))
        clear hd hby
        go_wp2_with fail
        go_ret2
        exact ⟨pair_none (by rw [HI.out, rest_bad H.out]), rfl⟩
       by_cases h57 : 57 < s[k].toNat
       ·have H := Lib.hid (dig_no hd.out hlt (by omega))
        clear hd hby
        go_wp2_with fail
        go_ret2
        exact ⟨pair_none (by rw [HI.out, rest_bad H.out]), rfl⟩
       have H := Lib.hid (dig_yes hd.out hlt (by omega) (by omega))
       rw [hby] at H
       clear hd hby
       go_wp2_with fail
       go_round
       case rel => exact ⟨k + 1, 10 * acc + ((s[k].toNat : Int) - 48), by omega, by omega, by go_num, by go_num, by omega, by rw [HP1.out]; omega, H.out⟩
       case measure => simp [intOf]; omega
      ·have H := Lib.hid (dig_end hd.out hlt)
       clear hd
       go_wp2_with fail
       go_ret2
       exact ⟨pair_some (by rw [HI.out, rest_some (by omega) H.out]) (by simp), rfl⟩
    ·by_cases h45 : (s[a].toNat : Int) = 45
     ·have hB : byteAt s a = 45 := by omega
      have hC : ¬ byteAt s a = 43 := by omega
      clear hby
      have HI := Lib.hid (show integerOfText s = intRest s z (a + 1) true from by rw [int_is HA.out HZ.out, if_neg (fun h => hC h.2), if_pos ⟨h1, hB⟩])
      clear HA HZ
      by_cases hr : z < (a + 1) + 1
      ·go_wp2_with fail
       all_goals (go_ret2; exact ⟨pair_none (by rw [HI.out, rest_none (.inl hr)]), rfl⟩)
      by_cases hr2 : (a + 1) + 12 < z
      ·go_wp2_with fail
       go_ret2
       exact ⟨pair_none (by rw [HI.out, rest_none (.inr hr2)]), rfl⟩
      go_wp2_with fail
      go_loop [4, 7] (fun i n => ∃ (k : Nat) (acc : Int), (a + 1) ≤ k ∧ k ≤ z ∧ i = .int .i64 k ∧ n = .int .i64 acc ∧ 0 ≤ acc ∧ acc < 10 ^ (k - (a + 1)) ∧ Hid (digVal s (z - (a + 1)) (a + 1) 0 = digVal s (z - k) k acc)) (fun i _ => z - (intOf i).toNat)
      case atStart => exact ⟨a + 1, 0, Nat.le_refl _, by omega, by go_num, rfl, by omega, by simp, rfl⟩
      case round =>
       obtain ⟨k, acc, hbk, hkz, rfl, rfl, hacc0, hacc1, hd⟩ := hrel
       have hp := pow10 (k - (a + 1)) (by omega)
       by_cases hlt : k < z
       ·have hks : k < s.size := by omega
        have hby := byteAt_eq s k hks
        have hp1 := pow10_succ (k - (a + 1))
        rw [show k - (a + 1) + 1 = k + 1 - (a + 1) by omega] at hp1
        generalize hP : (10 : Int) ^ (k - (a + 1)) = P at *
        have HP1 := Lib.hid hp1
        clear hP hp1
        have hc255 := byteAt_lt s k
        rw [hby] at hc255
        by_cases h48 : s[k].toNat < 48
        ·have H := Lib.hid (dig_no hd.out hlt (by omega))
         clear hd hby
         go_wp2_with fail
         go_ret2
         exact ⟨pair_none (by rw [HI.out, rest_bad H.out]), rfl⟩
        by_cases h57 : 57 < s[k].toNat
        ·have H := Lib.hid (dig_no hd.out hlt (by omega))
         clear hd hby
         go_wp2_with fail
         go_ret2
         exact ⟨pair_none (by rw [HI.out, rest_bad H.out]), rfl⟩
        have H := Lib.hid (dig_yes hd.out hlt (by omega) (by omega))
        rw [hby] at H
        clear hd hby
        go_wp2_with fail
        go_round
        case rel => exact ⟨k + 1, 10 * acc + ((s[k].toNat : Int) - 48), by omega, by omega, by go_num, by go_num, by omega, by rw [HP1.out]; omega, H.out⟩
        case measure => simp [intOf]; omega
       ·have H := Lib.hid (dig_end hd.out hlt)
        clear hd
        go_wp2_with fail
        go_ret2
        exact ⟨pair_some (by rw [HI.out, rest_some (by omega) H.out]) (by simp), rfl⟩
     ·have hb43 : ((s[a].toNat : Int) == 43) = false := beq_eq_false_iff_ne.2 h43
      have hb45 : ((s[a].toNat : Int) == 45) = false := beq_eq_false_iff_ne.2 h45
      have hB : ¬ byteAt s a = 45 := by omega
      have hC : ¬ byteAt s a = 43 := by omega
      clear hby
      have HI := Lib.hid (show integerOfText s = intRest s z (a) false from by rw [int_is HA.out HZ.out, if_neg (fun h => hC h.2), if_neg (fun h => hB h.2)])
      clear HA HZ
      by_cases hr : z < (a) + 1
      ·go_wp2_with fail
       all_goals (go_ret2; exact ⟨pair_none (by rw [HI.out, rest_none (.inl hr)]), rfl⟩)
      by_cases hr2 : (a) + 12 < z
      ·go_wp2_with fail
       go_ret2
       exact ⟨pair_none (by rw [HI.out, rest_none (.inr hr2)]), rfl⟩
      go_wp2_with fail
      go_loop [4, 7] (fun i n => ∃ (k : Nat) (acc : Int), (a) ≤ k ∧ k ≤ z ∧ i = .int .i64 k ∧ n = .int .i64 acc ∧ 0 ≤ acc ∧ acc < 10 ^ (k - (a)) ∧ Hid (digVal s (z - (a)) (a) 0 = digVal s (z - k) k acc)) (fun i _ => z - (intOf i).toNat)
      case atStart => exact ⟨a, 0, Nat.le_refl _, by omega, by go_num, rfl, by omega, by simp, rfl⟩
      case round =>
       obtain ⟨k, acc, hbk, hkz, rfl, rfl, hacc0, hacc1, hd⟩ := hrel
       have hp := pow10 (k - (a)) (by omega)
       by_cases hlt : k < z
       ·have hks : k < s.size := by omega
        have hby := byteAt_eq s k hks
        have hp1 := pow10_succ (k - (a))
        rw [show k - (a) + 1 = k + 1 - (a) by omega] at hp1
        generalize hP : (10 : Int) ^ (k - (a)) = P at *
        have HP1 := Lib.hid hp1
        clear hP hp1
        have hc255 := byteAt_lt s k
        rw [hby] at hc255
        by_cases h48 : s[k].toNat < 48
        ·have H := Lib.hid (dig_no hd.out hlt (by omega))
         clear hd hby
         go_wp2_with fail
         go_ret2
         exact ⟨pair_none (by rw [HI.out, rest_bad H.out]), rfl⟩
        by_cases h57 : 57 < s[k].toNat
        ·have H := Lib.hid (dig_no hd.out hlt (by omega))
         clear hd hby
         go_wp2_with fail
         go_ret2
         exact ⟨pair_none (by rw [HI.out, rest_bad H.out]), rfl⟩
        have H := Lib.hid (dig_yes hd.out hlt (by omega) (by omega))
        rw [hby] at H
        clear hd hby
        go_wp2_with fail
        go_round
        case rel => exact ⟨k + 1, 10 * acc + ((s[k].toNat : Int) - 48), by omega, by omega, by go_num, by go_num, by omega, by rw [HP1.out]; omega, H.out⟩
        case measure => simp [intOf]; omega
       ·have H := Lib.hid (dig_end hd.out hlt)
        clear hd
        go_wp2_with fail
        go_ret2
        exact ⟨pair_some (by rw [HI.out, rest_some (by omega) H.out]) (by simp), rfl⟩
   ·have HI := Lib.hid (show integerOfText s = intRest s z a false from by rw [int_is HA.out HZ.out, if_neg (fun h => h1 h.1), if_neg (fun h => h1 h.1)])
    clear HA HZ
    go_wp2_with fail
    go_ret2
    exact ⟨pair_none (by rw [HI.out, rest_none (.inl (by omega))]), rfl⟩
theorem spec_IntegerOfText (s : ByteArray) (w : World) (hs : s.size ≤ 9223372036854775807) :
 Calls Tryz.prog 119 #[.string s] w fun e w' => e = .returned (pairOf (integerOfText s)) ∧ w = w' := by
 go_enter Tryz.func119, Tryz.ntmps119
 go_upto_block 0 with fail
 go_cut [4] (fun v wx => ∃ a : Nat, a ≤ s.size ∧ v = .int .i64 a ∧ Hid (leadSp s s.size 0 = a) ∧ wx = w)
 case first =>
  go_wp2_with fail
  go_loop [4] (fun i => ∃ k : Nat, k ≤ s.size ∧ i = .int .i64 k ∧ Hid (leadSp s s.size 0 = leadSp s (s.size - k) k)) (fun i => s.size - (intOf i).toNat)
  case atStart => exact ⟨0, Nat.zero_le _, rfl, rfl⟩
  case round =>
   obtain ⟨k, hk, rfl, hl⟩ := hrel
   by_cases hlt : k < s.size
   ·have hby := byteAt_eq s k hlt
    by_cases h32 : (s[k].toNat : Int) = 32
    ·have H := Lib.hid (lead_yes hl.out hlt (by omega))
     clear hl hby
     go_wp2_with fail
     go_round
     case rel => exact ⟨k + 1, by omega, by go_num, H.out⟩
     case measure => simp [intOf]; omega
    ·have H := Lib.hid (lead_no hl.out hlt (by omega))
     clear hl hby
     go_wp2_with fail
     go_meet
     exact ⟨k, hk, rfl, H.out, rfl⟩
   ·have H := Lib.hid (lead_end hl.out hlt)
    clear hl
    go_wp2_with fail
    go_meet
    exact ⟨k, hk, rfl, H.out, rfl⟩
 case rest =>
  obtain ⟨a, ha, rfl, HA, rfl⟩ := hcut
  go_upto_block 2 with fail
  go_cut [5] (fun v wx => ∃ z : Nat, a ≤ z ∧ z ≤ s.size ∧ v = .int .i64 z ∧ Hid (trailSp s a s.size s.size = z) ∧ wx = wc)
  case first =>
   go_wp2_with fail
   go_loop [5] (fun i => ∃ k : Nat, a ≤ k ∧ k ≤ s.size ∧ i = .int .i64 k ∧ Hid (trailSp s a s.size s.size = trailSp s a k k)) (fun i => (intOf i).toNat)
   case atStart => exact ⟨s.size, ha, Nat.le_refl _, rfl, rfl⟩
   case round =>
    obtain ⟨k, hak, hk, rfl, hl⟩ := hrel
    by_cases hlt : a < k
    ·have hk1 : k - 1 < s.size := by omega
     have hby := byteAt_eq s (k - 1) hk1
     have hn1 : ((k : Int) - 1).toNat = k - 1 := by omega
     by_cases h32 : (s[k - 1].toNat : Int) = 32
     ·have H := Lib.hid (trail_yes hl.out hlt (by omega))
      clear hl hby
      go_wp2_with fail
      go_round
      case rel => exact ⟨k - 1, by omega, by omega, by go_num, H.out⟩
      case measure => simp [intOf]; omega
     ·have H := Lib.hid (trail_no hl.out (by omega))
      clear hl hby
      go_wp2_with fail
      go_meet
      exact ⟨k, hak, hk, rfl, H.out, rfl⟩
    ·have H := Lib.hid (trail_no hl.out (by omega))
     clear hl
     go_wp2_with fail
     go_meet
     exact ⟨k, hak, hk, rfl, H.out, rfl⟩
  case rest =>
   obtain ⟨z, haz, hz, rfl, HZ, rfl⟩ := hcut
   have hs63 : s.size ≤ 9223372036854775807 := hs
   by_cases h1 : a < z
   ·have has : a < s.size := by omega
    have hby := byteAt_eq s a has
    by_cases h43 : (s[a].toNat : Int) = 43
    ·have hB : byteAt s a = 43 := by omega
     clear hby
     have HI := Lib.hid (show integerOfText s = intRest s z (a + 1) false from by rw [int_is HA.out HZ.out, if_pos ⟨h1, hB⟩])
     clear HA HZ
     by_cases hr : z < (a + 1) + 1
     ·go_wp2_with fail
      all_goals (go_ret2; exact ⟨pair_none (by rw [HI.out, rest_none (.inl hr)]), rfl⟩)
     by_cases hr2 : (a + 1) + 12 < z
     ·go_wp2_with fail
      go_ret2
      exact ⟨pair_none (by rw [HI.out, rest_none (.inr hr2)]), rfl⟩
     go_wp2_with fail
     go_loop [4, 7] (fun i n => ∃ (k : Nat) (acc : Int), (a + 1) ≤ k ∧ k ≤ z ∧ i = .int .i64 k ∧ n = .int .i64 acc ∧ 0 ≤ acc ∧ acc < 10 ^ (k - (a + 1)) ∧ Hid (digVal s (z - (a + 1)) (a + 1) 0 = digVal s (z - k) k acc)) (fun i _ => z - (intOf i).toNat)
     case atStart => exact ⟨a + 1, 0, Nat.le_refl _, by omega, by go_num, rfl, by omega, by simp, rfl⟩
     case round =>
      obtain ⟨k, acc, hbk, hkz, rfl, rfl, hacc0, hacc1, hd⟩ := hrel
      have hp := pow10 (k - (a + 1)) (by omega)
      by_cases hlt : k < z
      ·have hks : k < s.size := by omega
       have hby := byteAt_eq s k hks
       have hp1 := pow10_succ (k - (a + 1))
       rw [show k - (a + 1) + 1 = k + 1 - (a + 1) by omega] at hp1
       generalize hP : (10 : Int) ^ (k - (a + 1)) = P at *
       have HP1 := Lib.hid hp1
       clear hP hp1
       have hc255 := byteAt_lt s k
       rw [hby] at hc255
       by_cases h48 : s[k].toNat < 48
       ·have H := Lib.hid (dig_no hd.out hlt (by omega))
        clear hd hby
        go_wp2_with fail
        go_ret2
        exact ⟨pair_none (by rw [HI.out, rest_bad H.out]), rfl⟩
       by_cases h57 : 57 < s[k].toNat
       ·have H := Lib.hid (dig_no hd.out hlt (by omega))
        clear hd hby
        go_wp2_with fail
        go_ret2
        exact ⟨pair_none (by rw [HI.out, rest_bad H.out]), rfl⟩
       have H := Lib.hid (dig_yes hd.out hlt (by omega) (by omega))
       rw [hby] at H
       clear hd hby
       go_wp2_with fail
       go_round
       case rel => exact ⟨k + 1, 10 * acc + ((s[k].toNat : Int) - 48), by omega, by omega, by go_num, by go_num, by omega, by rw [HP1.out]; omega, H.out⟩
       case measure => simp [intOf]; omega
      ·have H := Lib.hid (dig_end hd.out hlt)
       clear hd
       go_wp2_with fail
       go_ret2
       exact ⟨pair_some (by rw [HI.out, rest_some (by omega) H.out]) (by simp), rfl⟩
    ·by_cases h45 : (s[a].toNat : Int) = 45
     ·have hB : byteAt s a = 45 := by omega
      have hC : ¬ byteAt s a = 43 := by omega
      clear hby
      have HI := Lib.hid (show integerOfText s = intRest s z (a + 1) true from by rw [int_is HA.out HZ.out, if_neg (fun h => hC h.2), if_pos ⟨h1, hB⟩])
      clear HA HZ
      by_cases hr : z < (a + 1) + 1
      ·go_wp2_with fail
       all_goals (go_ret2; exact ⟨pair_none (by rw [HI.out, rest_none (.inl hr)]), rfl⟩)
      by_cases hr2 : (a + 1) + 12 < z
      ·go_wp2_with fail
       go_ret2
       exact ⟨pair_none (by rw [HI.out, rest_none (.inr hr2)]), rfl⟩
      go_wp2_with fail
      go_loop [4, 7] (fun i n => ∃ (k : Nat) (acc : Int), (a + 1) ≤ k ∧ k ≤ z ∧ i = .int .i64 k ∧ n = .int .i64 acc ∧ 0 ≤ acc ∧ acc < 10 ^ (k - (a + 1)) ∧ Hid (digVal s (z - (a + 1)) (a + 1) 0 = digVal s (z - k) k acc)) (fun i _ => z - (intOf i).toNat)
      case atStart => exact ⟨a + 1, 0, Nat.le_refl _, by omega, by go_num, rfl, by omega, by simp, rfl⟩
      case round =>
       obtain ⟨k, acc, hbk, hkz, rfl, rfl, hacc0, hacc1, hd⟩ := hrel
       have hp := pow10 (k - (a + 1)) (by omega)
       by_cases hlt : k < z
       ·have hks : k < s.size := by omega
        have hby := byteAt_eq s k hks
        have hp1 := pow10_succ (k - (a + 1))
        rw [show k - (a + 1) + 1 = k + 1 - (a + 1) by omega] at hp1
        generalize hP : (10 : Int) ^ (k - (a + 1)) = P at *
        have HP1 := Lib.hid hp1
        clear hP hp1
        have hc255 := byteAt_lt s k
        rw [hby] at hc255
        by_cases h48 : s[k].toNat < 48
        ·have H := Lib.hid (dig_no hd.out hlt (by omega))
         clear hd hby
         go_wp2_with fail
         go_ret2
         exact ⟨pair_none (by rw [HI.out, rest_bad H.out]), rfl⟩
        by_cases h57 : 57 < s[k].toNat
        ·have H := Lib.hid (dig_no hd.out hlt (by omega))
         clear hd hby
         go_wp2_with fail
         go_ret2
         exact ⟨pair_none (by rw [HI.out, rest_bad H.out]), rfl⟩
        have H := Lib.hid (dig_yes hd.out hlt (by omega) (by omega))
        rw [hby] at H
        clear hd hby
        go_wp2_with fail
        go_round
        case rel => exact ⟨k + 1, 10 * acc + ((s[k].toNat : Int) - 48), by omega, by omega, by go_num, by go_num, by omega, by rw [HP1.out]; omega, H.out⟩
        case measure => simp [intOf]; omega
       ·have H := Lib.hid (dig_end hd.out hlt)
        clear hd
        go_wp2_with fail
        go_ret2
        exact ⟨pair_some (by rw [HI.out, rest_some (by omega) H.out]) (by simp), rfl⟩
     ·have hb43 : ((s[a].toNat : Int) == 43) = false := beq_eq_false_iff_ne.2 h43
      have hb45 : ((s[a].toNat : Int) == 45) = false := beq_eq_false_iff_ne.2 h45
      have hB : ¬ byteAt s a = 45 := by omega
      have hC : ¬ byteAt s a = 43 := by omega
      clear hby
      have HI := Lib.hid (show integerOfText s = intRest s z (a) false from by rw [int_is HA.out HZ.out, if_neg (fun h => hC h.2), if_neg (fun h => hB h.2)])
      clear HA HZ
      by_cases hr : z < (a) + 1
      ·go_wp2_with fail
       all_goals (go_ret2; exact ⟨pair_none (by rw [HI.out, rest_none (.inl hr)]), rfl⟩)
      by_cases hr2 : (a) + 12 < z
      ·go_wp2_with fail
       go_ret2
       exact ⟨pair_none (by rw [HI.out, rest_none (.inr hr2)]), rfl⟩
      go_wp2_with fail
      go_loop [4, 7] (fun i n => ∃ (k : Nat) (acc : Int), (a) ≤ k ∧ k ≤ z ∧ i = .int .i64 k ∧ n = .int .i64 acc ∧ 0 ≤ acc ∧ acc < 10 ^ (k - (a)) ∧ Hid (digVal s (z - (a)) (a) 0 = digVal s (z - k) k acc)) (fun i _ => z - (intOf i).toNat)
      case atStart => exact ⟨a, 0, Nat.le_refl _, by omega, by go_num, rfl, by omega, by simp, rfl⟩
      case round =>
       obtain ⟨k, acc, hbk, hkz, rfl, rfl, hacc0, hacc1, hd⟩ := hrel
       have hp := pow10 (k - (a)) (by omega)
       by_cases hlt : k < z
       ·have hks : k < s.size := by omega
        have hby := byteAt_eq s k hks
        have hp1 := pow10_succ (k - (a))
        rw [show k - (a) + 1 = k + 1 - (a) by omega] at hp1
        generalize hP : (10 : Int) ^ (k - (a)) = P at *
        have HP1 := Lib.hid hp1
        clear hP hp1
        have hc255 := byteAt_lt s k
        rw [hby] at hc255
        by_cases h48 : s[k].toNat < 48
        ·have H := Lib.hid (dig_no hd.out hlt (by omega))
         clear hd hby
         go_wp2_with fail
         go_ret2
         exact ⟨pair_none (by rw [HI.out, rest_bad H.out]), rfl⟩
        by_cases h57 : 57 < s[k].toNat
        ·have H := Lib.hid (dig_no hd.out hlt (by omega))
         clear hd hby
         go_wp2_with fail
         go_ret2
         exact ⟨pair_none (by rw [HI.out, rest_bad H.out]), rfl⟩
        have H := Lib.hid (dig_yes hd.out hlt (by omega) (by omega))
        rw [hby] at H
        clear hd hby
        go_wp2_with fail
        go_round
        case rel => exact ⟨k + 1, 10 * acc + ((s[k].toNat : Int) - 48), by omega, by omega, by go_num, by go_num, by omega, by rw [HP1.out]; omega, H.out⟩
        case measure => simp [intOf]; omega
       ·have H := Lib.hid (dig_end hd.out hlt)
        clear hd
        go_wp2_with fail
        go_ret2
        exact ⟨pair_some (by rw [HI.out, rest_some (by omega) H.out]) (by simp), rfl⟩
   ·have HI := Lib.hid (show integerOfText s = intRest s z a false from by rw [int_is HA.out HZ.out, if_neg (fun h => h1 h.1), if_neg (fun h => h1 h.1)])
    clear HA HZ
    go_wp2_with fail
    go_ret2
    exact ⟨pair_none (by rw [HI.out, rest_none (.inl (by omega))]), rfl⟩
end Go.Proofs.YtjeomamdlmoghaaGreatDoor
end
