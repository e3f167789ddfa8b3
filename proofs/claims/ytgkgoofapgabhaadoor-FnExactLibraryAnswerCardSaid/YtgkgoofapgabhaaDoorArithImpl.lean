/- ArithmeticOf of the program: the calculator's methods. -/
import Derived.Test.YtgkgoofapgabhaaDoorProg
import Derived.Test.YtgkgoofapgabhaaDoorArithSpec
import Derived.Deep.RegionHeld3
import Derived.Shelf.Bits.Mul64
namespace Go.Proofs.YtgkgoofapgabhaaDoor
open Go.RowKit

/-- the calculator in block g: its text and its place -/
def Calc (w : World) (g : Nat) (s : ByteArray) (a : Int) : Prop := Blk w g 94 #[.string s, .int .i64 a]
theorem Calc.blk {w : World} {g : Nat} {s : ByteArray} {a : Int} (h : Calc w g s a) : Blk w g 94 #[.string s, .int .i64 a] := h
theorem Calc.c0 {w : World} {g : Nat} {s : ByteArray} {a : Int} (h : Calc w g s a) : w.cell? ⟨g, 0, none⟩ = some (.string s) := h.blk.cell 0
theorem Calc.c1 {w : World} {g : Nat} {s : ByteArray} {a : Int} (h : Calc w g s a) : w.cell? ⟨g, 1, none⟩ = some (.int .i64 a) := h.blk.cell 1
theorem Calc.f1 {w : World} {g : Nat} {s : ByteArray} {a : Int} (h : Calc w g s a) : w.frozen? ⟨g, 1, none⟩ = false := h.blk.frozen 1
theorem Calc.drewN {w : World} {g : Nat} {s : ByteArray} {a : Int} (h : Calc w g s a) (n : Nat) : Calc (w.drewN n) g s a := h
theorem Calc.put {w : World} {g : Nat} {s : ByteArray} {a : Int} (h : Calc w g s a) (b : Int) : Calc (w.setCell ⟨g, 1, none⟩ (.int .i64 b)) g s b := h.blk.set_ 1 _
theorem only_set {a w : World} {g : Nat} (h : a.grownBy w (some g)) (i : Nat) (u : Value) : a.grownBy (w.setCell ⟨g, i, none⟩ u) (some g) :=
  ⟨h.os, h.tape, h.output, by simpa [World.setCell] using h.size, fun k hk hne => (Below.heap_setCell w ⟨g, i, none⟩ u k (by rintro rfl; exact hne rfl)).trans (h.block k hk hne)⟩

set_option maxRecDepth 100000 in
set_option maxHeartbeats 1000000 in
theorem take_yes (w : World) (g : Nat) (s : ByteArray) (a c : Nat) (h : Calc w g s a) (hs : s.size ≤ 12) (ha : a < s.size) (hc : byteAt s a = c) :
    Calls Tryd.prog 105 #[.pointer (some ⟨g, 0, none⟩), .int .u8 c] w fun e w' => e = .returned (.bool true) ∧ Calc w' g s ((a : Int) + 1) ∧ w.grownBy w' (some g) := by
  have hb : (s[a].toNat : Int) = c := by rw [← byteAt_eq s a ha, hc]
  have h0 := h.c0
  have h1 := h.c1
  have h2 := h.f1
  have e0 : (0 : Int) ≤ (a : Int) := by omega
  have e1 : (a : Int) < (s.size : Int) := by omega
  clear hc
  go_enter Tryd.func105, Tryd.ntmps105
  go_wp2_with fail
  go_quiet (fail)
  go_wp2_with fail
  go_ret
  exact ⟨rfl, (h.drewN _).put _, only_set (grown_drewN (World.grownBy.refl _ _) _) _ _⟩

set_option maxRecDepth 100000 in
set_option maxHeartbeats 1000000 in
theorem take_no (w : World) (g : Nat) (s : ByteArray) (a c : Nat) (h : Calc w g s a) (_hs : s.size ≤ 12) (_ha : a ≤ s.size) (hc : ¬ (a < s.size ∧ byteAt s a = c)) :
    Calls Tryd.prog 105 #[.pointer (some ⟨g, 0, none⟩), .int .u8 c] w fun e w' => e = .returned (.bool false) ∧ Calc w' g s a ∧ w.grownBy w' (some g) := by
  have h0 := h.c0
  have h1 := h.c1
  have e0 : (0 : Int) ≤ (a : Int) := by omega
  by_cases ha : a < s.size
  · have hb : ¬ (s[a].toNat : Int) = c := by have := byteAt_eq s a ha; omega
    have hb2 : ((s[a].toNat : Int) == c) = false := beq_eq_false_iff_ne.2 hb
    have e1 : (a : Int) < (s.size : Int) := by omega
    clear hc
    go_enter Tryd.func105, Tryd.ntmps105
    go_wp2_with fail
    go_quiet (fail)
    go_wp2_with fail
    go_ret
    exact ⟨rfl, h.drewN _, grown_drewN (World.grownBy.refl _ _) _⟩
  · have e1 : decide ((a : Int) < (s.size : Int)) = false := decide_eq_false (by omega)
    have e2 : decide (a < s.size) = false := decide_eq_false (by omega)
    clear hc
    go_enter Tryd.func105, Tryd.ntmps105
    go_wp2_with fail
    go_quiet (fail)
    go_wp2_with fail
    go_ret
    exact ⟨rfl, h.drewN _, grown_drewN (World.grownBy.refl _ _) _⟩

set_option maxRecDepth 100000 in
set_option maxHeartbeats 1000000 in
theorem mul64_any (x y : Nat) (hx : x < 18446744073709551616) (hy : y < 18446744073709551616) (w : World) :
    Calls Tryd.prog 146 #[.int .u64 x, .int .u64 y] w fun e w' => e = .returned (.tuple #[.int .u64 ((x * y / 18446744073709551616 : Nat) : Int), .int .u64 ((x * y % 18446744073709551616 : Nat) : Int)]) ∧ w = w' := by
  obtain ⟨bd, bt, bw, hhi⟩ := Lib.mul64_hi x y hx hy
  have ba := Lib.half_mul_le (a := x / 4294967296) (b := y / 4294967296) (by omega) (by omega)
  have bb := Lib.half_mul_le (a := x / 4294967296) (b := y % 4294967296) (by omega) (by omega)
  have bc := Lib.half_mul_le (a := x % 4294967296) (b := y / 4294967296) (by omega) (by omega)
  have ba' : x / 4294967296 * (y / 4294967296) < 18446744073709551616 := by omega
  have bb' : x / 4294967296 * (y % 4294967296) < 18446744073709551616 := by omega
  have bc' : x % 4294967296 * (y / 4294967296) < 18446744073709551616 := by omega
  have bh1 : x / 4294967296 * (y / 4294967296) + (x / 4294967296 * (y % 4294967296) + x % 4294967296 * (y % 4294967296) / 4294967296) / 4294967296 < 18446744073709551616 := by omega
  have bh : x / 4294967296 * (y / 4294967296) + (x / 4294967296 * (y % 4294967296) + x % 4294967296 * (y % 4294967296) / 4294967296) / 4294967296 + ((x / 4294967296 * (y % 4294967296) + x % 4294967296 * (y % 4294967296) / 4294967296) % 4294967296 + x % 4294967296 * (y / 4294967296)) / 4294967296 < 18446744073709551616 := by omega
  go_enter Tryd.func146, Tryd.ntmps146
  go_wp2
  simp only [Mul64.maskN x hx, Mul64.maskN y hy, Mul64.divN, Mul64.mulN, Mul64.addN, Mul64.wrapN _ bd, Mul64.wrapN _ bb', Mul64.wrapN _ bt, Mul64.maskN _ bt, Mul64.wrapN _ bc', Mul64.wrapN _ bw, Mul64.wrapN _ ba', Mul64.wrapN _ bh1, Mul64.wrapN _ bh, Mul64.wrapM (x * y)]
  rw [hhi]
  go_ret2
  exact ⟨rfl, rfl⟩

/-- a * b where that is a number of the language -/
def prodR (a b : Int) : Option Int := if (a * b).natAbs ≤ 999999999999 then some (a * b) else none

set_option maxRecDepth 100000 in
set_option maxHeartbeats 1000000 in
theorem impl_product (a b : Int) (w : World) (ha : a.natAbs ≤ 999999999999) (hb : b.natAbs ≤ 999999999999) :
    Calls Tryd.prog 128 #[.int .i64 a, .int .i64 b] w fun e w' => e = .returned (pairOf (prodR a b)) ∧ w = w' := by
  have a0 : (a.natAbs : Int) ≤ 999999999999 := by omega
  have b0 : (b.natAbs : Int) ≤ 999999999999 := by omega
  have a1 : (0 : Int) ≤ (a.natAbs : Int) := by omega
  have b1 : (0 : Int) ≤ (b.natAbs : Int) := by omega
  have hmul := Int.natAbs_mul a b
  by_cases hq : (a * b).natAbs ≤ 999999999999
  · have n0 : -999999999999 ≤ a * b := by omega
    have n1 : a * b ≤ 999999999999 := by omega
    have HR : Hid (prodR a b = some (a * b)) := by show prodR a b = _; rw [prodR, if_pos hq]
    have q1 : a.natAbs * b.natAbs / 18446744073709551616 = 0 := by rw [← hmul]; omega
    have q2 : a.natAbs * b.natAbs % 18446744073709551616 ≤ 999999999999 := by rw [← hmul]; omega
    clear hmul
    go_enter Tryd.func128, Tryd.ntmps128
    go_wp2_with fail
    refine (impl_abs a _ (by omega) (by omega)).mono ?_; rintro e w' ⟨rfl, rfl⟩
    go_wp2_with fail
    refine (impl_abs b _ (by omega) (by omega)).mono ?_; rintro e w' ⟨rfl, rfl⟩
    go_wp2_with fail
    refine (mul64_any _ _ (by omega) (by omega) _).mono ?_
    rw [q1]
    generalize a.natAbs * b.natAbs % 18446744073709551616 = lo at *
    clear q1
    rintro e w' ⟨rfl, rfl⟩
    go_wp2_with fail
    go_ret2
    exact ⟨pair_some HR.out rfl, rfl⟩
  · have HR : Hid (prodR a b = none) := by show prodR a b = _; rw [prodR, if_neg hq]
    by_cases hl : a.natAbs * b.natAbs < 18446744073709551616
    · have q1 : a.natAbs * b.natAbs / 18446744073709551616 = 0 := by omega
      have q2 : 999999999999 < a.natAbs * b.natAbs % 18446744073709551616 := by rw [← hmul] at hl ⊢; omega
      clear hmul hq hl
      go_enter Tryd.func128, Tryd.ntmps128
      go_wp2_with fail
      refine (impl_abs a _ (by omega) (by omega)).mono ?_; rintro e w' ⟨rfl, rfl⟩
      go_wp2_with fail
      refine (impl_abs b _ (by omega) (by omega)).mono ?_; rintro e w' ⟨rfl, rfl⟩
      go_wp2_with fail
      refine (mul64_any _ _ (by omega) (by omega) _).mono ?_
      rw [q1]
      generalize a.natAbs * b.natAbs % 18446744073709551616 = lo at *
      clear q1
      rintro e w' ⟨rfl, rfl⟩
      go_wp2_with fail
      go_ret2
      exact ⟨pair_none HR.out, rfl⟩
    · have q1 : 0 < a.natAbs * b.natAbs / 18446744073709551616 := by omega
      clear hmul hq hl
      go_enter Tryd.func128, Tryd.ntmps128
      go_wp2_with fail
      refine (impl_abs a _ (by omega) (by omega)).mono ?_; rintro e w' ⟨rfl, rfl⟩
      go_wp2_with fail
      refine (impl_abs b _ (by omega) (by omega)).mono ?_; rintro e w' ⟨rfl, rfl⟩
      go_wp2_with fail
      refine (mul64_any _ _ (by omega) (by omega) _).mono ?_
      generalize a.natAbs * b.natAbs % 18446744073709551616 = lo at *
      generalize a.natAbs * b.natAbs / 18446744073709551616 = hi at *
      have hne : ((hi : Int) != 0) = true := bne_iff_ne.2 (by omega)
      rintro e w' ⟨rfl, rfl⟩
      go_wp2_with fail
      go_ret2
      exact ⟨pair_none HR.out, rfl⟩

theorem impl_inRange (n : Int) (w : World) :
    Calls Tryd.prog 106 #[.int .i64 n] w fun e w' => e = .returned (.bool (decide (n.natAbs ≤ 999999999999))) ∧ w = w' := by
  go_enter Tryd.func106, Tryd.ntmps106
  go_wp2_with fail
  all_goals
    go_ret
    exact ⟨ret_bool (by rw [Bool.eq_iff_iff]; simp; omega), rfl⟩

def isDig (c : Nat) : Bool := decide (48 ≤ c ∧ c ≤ 57)
theorem impl_isDigit (c : Nat) (w : World) (_hc : c ≤ 255) :
    Calls Tryd.prog 122 #[.int .u8 c] w fun e w' => e = .returned (.bool (isDig c)) ∧ w = w' := by
  go_enter Tryd.func122, Tryd.ntmps122
  go_wp2_with fail
  all_goals
    go_ret
    exact ⟨ret_bool (by rw [Bool.eq_iff_iff]; simp [isDig]; omega), rfl⟩
end Go.Proofs.YtgkgoofapgabhaaDoor
