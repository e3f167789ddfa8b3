/- Sets out of literals, sums and powers of the program. -/
import Derived.Test.YtjeomamdlmoghaaGreatDoorQ00
import Derived.Test.YtjeomamdlmoghaaGreatDoorQSq
import Derived.Test.YtjeomamdlmoghaaGreatDoorQSr
import Derived.Test.YtjeomamdlmoghaaGreatDoorQ16
import Derived.Deep.LoopGhost
set_option maxRecDepth 100000
set_option maxHeartbeats 8000000
set_option linter.unusedVariables false
set_option linter.unusedSimpArgs false
section
namespace Go.Proofs.YtjeomamdlmoghaaGreatDoor
open Go.RowKit
theorem setV_of (s : ByteArray) : setV (setOf s) = .tuple #[.agg #[.int .i64 (newCset s).lo.toInt, .int .i64 (newCset s).hi.toInt], .bool (asciiB s)] := by
 unfold setV setOf
 cases h : asciiB s with
 | true => rfl
 | false => rw [newCset_no h]; rfl
def numOf (r : LitT × Int) : Int := match r.1 with | .int n => n | _ => 0
def compV (r : LitT × Int) : Value := .tuple #[.int .i64 (numOf r), .int .i64 r.2]
theorem comp_num (n : Int) : compR n = compV (numR n) := by
 unfold compR numR compV numOf
 by_cases h : n.natAbs ≤ 999999999999
 ·rw [if_pos h, if_pos (by omega)]
 ·rw [if_neg h, if_neg (by omega)]
theorem numR_in {n : Int} (h : n.natAbs ≤ 999999999999) : numR n = (.int n, 0) := by rw [numR, if_pos (by omega)]
theorem prod_yes {a b : Int} (h : ¬ 999999999999 < a.natAbs * b.natAbs) : (a * b).natAbs ≤ 999999999999 := by rw [Int.natAbs_mul]; omega
theorem prod_no {a b : Int} (h : 999999999999 < a.natAbs * b.natAbs) : ¬ (a * b).natAbs ≤ 999999999999 := by rw [Int.natAbs_mul]; omega
def powE (r : Option Int) : LitT × Int := match r with | none => (.null, 203) | some n => (.int n, 0)
theorem powR_E {a : Int} {bn : Nat} (c1 : ¬ ((bn : Int) < 0 ∧ a = 0)) (c2 : ¬ (a = 1 ∨ a = -1)) (c3 : ¬ (bn : Int) < 0) (c4 : ¬ (a = 0 ∧ 0 < (bn : Int))) : powR a (bn : Int) = powE (powL a bn 1) := by rw [powR, if_neg c1, if_neg c2, if_neg c3, if_neg c4, Int.toNat_natCast]; rfl
theorem even2 (b : Int) : b % 2 = 0 ↔ b.tmod 2 = 0 := Int.dvd_iff_emod_eq_zero.symm.trans Int.dvd_iff_tmod_eq_zero
theorem powL_yes {a n : Int} {k : Nat} (h : ¬ 999999999999 < n.natAbs * a.natAbs) : powL a (k + 1) n = powL a k (n * a) := by rw [powL, if_neg h]
theorem powL_no {a n : Int} {k : Nat} (h : 999999999999 < n.natAbs * a.natAbs) : powL a (k + 1) n = none := by rw [powL, if_pos h]
theorem impl_ToCset (v : LitT) (hv : v.Ok) (w : World) (ht : PowTab w) : Calls Tryz.prog 107 #[v.val] w (Gives (setV v.toSet) w) := by
 cases v with
 | set c =>
   unfold LitT.val
   obtain ⟨bp, br, B0⟩ := boxes2 w 76 #[.int .i64 3, .int .i64 0, .int .i64 0, .string ⟨#[]⟩, .int .i64 c.lo.toInt, .int .i64 c.hi.toInt] 74 #[.int .i64 0, .int .i64 0]
   go_enter Tryz.func107, Tryz.ntmps107
   go_wp2_with fail
   refine bodyPost_ret (v := .tuple #[.agg #[.int .i64 c.lo.toInt, .int .i64 c.hi.toInt], .bool true]) ?_ rfl ⟨?_, ?_⟩
   ·simp [results, Tryz.results107, go_sem]
   ·rfl
   ·repeat' first | with_reducible exact B0 | with_reducible exact (((Below.refl w.heap.size w).alloc (Nat.le_refl _) _).alloc (by simp <;> omega) _) | with_reducible refine Below.setCell ?_ (by have hs := B0.size; first | omega | (simp; omega) | simp) _ | with_reducible refine Below.alloc ?_ (by have hs := B0.size; first | omega | (simp; omega) | simp) _
 | null =>
   have HC : Hid (∀ W : World, Below w.heap.size w W → Calls Tryz.prog 127 #[(LitT.null).val] W (Gives (.tuple #[.string ⟨#[]⟩, .bool false]) W)) := fun W hW => impl_ToText (.null) hv W (ht.later hW)
   unfold LitT.val at HC ⊢
   obtain ⟨bp, br, B0⟩ := boxes2 w 76 #[.int .i64 0, .int .i64 0, .int .i64 0, .string ⟨#[]⟩, .int .i64 0, .int .i64 0] 74 #[.int .i64 0, .int .i64 0]
   go_enter Tryz.func107, Tryz.ntmps107
   go_wp2_with fail
   refine (HC.out _ B0).mono ?_; rintro e w1 ⟨rfl, hb⟩
   have B1 : Below w.heap.size w w1 := B0.trans (hb.mono B0.size)
   try clear cbp lbp fbp
   try clear cbr lbr fbr
   replace bp := (bp).later hb
   replace br := (br).later hb
   clear hb
   obtain ⟨cbp, lbp, fbp⟩ := bp.all
   obtain ⟨cbr, lbr, fbr⟩ := br.all
   go_wp2_with fail
   refine bodyPost_ret (v := .tuple #[.agg #[.int .i64 0, .int .i64 0], .bool false]) ?_ rfl ⟨?_, ?_⟩
   ·simp [results, Tryz.results107, go_sem, cbr]
   ·rfl
   ·repeat' first | with_reducible exact B1 | with_reducible refine Below.setCell ?_ (by have hs := B1.size; first | omega | (simp; omega) | simp) _ | with_reducible refine Below.alloc ?_ (by have hs := B1.size; first | omega | (simp; omega) | simp) _
 | int n =>
   have HC : Hid (∀ W : World, Below w.heap.size w W → Calls Tryz.prog 127 #[(LitT.int n).val] W (Gives (.tuple #[.string (formatInt n), .bool true]) W)) := fun W hW => impl_ToText (.int n) hv W (ht.later hW)
   have hsz : (formatInt n).size ≤ 1048576 := by have := formatInt_size n (by have := hv.1; omega) (by have := hv.2; omega); omega
   have HN : Hid (∀ W : World, Calls Tryz.prog 112 #[.string (formatInt n)] W fun e w' => e = .returned (.tuple #[.agg #[.int .i64 (newCset (formatInt n)).lo.toInt, .int .i64 (newCset (formatInt n)).hi.toInt], .bool (asciiB (formatInt n))]) ∧ Below W.heap.size W w') := fun W => impl_NewCset (formatInt n) W hsz
   unfold LitT.val at HC ⊢
   obtain ⟨bp, br, B0⟩ := boxes2 w 76 #[.int .i64 1, .int .i64 n, .int .i64 0, .string ⟨#[]⟩, .int .i64 0, .int .i64 0] 74 #[.int .i64 0, .int .i64 0]
   go_enter Tryz.func107, Tryz.ntmps107
   go_wp2_with fail
   refine (HC.out _ B0).mono ?_; rintro e w1 ⟨rfl, hb⟩
   have B1 : Below w.heap.size w w1 := B0.trans (hb.mono B0.size)
   try clear cbp lbp fbp
   try clear cbr lbr fbr
   replace bp := (bp).later hb
   replace br := (br).later hb
   clear hb
   obtain ⟨cbp, lbp, fbp⟩ := bp.all
   obtain ⟨cbr, lbr, fbr⟩ := br.all
   go_wp2_with fail
   refine (HN.out _).mono ?_; rintro e w2 ⟨rfl, hb⟩
   have B2 : Below w.heap.size w w2 := B1.trans (hb.mono B1.size)
   try clear cbp lbp fbp
   try clear cbr lbr fbr
   replace bp := (bp).later hb
   replace br := (br).later hb
   clear hb
   obtain ⟨cbp, lbp, fbp⟩ := bp.all
   obtain ⟨cbr, lbr, fbr⟩ := br.all
   go_wp2_with fail
   have hF := (((br.set_ 0 (.int .i64 (newCset (formatInt n)).lo.toInt)).set_ 1 (.int .i64 (newCset (formatInt n)).hi.toInt)).alloc (.cells #[.int .i64 (newCset (formatInt n)).lo.toInt, .int .i64 (newCset (formatInt n)).hi.toInt] 74))
   have cF := hF.cell
   refine bodyPost_ret (v := .tuple #[.agg #[.int .i64 (newCset (formatInt n)).lo.toInt, .int .i64 (newCset (formatInt n)).hi.toInt], .bool (asciiB (formatInt n))]) ?_ rfl ⟨?_, ?_⟩
   ·simp [results, Tryz.results107, go_sem, cF]
   ·rw [show (LitT.int n).toSet = setOf (formatInt n) from rfl, setV_of]
   ·repeat' first | with_reducible exact B2 | with_reducible refine Below.setCell ?_ (by have hs := B2.size; first | omega | (simp; omega) | simp) _ | with_reducible refine Below.alloc ?_ (by have hs := B2.size; first | omega | (simp; omega) | simp) _
 | text s =>
   have HC : Hid (∀ W : World, Below w.heap.size w W → Calls Tryz.prog 127 #[(LitT.text s).val] W (Gives (.tuple #[.string s, .bool true]) W)) := fun W hW => impl_ToText (.text s) hv W (ht.later hW)
   have hsz : s.size ≤ 1048576 := by have : s.size ≤ 120 := hv; omega
   have HN : Hid (∀ W : World, Calls Tryz.prog 112 #[.string s] W fun e w' => e = .returned (.tuple #[.agg #[.int .i64 (newCset s).lo.toInt, .int .i64 (newCset s).hi.toInt], .bool (asciiB s)]) ∧ Below W.heap.size W w') := fun W => impl_NewCset s W hsz
   unfold LitT.val at HC ⊢
   obtain ⟨bp, br, B0⟩ := boxes2 w 76 #[.int .i64 2, .int .i64 0, .int .i64 0, .string s, .int .i64 0, .int .i64 0] 74 #[.int .i64 0, .int .i64 0]
   go_enter Tryz.func107, Tryz.ntmps107
   go_wp2_with fail
   refine (HC.out _ B0).mono ?_; rintro e w1 ⟨rfl, hb⟩
   have B1 : Below w.heap.size w w1 := B0.trans (hb.mono B0.size)
   try clear cbp lbp fbp
   try clear cbr lbr fbr
   replace bp := (bp).later hb
   replace br := (br).later hb
   clear hb
   obtain ⟨cbp, lbp, fbp⟩ := bp.all
   obtain ⟨cbr, lbr, fbr⟩ := br.all
   go_wp2_with fail
   refine (HN.out _).mono ?_; rintro e w2 ⟨rfl, hb⟩
   have B2 : Below w.heap.size w w2 := B1.trans (hb.mono B1.size)
   try clear cbp lbp fbp
   try clear cbr lbr fbr
   replace bp := (bp).later hb
   replace br := (br).later hb
   clear hb
   obtain ⟨cbp, lbp, fbp⟩ := bp.all
   obtain ⟨cbr, lbr, fbr⟩ := br.all
   go_wp2_with fail
   have hF := (((br.set_ 0 (.int .i64 (newCset s).lo.toInt)).set_ 1 (.int .i64 (newCset s).hi.toInt)).alloc (.cells #[.int .i64 (newCset s).lo.toInt, .int .i64 (newCset s).hi.toInt] 74))
   have cF := hF.cell
   refine bodyPost_ret (v := .tuple #[.agg #[.int .i64 (newCset s).lo.toInt, .int .i64 (newCset s).hi.toInt], .bool (asciiB s)]) ?_ rfl ⟨?_, ?_⟩
   ·simp [results, Tryz.results107, go_sem, cF]
   ·rw [show (LitT.text s).toSet = setOf s from rfl, setV_of]
   ·repeat' first | with_reducible exact B2 | with_reducible refine Below.setCell ?_ (by have hs := B2.size; first | omega | (simp; omega) | simp) _ | with_reducible refine Below.alloc ?_ (by have hs := B2.size; first | omega | (simp; omega) | simp) _
theorem impl_IntegerValue (n : Int) (w : World) : Calls Tryz.prog 153 #[.int .i64 n] w (Gives (.tuple #[(numR n).1.val, .bool (decide ((numR n).2 = 0))]) w) := by
 by_cases h1 : n < -999999999999
 ·have HR : Hid (numR n = (.null, 203)) := by show _ = _; rw [numR, if_neg (by omega)]
  rw [HR.out]
  unfold LitT.val
  obtain ⟨br, B0⟩ := boxes1 w 76 #[.int .i64 0, .int .i64 0, .int .i64 0, .string ⟨#[]⟩, .int .i64 0, .int .i64 0]
  go_enter Tryz.func153, Tryz.ntmps153
  go_wp2_with fail
  refine bodyPost_ret (v := .tuple #[.agg #[.int .i64 0, .int .i64 0, .int .i64 0, .string ⟨#[]⟩, .int .i64 0, .int .i64 0], .bool false]) ?_ rfl ⟨?_, ?_⟩
  ·simp [results, Tryz.results153, go_sem]
  ·rfl
  ·repeat' first | with_reducible exact B0 | with_reducible exact ((Below.refl w.heap.size w).alloc (Nat.le_refl _) _) | with_reducible refine Below.setCell ?_ (by have hs := B0.size; first | omega | (simp; omega) | simp) _ | with_reducible refine Below.alloc ?_ (by have hs := B0.size; first | omega | (simp; omega) | simp) _
 by_cases h2 : 999999999999 < n
 ·have HR : Hid (numR n = (.null, 203)) := by show _ = _; rw [numR, if_neg (by omega)]
  rw [HR.out]
  unfold LitT.val
  obtain ⟨br, B0⟩ := boxes1 w 76 #[.int .i64 0, .int .i64 0, .int .i64 0, .string ⟨#[]⟩, .int .i64 0, .int .i64 0]
  go_enter Tryz.func153, Tryz.ntmps153
  go_wp2_with fail
  refine bodyPost_ret (v := .tuple #[.agg #[.int .i64 0, .int .i64 0, .int .i64 0, .string ⟨#[]⟩, .int .i64 0, .int .i64 0], .bool false]) ?_ rfl ⟨?_, ?_⟩
  ·simp [results, Tryz.results153, go_sem]
  ·rfl
  ·repeat' first | with_reducible exact B0 | with_reducible exact ((Below.refl w.heap.size w).alloc (Nat.le_refl _) _) | with_reducible refine Below.setCell ?_ (by have hs := B0.size; first | omega | (simp; omega) | simp) _ | with_reducible refine Below.alloc ?_ (by have hs := B0.size; first | omega | (simp; omega) | simp) _
 ·have HR : Hid (numR n = (.int n, 0)) := by show _ = _; rw [numR, if_pos (by omega)]
  rw [HR.out]
  unfold LitT.val
  obtain ⟨br, B0⟩ := boxes1 w 76 #[.int .i64 0, .int .i64 0, .int .i64 0, .string ⟨#[]⟩, .int .i64 0, .int .i64 0]
  go_enter Tryz.func153, Tryz.ntmps153
  go_wp2_with fail
  refine bodyPost_ret (v := .tuple #[.agg #[.int .i64 1, .int .i64 n, .int .i64 0, .string ⟨#[]⟩, .int .i64 0, .int .i64 0], .bool true]) ?_ rfl ⟨?_, ?_⟩
  ·simp [results, Tryz.results153, go_sem]
  ·rfl
  ·repeat' first | with_reducible exact B0 | with_reducible exact ((Below.refl w.heap.size w).alloc (Nat.le_refl _) _) | with_reducible refine Below.setCell ?_ (by have hs := B0.size; first | omega | (simp; omega) | simp) _ | with_reducible refine Below.alloc ?_ (by have hs := B0.size; first | omega | (simp; omega) | simp) _
theorem impl_integerResult (n : Int) (w : World) : Calls Tryz.prog 147 #[.int .i64 n] w (Pair (numR n) w) := by
 have HC := Lib.hid (fun W : World => impl_IntegerValue n W)
 by_cases h : -999999999999 ≤ n ∧ n ≤ 999999999999
 ·have HR : Hid (numR n = (.int n, 0)) := by show _ = _; rw [numR, if_pos h]
  rw [HR.out] at HC ⊢
  unfold LitT.val at HC
  unfold Pair pairV LitT.val
  obtain ⟨br, B0⟩ := boxes1 w 76 #[.int .i64 0, .int .i64 0, .int .i64 0, .string ⟨#[]⟩, .int .i64 0, .int .i64 0]
  go_enter Tryz.func147, Tryz.ntmps147
  go_wp2_with fail
  refine (HC.out _).mono ?_; rintro e w1 ⟨rfl, hb⟩
  have B1 : Below w.heap.size w w1 := B0.trans (hb.mono B0.size)
  try clear cbr lbr fbr
  replace br := (br).later hb
  clear hb
  obtain ⟨cbr, lbr, fbr⟩ := br.all
  go_wp2_with fail
  have hF := (((((((br.set_ 0 (.int .i64 1)).set_ 1 (.int .i64 (n))).set_ 2 (.int .i64 0)).set_ 3 (.string ⟨#[]⟩)).set_ 4 (.int .i64 0)).set_ 5 (.int .i64 0)).alloc (.cells #[.int .i64 1, .int .i64 n, .int .i64 0, .string ⟨#[]⟩, .int .i64 0, .int .i64 0] 76))
  have cF := hF.cell
  refine bodyPost_ret (v := .tuple #[.agg #[.int .i64 1, .int .i64 n, .int .i64 0, .string ⟨#[]⟩, .int .i64 0, .int .i64 0], .int .i64 0]) ?_ rfl ⟨?_, ?_⟩
  ·simp [results, Tryz.results147, go_sem, cF]
  ·rfl
  ·repeat' first | with_reducible exact B1 | with_reducible refine Below.setCell ?_ (by have hs := B1.size; first | omega | (simp; omega) | simp) _ | with_reducible refine Below.alloc ?_ (by have hs := B1.size; first | omega | (simp; omega) | simp) _
 ·have HR : Hid (numR n = (.null, 203)) := by show _ = _; rw [numR, if_neg h]
  rw [HR.out] at HC ⊢
  unfold LitT.val at HC
  unfold Pair pairV LitT.val
  obtain ⟨br, B0⟩ := boxes1 w 76 #[.int .i64 0, .int .i64 0, .int .i64 0, .string ⟨#[]⟩, .int .i64 0, .int .i64 0]
  go_enter Tryz.func147, Tryz.ntmps147
  go_wp2_with fail
  refine (HC.out _).mono ?_; rintro e w1 ⟨rfl, hb⟩
  have B1 : Below w.heap.size w w1 := B0.trans (hb.mono B0.size)
  try clear cbr lbr fbr
  replace br := (br).later hb
  clear hb
  obtain ⟨cbr, lbr, fbr⟩ := br.all
  go_wp2_with fail
  have hF := (((((((br.set_ 0 (.int .i64 0)).set_ 1 (.int .i64 (0))).set_ 2 (.int .i64 0)).set_ 3 (.string ⟨#[]⟩)).set_ 4 (.int .i64 0)).set_ 5 (.int .i64 0)).alloc (.cells #[.int .i64 0, .int .i64 0, .int .i64 0, .string ⟨#[]⟩, .int .i64 0, .int .i64 0] 76))
  have cF := hF.cell
  refine bodyPost_ret (v := .tuple #[.agg #[.int .i64 0, .int .i64 0, .int .i64 0, .string ⟨#[]⟩, .int .i64 0, .int .i64 0], .int .i64 203]) ?_ rfl ⟨?_, ?_⟩
  ·simp [results, Tryz.results147, go_sem, cF]
  ·rfl
  ·repeat' first | with_reducible exact B1 | with_reducible refine Below.setCell ?_ (by have hs := B1.size; first | omega | (simp; omega) | simp) _ | with_reducible refine Below.alloc ?_ (by have hs := B1.size; first | omega | (simp; omega) | simp) _
theorem impl_power (a b : Int) (w : World) (ha : a.natAbs ≤ 999999999999) (hb : b.natAbs ≤ 999999999999) : Calls Tryz.prog 149 #[.int .i64 a, .int .i64 b] w (Pair (powR a b) w) := by
 by_cases c1 : b < 0 ∧ a = 0
 ·have HR : Hid (powR a b = (.null, 201)) := by show _ = _; rw [powR, if_pos c1]
  rw [HR.out]
  obtain ⟨x1, x2⟩ := c1
  subst x2
  unfold Pair pairV LitT.val
  obtain ⟨br, B0⟩ := boxes1 w 76 #[.int .i64 0, .int .i64 0, .int .i64 0, .string ⟨#[]⟩, .int .i64 0, .int .i64 0]
  go_enter Tryz.func149, Tryz.ntmps149
  go_wp2_with fail
  refine bodyPost_ret (v := .tuple #[.agg #[.int .i64 0, .int .i64 0, .int .i64 0, .string ⟨#[]⟩, .int .i64 0, .int .i64 0], .int .i64 201]) ?_ rfl ⟨?_, ?_⟩
  ·simp [results, Tryz.results149, go_sem]
  ·rfl
  ·repeat' first | with_reducible exact B0 | with_reducible exact ((Below.refl w.heap.size w).alloc (Nat.le_refl _) _) | with_reducible refine Below.setCell ?_ (by have hs := B0.size; first | omega | (simp; omega) | simp) _ | with_reducible refine Below.alloc ?_ (by have hs := B0.size; first | omega | (simp; omega) | simp) _
 by_cases c2 : a = 1
 ·by_cases c3 : b < 0
  ·skip
   have HR : Hid (powR a b = (.int (1), 0)) := by show _ = _; rw [powR, if_neg c1, if_pos (.inl c2), if_neg (by omega)]
   rw [HR.out]
   subst c2
   clear HR
   have HI : Hid (∀ W : World, Calls Tryz.prog 147 #[.int .i64 (1)] W fun e w' => e = .returned (.tuple #[.agg #[.int .i64 1, .int .i64 (1), .int .i64 0, .string ⟨#[]⟩, .int .i64 0, .int .i64 0], .int .i64 0]) ∧ Below W.heap.size W w') := fun W => by
    have h := impl_integerResult (1) W
    rw [numR_in (by decide)] at h
    exact h
   unfold Pair pairV LitT.val
   obtain ⟨br, B0⟩ := boxes1 w 76 #[.int .i64 0, .int .i64 0, .int .i64 0, .string ⟨#[]⟩, .int .i64 0, .int .i64 0]
   go_enter Tryz.func149, Tryz.ntmps149
   go_wp2_with fail
   refine (HI.out _).mono ?_; rintro e w1 ⟨rfl, hb⟩
   have B1 : Below w.heap.size w w1 := B0.trans (hb.mono B0.size)
   try clear cbr lbr fbr
   replace br := (br).later hb
   clear hb
   obtain ⟨cbr, lbr, fbr⟩ := br.all
   go_wp2_with fail
   have hF := ((((((br.set_ 0 (.int .i64 1)).set_ 1 (.int .i64 (1))).set_ 2 (.int .i64 0)).set_ 3 (.string ⟨#[]⟩)).set_ 4 (.int .i64 0)).set_ 5 (.int .i64 0))
   have cF := hF.cell
   refine bodyPost_ret (v := .tuple #[.agg #[.int .i64 1, .int .i64 (1), .int .i64 0, .string ⟨#[]⟩, .int .i64 0, .int .i64 0], .int .i64 0]) ?_ rfl ⟨?_, ?_⟩
   ·simp [results, Tryz.results149, go_sem, cF]
   ·rfl
   ·repeat' first | with_reducible exact B1 | with_reducible refine Below.setCell ?_ (by have hs := B1.size; first | omega | (simp; omega) | simp) _ | with_reducible refine Below.alloc ?_ (by have hs := B1.size; first | omega | (simp; omega) | simp) _
  ·skip
   have HR : Hid (powR a b = (.int (1), 0)) := by show _ = _; rw [powR, if_neg c1, if_pos (.inl c2), if_neg (by omega)]
   rw [HR.out]
   subst c2
   clear HR
   have HI : Hid (∀ W : World, Calls Tryz.prog 147 #[.int .i64 (1)] W fun e w' => e = .returned (.tuple #[.agg #[.int .i64 1, .int .i64 (1), .int .i64 0, .string ⟨#[]⟩, .int .i64 0, .int .i64 0], .int .i64 0]) ∧ Below W.heap.size W w') := fun W => by
    have h := impl_integerResult (1) W
    rw [numR_in (by decide)] at h
    exact h
   unfold Pair pairV LitT.val
   obtain ⟨br, B0⟩ := boxes1 w 76 #[.int .i64 0, .int .i64 0, .int .i64 0, .string ⟨#[]⟩, .int .i64 0, .int .i64 0]
   go_enter Tryz.func149, Tryz.ntmps149
   go_wp2_with fail
   refine (HI.out _).mono ?_; rintro e w1 ⟨rfl, hb⟩
   have B1 : Below w.heap.size w w1 := B0.trans (hb.mono B0.size)
   try clear cbr lbr fbr
   replace br := (br).later hb
   clear hb
   obtain ⟨cbr, lbr, fbr⟩ := br.all
   go_wp2_with fail
   have hF := ((((((br.set_ 0 (.int .i64 1)).set_ 1 (.int .i64 (1))).set_ 2 (.int .i64 0)).set_ 3 (.string ⟨#[]⟩)).set_ 4 (.int .i64 0)).set_ 5 (.int .i64 0))
   have cF := hF.cell
   refine bodyPost_ret (v := .tuple #[.agg #[.int .i64 1, .int .i64 (1), .int .i64 0, .string ⟨#[]⟩, .int .i64 0, .int .i64 0], .int .i64 0]) ?_ rfl ⟨?_, ?_⟩
   ·simp [results, Tryz.results149, go_sem, cF]
   ·rfl
   ·repeat' first | with_reducible exact B1 | with_reducible refine Below.setCell ?_ (by have hs := B1.size; first | omega | (simp; omega) | simp) _ | with_reducible refine Below.alloc ?_ (by have hs := B1.size; first | omega | (simp; omega) | simp) _
 by_cases c4 : a = -1
 ·by_cases c5 : b.tmod 2 = 0
  ·by_cases c3 : b < 0
   ·skip
    have HR : Hid (powR a b = (.int (1), 0)) := by show _ = _; rw [powR, if_neg c1, if_pos (.inr c4), if_neg (fun h => h.2 c5)]
    rw [HR.out]
    subst c4
    have f2 : (b.tmod 2 != 0) = false := by simp [c5]
    have f3 : (b % 2 != 0) = false := by simp [(even2 b).2 c5]
    clear HR
    have HI : Hid (∀ W : World, Calls Tryz.prog 147 #[.int .i64 (1)] W fun e w' => e = .returned (.tuple #[.agg #[.int .i64 1, .int .i64 (1), .int .i64 0, .string ⟨#[]⟩, .int .i64 0, .int .i64 0], .int .i64 0]) ∧ Below W.heap.size W w') := fun W => by
     have h := impl_integerResult (1) W
     rw [numR_in (by decide)] at h
     exact h
    unfold Pair pairV LitT.val
    obtain ⟨br, B0⟩ := boxes1 w 76 #[.int .i64 0, .int .i64 0, .int .i64 0, .string ⟨#[]⟩, .int .i64 0, .int .i64 0]
    go_enter Tryz.func149, Tryz.ntmps149
    go_wp2_with fail
    refine (HI.out _).mono ?_; rintro e w1 ⟨rfl, hb⟩
    have B1 : Below w.heap.size w w1 := B0.trans (hb.mono B0.size)
    try clear cbr lbr fbr
    replace br := (br).later hb
    clear hb
    obtain ⟨cbr, lbr, fbr⟩ := br.all
    go_wp2_with fail
    have hF := ((((((br.set_ 0 (.int .i64 1)).set_ 1 (.int .i64 (1))).set_ 2 (.int .i64 0)).set_ 3 (.string ⟨#[]⟩)).set_ 4 (.int .i64 0)).set_ 5 (.int .i64 0))
    have cF := hF.cell
    refine bodyPost_ret (v := .tuple #[.agg #[.int .i64 1, .int .i64 (1), .int .i64 0, .string ⟨#[]⟩, .int .i64 0, .int .i64 0], .int .i64 0]) ?_ rfl ⟨?_, ?_⟩
    ·simp [results, Tryz.results149, go_sem, cF]
    ·rfl
    ·repeat' first | with_reducible exact B1 | with_reducible refine Below.setCell ?_ (by have hs := B1.size; first | omega | (simp; omega) | simp) _ | with_reducible refine Below.alloc ?_ (by have hs := B1.size; first | omega | (simp; omega) | simp) _
   ·skip
    have HR : Hid (powR a b = (.int (1), 0)) := by show _ = _; rw [powR, if_neg c1, if_pos (.inr c4), if_neg (fun h => h.2 c5)]
    rw [HR.out]
    subst c4
    have f2 : (b.tmod 2 != 0) = false := by simp [c5]
    have f3 : (b % 2 != 0) = false := by simp [(even2 b).2 c5]
    clear HR
    have HI : Hid (∀ W : World, Calls Tryz.prog 147 #[.int .i64 (1)] W fun e w' => e = .returned (.tuple #[.agg #[.int .i64 1, .int .i64 (1), .int .i64 0, .string ⟨#[]⟩, .int .i64 0, .int .i64 0], .int .i64 0]) ∧ Below W.heap.size W w') := fun W => by
     have h := impl_integerResult (1) W
     rw [numR_in (by decide)] at h
     exact h
    unfold Pair pairV LitT.val
    obtain ⟨br, B0⟩ := boxes1 w 76 #[.int .i64 0, .int .i64 0, .int .i64 0, .string ⟨#[]⟩, .int .i64 0, .int .i64 0]
    go_enter Tryz.func149, Tryz.ntmps149
    go_wp2_with fail
    refine (HI.out _).mono ?_; rintro e w1 ⟨rfl, hb⟩
    have B1 : Below w.heap.size w w1 := B0.trans (hb.mono B0.size)
    try clear cbr lbr fbr
    replace br := (br).later hb
    clear hb
    obtain ⟨cbr, lbr, fbr⟩ := br.all
    go_wp2_with fail
    have hF := ((((((br.set_ 0 (.int .i64 1)).set_ 1 (.int .i64 (1))).set_ 2 (.int .i64 0)).set_ 3 (.string ⟨#[]⟩)).set_ 4 (.int .i64 0)).set_ 5 (.int .i64 0))
    have cF := hF.cell
    refine bodyPost_ret (v := .tuple #[.agg #[.int .i64 1, .int .i64 (1), .int .i64 0, .string ⟨#[]⟩, .int .i64 0, .int .i64 0], .int .i64 0]) ?_ rfl ⟨?_, ?_⟩
    ·simp [results, Tryz.results149, go_sem, cF]
    ·rfl
    ·repeat' first | with_reducible exact B1 | with_reducible refine Below.setCell ?_ (by have hs := B1.size; first | omega | (simp; omega) | simp) _ | with_reducible refine Below.alloc ?_ (by have hs := B1.size; first | omega | (simp; omega) | simp) _
  ·by_cases c3 : b < 0
   ·skip
    have HR : Hid (powR a b = (.int (-1), 0)) := by show _ = _; rw [powR, if_neg c1, if_pos (.inr c4), if_pos ⟨c4, c5⟩]
    rw [HR.out]
    subst c4
    have f2 : (b.tmod 2 != 0) = true := by simpa using c5
    have f3 : (b % 2 != 0) = true := by simpa using (fun h => c5 ((even2 b).1 h))
    clear HR
    have HI : Hid (∀ W : World, Calls Tryz.prog 147 #[.int .i64 (-1)] W fun e w' => e = .returned (.tuple #[.agg #[.int .i64 1, .int .i64 (-1), .int .i64 0, .string ⟨#[]⟩, .int .i64 0, .int .i64 0], .int .i64 0]) ∧ Below W.heap.size W w') := fun W => by
     have h := impl_integerResult (-1) W
     rw [numR_in (by decide)] at h
     exact h
    unfold Pair pairV LitT.val
    obtain ⟨br, B0⟩ := boxes1 w 76 #[.int .i64 0, .int .i64 0, .int .i64 0, .string ⟨#[]⟩, .int .i64 0, .int .i64 0]
    go_enter Tryz.func149, Tryz.ntmps149
    go_wp2_with fail
    refine (HI.out _).mono ?_; rintro e w1 ⟨rfl, hb⟩
    have B1 : Below w.heap.size w w1 := B0.trans (hb.mono B0.size)
    try clear cbr lbr fbr
    replace br := (br).later hb
    clear hb
    obtain ⟨cbr, lbr, fbr⟩ := br.all
    go_wp2_with fail
    have hF := ((((((br.set_ 0 (.int .i64 1)).set_ 1 (.int .i64 (-1))).set_ 2 (.int .i64 0)).set_ 3 (.string ⟨#[]⟩)).set_ 4 (.int .i64 0)).set_ 5 (.int .i64 0))
    have cF := hF.cell
    refine bodyPost_ret (v := .tuple #[.agg #[.int .i64 1, .int .i64 (-1), .int .i64 0, .string ⟨#[]⟩, .int .i64 0, .int .i64 0], .int .i64 0]) ?_ rfl ⟨?_, ?_⟩
    ·simp [results, Tryz.results149, go_sem, cF]
    ·rfl
    ·repeat' first | with_reducible exact B1 | with_reducible refine Below.setCell ?_ (by have hs := B1.size; first | omega | (simp; omega) | simp) _ | with_reducible refine Below.alloc ?_ (by have hs := B1.size; first | omega | (simp; omega) | simp) _
   ·skip
    have HR : Hid (powR a b = (.int (-1), 0)) := by show _ = _; rw [powR, if_neg c1, if_pos (.inr c4), if_pos ⟨c4, c5⟩]
    rw [HR.out]
    subst c4
    have f2 : (b.tmod 2 != 0) = true := by simpa using c5
    have f3 : (b % 2 != 0) = true := by simpa using (fun h => c5 ((even2 b).1 h))
    clear HR
    have HI : Hid (∀ W : World, Calls Tryz.prog 147 #[.int .i64 (-1)] W fun e w' => e = .returned (.tuple #[.agg #[.int .i64 1, .int .i64 (-1), .int .i64 0, .string ⟨#[]⟩, .int .i64 0, .int .i64 0], .int .i64 0]) ∧ Below W.heap.size W w') := fun W => by
     have h := impl_integerResult (-1) W
     rw [numR_in (by decide)] at h
     exact h
    unfold Pair pairV LitT.val
    obtain ⟨br, B0⟩ := boxes1 w 76 #[.int .i64 0, .int .i64 0, .int .i64 0, .string ⟨#[]⟩, .int .i64 0, .int .i64 0]
    go_enter Tryz.func149, Tryz.ntmps149
    go_wp2_with fail
    refine (HI.out _).mono ?_; rintro e w1 ⟨rfl, hb⟩
    have B1 : Below w.heap.size w w1 := B0.trans (hb.mono B0.size)
    try clear cbr lbr fbr
    replace br := (br).later hb
    clear hb
    obtain ⟨cbr, lbr, fbr⟩ := br.all
    go_wp2_with fail
    have hF := ((((((br.set_ 0 (.int .i64 1)).set_ 1 (.int .i64 (-1))).set_ 2 (.int .i64 0)).set_ 3 (.string ⟨#[]⟩)).set_ 4 (.int .i64 0)).set_ 5 (.int .i64 0))
    have cF := hF.cell
    refine bodyPost_ret (v := .tuple #[.agg #[.int .i64 1, .int .i64 (-1), .int .i64 0, .string ⟨#[]⟩, .int .i64 0, .int .i64 0], .int .i64 0]) ?_ rfl ⟨?_, ?_⟩
    ·simp [results, Tryz.results149, go_sem, cF]
    ·rfl
    ·repeat' first | with_reducible exact B1 | with_reducible refine Below.setCell ?_ (by have hs := B1.size; first | omega | (simp; omega) | simp) _ | with_reducible refine Below.alloc ?_ (by have hs := B1.size; first | omega | (simp; omega) | simp) _
 have n3 : (a == 1) = false := beq_eq_false_iff_ne.2 c2
 have n4 : (a == -1) = false := beq_eq_false_iff_ne.2 c4
 by_cases c6 : b < 0
 ·skip
  have HR : Hid (powR a b = (.int (0), 0)) := by show _ = _; rw [powR, if_neg c1, if_neg (by omega), if_pos c6]
  rw [HR.out]
  have f1 : (a == 0) = false := beq_eq_false_iff_ne.2 (fun h => c1 ⟨c6, h⟩)
  clear HR
  have HI : Hid (∀ W : World, Calls Tryz.prog 147 #[.int .i64 (0)] W fun e w' => e = .returned (.tuple #[.agg #[.int .i64 1, .int .i64 (0), .int .i64 0, .string ⟨#[]⟩, .int .i64 0, .int .i64 0], .int .i64 0]) ∧ Below W.heap.size W w') := fun W => by
   have h := impl_integerResult (0) W
   rw [numR_in (by decide)] at h
   exact h
  unfold Pair pairV LitT.val
  obtain ⟨br, B0⟩ := boxes1 w 76 #[.int .i64 0, .int .i64 0, .int .i64 0, .string ⟨#[]⟩, .int .i64 0, .int .i64 0]
  go_enter Tryz.func149, Tryz.ntmps149
  go_wp2_with fail
  refine (HI.out _).mono ?_; rintro e w1 ⟨rfl, hb⟩
  have B1 : Below w.heap.size w w1 := B0.trans (hb.mono B0.size)
  try clear cbr lbr fbr
  replace br := (br).later hb
  clear hb
  obtain ⟨cbr, lbr, fbr⟩ := br.all
  go_wp2_with fail
  have hF := ((((((br.set_ 0 (.int .i64 1)).set_ 1 (.int .i64 (0))).set_ 2 (.int .i64 0)).set_ 3 (.string ⟨#[]⟩)).set_ 4 (.int .i64 0)).set_ 5 (.int .i64 0))
  have cF := hF.cell
  refine bodyPost_ret (v := .tuple #[.agg #[.int .i64 1, .int .i64 (0), .int .i64 0, .string ⟨#[]⟩, .int .i64 0, .int .i64 0], .int .i64 0]) ?_ rfl ⟨?_, ?_⟩
  ·simp [results, Tryz.results149, go_sem, cF]
  ·rfl
  ·repeat' first | with_reducible exact B1 | with_reducible refine Below.setCell ?_ (by have hs := B1.size; first | omega | (simp; omega) | simp) _ | with_reducible refine Below.alloc ?_ (by have hs := B1.size; first | omega | (simp; omega) | simp) _
 by_cases c7 : a = 0 ∧ 0 < b
 ·skip
  have HR : Hid (powR a b = (.int (0), 0)) := by show _ = _; rw [powR, if_neg c1, if_neg (by omega), if_neg c6, if_pos c7]
  rw [HR.out]
  obtain ⟨x1, x2⟩ := c7
  subst x1
  clear HR
  have HI : Hid (∀ W : World, Calls Tryz.prog 147 #[.int .i64 (0)] W fun e w' => e = .returned (.tuple #[.agg #[.int .i64 1, .int .i64 (0), .int .i64 0, .string ⟨#[]⟩, .int .i64 0, .int .i64 0], .int .i64 0]) ∧ Below W.heap.size W w') := fun W => by
   have h := impl_integerResult (0) W
   rw [numR_in (by decide)] at h
   exact h
  unfold Pair pairV LitT.val
  obtain ⟨br, B0⟩ := boxes1 w 76 #[.int .i64 0, .int .i64 0, .int .i64 0, .string ⟨#[]⟩, .int .i64 0, .int .i64 0]
  go_enter Tryz.func149, Tryz.ntmps149
  go_wp2_with fail
  refine (HI.out _).mono ?_; rintro e w1 ⟨rfl, hb⟩
  have B1 : Below w.heap.size w w1 := B0.trans (hb.mono B0.size)
  try clear cbr lbr fbr
  replace br := (br).later hb
  clear hb
  obtain ⟨cbr, lbr, fbr⟩ := br.all
  go_wp2_with fail
  have hF := ((((((br.set_ 0 (.int .i64 1)).set_ 1 (.int .i64 (0))).set_ 2 (.int .i64 0)).set_ 3 (.string ⟨#[]⟩)).set_ 4 (.int .i64 0)).set_ 5 (.int .i64 0))
  have cF := hF.cell
  refine bodyPost_ret (v := .tuple #[.agg #[.int .i64 1, .int .i64 (0), .int .i64 0, .string ⟨#[]⟩, .int .i64 0, .int .i64 0], .int .i64 0]) ?_ rfl ⟨?_, ?_⟩
  ·simp [results, Tryz.results149, go_sem, cF]
  ·rfl
  ·repeat' first | with_reducible exact B1 | with_reducible refine Below.setCell ?_ (by have hs := B1.size; first | omega | (simp; omega) | simp) _ | with_reducible refine Below.alloc ?_ (by have hs := B1.size; first | omega | (simp; omega) | simp) _
 obtain ⟨bn, rfl⟩ : ∃ bn : Nat, b = bn := ⟨b.toNat, by omega⟩
 have HR : Hid (powR a (bn : Int) = powE (powL a bn 1)) := powR_E c1 (by omega) c6 c7
 have HF : Hid ((a == 0) = true → bn = 0) := fun h => by have := beq_iff_eq.1 h; omega
 have x0 : ¬ ((bn : Int) < 0) := by omega
 have HPI : ∀ (x : Int), x.natAbs ≤ 999999999999 → Hid (∀ W : World, Calls Tryz.prog 148 #[.int .i64 x, .int .i64 a] W fun e w' => e = .returned (pairOf (prodR x a)) ∧ W = w') := fun x hx W => impl_product x a W hx ha
 have HIR : ∀ (x : Int), x.natAbs ≤ 999999999999 → Hid (∀ W : World, Calls Tryz.prog 147 #[.int .i64 x] W fun e w' => e = .returned (.tuple #[.agg #[.int .i64 1, .int .i64 x, .int .i64 0, .string ⟨#[]⟩, .int .i64 0, .int .i64 0], .int .i64 0]) ∧ Below W.heap.size W w') := fun x hx W => by
  have h := impl_integerResult x W
  rw [numR_in hx] at h
  exact h
 have hz2 : (a == 0) = true ∨ (a == 0) = false := by cases (a == 0) <;> simp
 obtain ⟨z, hz⟩ : ∃ z, (a == 0) = z := ⟨_, rfl⟩
 have HZ : Hid (z = true → bn = 0) := fun h => HF.out (by rw [hz, h])
 clear hz2 HF
 cases z with
 | true =>
   have hb0 := HZ.out rfl
   subst hb0
   have HV : Hid (powR a ((0 : Nat) : Int) = (.int 1, 0)) := by show _ = _; rw [HR.out]; rfl
   have HI := HIR 1 (by decide)
   rw [HV.out]
   clear HR HV HPI HIR HZ c1 c7
   unfold Pair pairV LitT.val
   obtain ⟨br, B0⟩ := boxes1 w 76 #[.int .i64 0, .int .i64 0, .int .i64 0, .string ⟨#[]⟩, .int .i64 0, .int .i64 0]
   go_enter Tryz.func149, Tryz.ntmps149
   go_wp2_with fail
   go_loopw [1, 6] (fun i n wr => i = .int .i64 0 ∧ n = .int .i64 1 ∧ wr = w.alloc (.cells #[.int .i64 0, .int .i64 0, .int .i64 0, .string ⟨#[]⟩, .int .i64 0, .int .i64 0] 76)) (fun i n _ => 0)
   case atStart => exact ⟨rfl, rfl, rfl⟩
   case round =>
    obtain ⟨rfl, rfl, rfl⟩ := hrel
    obtain ⟨cbr, lbr, fbr⟩ := br.all
    go_wp2_with fail
    refine (HI.out _).mono ?_; rintro e w1 ⟨rfl, hb⟩
    have B1 : Below w.heap.size w w1 := B0.trans (hb.mono B0.size)
    try clear cbr lbr fbr
    replace br := (br).later hb
    clear hb
    obtain ⟨cbr, lbr, fbr⟩ := br.all
    go_wp2_with fail
    have hF := ((((((br.set_ 0 (.int .i64 1)).set_ 1 (.int .i64 (1))).set_ 2 (.int .i64 0)).set_ 3 (.string ⟨#[]⟩)).set_ 4 (.int .i64 0)).set_ 5 (.int .i64 0))
    have cF := hF.cell
    refine bodyPost_ret (v := .tuple #[.agg #[.int .i64 1, .int .i64 1, .int .i64 0, .string ⟨#[]⟩, .int .i64 0, .int .i64 0], .int .i64 0]) ?_ rfl ⟨?_, ?_⟩
    ·simp [results, Tryz.results149, go_sem, cF]
    ·rfl
    ·repeat' first | with_reducible exact B1 | with_reducible refine Below.setCell ?_ (by have hs := B1.size; first | omega | (simp; omega) | simp) _ | with_reducible refine Below.alloc ?_ (by have hs := B1.size; first | omega | (simp; omega) | simp) _
 | false =>
   clear HZ
   unfold Pair
   obtain ⟨br, B0⟩ := boxes1 w 76 #[.int .i64 0, .int .i64 0, .int .i64 0, .string ⟨#[]⟩, .int .i64 0, .int .i64 0]
   go_enter Tryz.func149, Tryz.ntmps149
   go_wp2_with fail
   go_loopw [1, 6] (fun i n wr => ∃ (k : Nat) (m : Int), k ≤ bn ∧ i = .int .i64 k ∧ n = .int .i64 m ∧ m.natAbs ≤ 999999999999 ∧ Hid (powL a bn 1 = powL a k m) ∧ wr = w.alloc (.cells #[.int .i64 0, .int .i64 0, .int .i64 0, .string ⟨#[]⟩, .int .i64 0, .int .i64 0] 76)) (fun i n _ => (intOf i).toNat)
   case atStart => exact ⟨bn, 1, Nat.le_refl _, rfl, rfl, by decide, rfl, rfl⟩
   case round =>
    obtain ⟨k, m, hk, rfl, rfl, hm, hp, rfl⟩ := hrel
    obtain ⟨cbr, lbr, fbr⟩ := br.all
    have HI := HIR m hm
    by_cases hlt : 0 < k
    ·have hpp := HPI m hm
     obtain ⟨k, rfl⟩ : ∃ k', k = k' + 1 := ⟨k - 1, by omega⟩
     by_cases hq : 999999999999 < m.natAbs * a.natAbs
     ·have HV : Hid (powR a (bn : Int) = (.null, 203)) := by show _ = _; rw [HR.out, hp.out, powL_no hq]; rfl
      have hc : prodR m a = none := by rw [prodR, if_neg (prod_no hq)]
      rw [hc] at hpp
      unfold pairOf at hpp
      clear hp hq hc HI HIR HPI
      go_wp2_with fail
      refine (hpp.out _).mono ?_; rintro e wz ⟨rfl, rfl⟩
      go_wp2_with fail
      refine bodyPost_ret (v := .tuple #[.agg #[.int .i64 0, .int .i64 0, .int .i64 0, .string ⟨#[]⟩, .int .i64 0, .int .i64 0], .int .i64 203]) ?_ rfl ⟨?_, ?_⟩
      ·simp [results, Tryz.results149, go_sem]
      ·rw [HV.out]; rfl
      ·repeat' first | with_reducible exact B0 | with_reducible exact ((Below.refl w.heap.size w).alloc (Nat.le_refl _) _) | with_reducible refine Below.setCell ?_ (by have hs := B0.size; first | omega | (simp; omega) | simp) _ | with_reducible refine Below.alloc ?_ (by have hs := B0.size; first | omega | (simp; omega) | simp) _
     ·have hc : prodR m a = some (m * a) := by rw [prodR, if_pos (prod_yes hq)]
      have HN : Hid (powL a bn 1 = powL a k (m * a)) := by show _ = _; rw [hp.out, powL_yes hq]
      have hm2 := prod_yes hq
      rw [hc] at hpp
      unfold pairOf at hpp
      clear hp hq hc HI
      generalize m * a = ma at *
      go_wp2_with fail
      refine (hpp.out _).mono ?_; rintro e wz ⟨rfl, rfl⟩
      go_wp2_with fail
      go_roundw
      case rel => exact ⟨k, ma, by omega, by go_num, rfl, hm2, HN, trivial⟩
      case measure => simp [intOf] <;> omega
    ·have hk0 : k = 0 := by omega
     have HV : Hid (powR a (bn : Int) = (.int m, 0)) := by show _ = _; rw [HR.out, hp.out, hk0]; rfl
     clear hp HPI HIR
     subst hk0
     go_wp2_with fail
     refine (HI.out _).mono ?_; rintro e w1 ⟨rfl, hb⟩
     have B1 : Below w.heap.size w w1 := B0.trans (hb.mono B0.size)
     try clear cbr lbr fbr
     replace br := (br).later hb
     clear hb
     obtain ⟨cbr, lbr, fbr⟩ := br.all
     go_wp2_with fail
     have hF := ((((((br.set_ 0 (.int .i64 1)).set_ 1 (.int .i64 (m))).set_ 2 (.int .i64 0)).set_ 3 (.string ⟨#[]⟩)).set_ 4 (.int .i64 0)).set_ 5 (.int .i64 0))
     have cF := hF.cell
     refine bodyPost_ret (v := .tuple #[.agg #[.int .i64 1, .int .i64 m, .int .i64 0, .string ⟨#[]⟩, .int .i64 0, .int .i64 0], .int .i64 0]) ?_ rfl ⟨?_, ?_⟩
     ·simp [results, Tryz.results149, go_sem, cF]
     ·rw [HV.out]; rfl
     ·repeat' first | with_reducible exact B1 | with_reducible refine Below.setCell ?_ (by have hs := B1.size; first | omega | (simp; omega) | simp) _ | with_reducible refine Below.alloc ?_ (by have hs := B1.size; first | omega | (simp; omega) | simp) _
theorem impl_arithmetic (op a b : Int) (w : World) (ha : a.natAbs ≤ 999999999999) (hb : b.natAbs ≤ 999999999999) (h0 : 20 ≤ op) (h1 : op ≤ 25) : Calls Tryz.prog 130 #[.int .i64 op, .int .i64 a, .int .i64 b] w (Pair (arithR op a b) w) := by
 obtain rfl | rfl | rfl | rfl | rfl | rfl : op = 20 ∨ op = 21 ∨ op = 22 ∨ op = 23 ∨ op = 24 ∨ op = 25 := by omega
 ·have HA : Hid (arithR 20 a b = numR (a + b)) := by show _ = _; simp [arithR]
  rw [HA.out]
  clear HA
  have x0 : -999999999999 ≤ a := by omega
  have x1 : a ≤ 999999999999 := by omega
  have x2 : -999999999999 ≤ b := by omega
  have x3 : b ≤ 999999999999 := by omega
  have HC := Lib.hid (fun W : World => impl_integerResult (a + b) W)
  by_cases h : -999999999999 ≤ a + b ∧ a + b ≤ 999999999999
  ·have HR : Hid (numR (a + b) = (.int (a + b), 0)) := by show _ = _; rw [numR, if_pos h]
   rw [HR.out] at HC ⊢
   unfold Pair pairV LitT.val at HC ⊢
   clear HR h
   obtain ⟨br, B0⟩ := boxes1 w 76 #[.int .i64 0, .int .i64 0, .int .i64 0, .string ⟨#[]⟩, .int .i64 0, .int .i64 0]
   go_enter Tryz.func130, Tryz.ntmps130
   go_wp2_with fail
   refine (HC.out _).mono ?_; rintro e w1 ⟨rfl, hb⟩
   have B1 : Below w.heap.size w w1 := B0.trans (hb.mono B0.size)
   try clear cbr lbr fbr
   replace br := (br).later hb
   clear hb
   obtain ⟨cbr, lbr, fbr⟩ := br.all
   go_wp2_with fail
   have hF := ((((((br.set_ 0 (.int .i64 1)).set_ 1 (.int .i64 (a + b))).set_ 2 (.int .i64 0)).set_ 3 (.string ⟨#[]⟩)).set_ 4 (.int .i64 0)).set_ 5 (.int .i64 0))
   have cF := hF.cell
   refine bodyPost_ret (v := .tuple #[.agg #[.int .i64 1, .int .i64 (a + b), .int .i64 0, .string ⟨#[]⟩, .int .i64 0, .int .i64 0], .int .i64 0]) ?_ rfl ⟨?_, ?_⟩
   ·simp [results, Tryz.results130, go_sem, cF]
   ·rfl
   ·repeat' first | with_reducible exact B1 | with_reducible refine Below.setCell ?_ (by have hs := B1.size; first | omega | (simp; omega) | simp) _ | with_reducible refine Below.alloc ?_ (by have hs := B1.size; first | omega | (simp; omega) | simp) _
  ·have HR : Hid (numR (a + b) = (.null, 203)) := by show _ = _; rw [numR, if_neg h]
   rw [HR.out] at HC ⊢
   unfold Pair pairV LitT.val at HC ⊢
   clear HR h
   obtain ⟨br, B0⟩ := boxes1 w 76 #[.int .i64 0, .int .i64 0, .int .i64 0, .string ⟨#[]⟩, .int .i64 0, .int .i64 0]
   go_enter Tryz.func130, Tryz.ntmps130
   go_wp2_with fail
   refine (HC.out _).mono ?_; rintro e w1 ⟨rfl, hb⟩
   have B1 : Below w.heap.size w w1 := B0.trans (hb.mono B0.size)
   try clear cbr lbr fbr
   replace br := (br).later hb
   clear hb
   obtain ⟨cbr, lbr, fbr⟩ := br.all
   go_wp2_with fail
   have hF := ((((((br.set_ 0 (.int .i64 0)).set_ 1 (.int .i64 (0))).set_ 2 (.int .i64 0)).set_ 3 (.string ⟨#[]⟩)).set_ 4 (.int .i64 0)).set_ 5 (.int .i64 0))
   have cF := hF.cell
   refine bodyPost_ret (v := .tuple #[.agg #[.int .i64 0, .int .i64 (0), .int .i64 0, .string ⟨#[]⟩, .int .i64 0, .int .i64 0], .int .i64 203]) ?_ rfl ⟨?_, ?_⟩
   ·simp [results, Tryz.results130, go_sem, cF]
   ·rfl
   ·repeat' first | with_reducible exact B1 | with_reducible refine Below.setCell ?_ (by have hs := B1.size; first | omega | (simp; omega) | simp) _ | with_reducible refine Below.alloc ?_ (by have hs := B1.size; first | omega | (simp; omega) | simp) _
 ·have HA : Hid (arithR 21 a b = numR (a - b)) := by show _ = _; simp [arithR]
  rw [HA.out]
  clear HA
  have x0 : -999999999999 ≤ a := by omega
  have x1 : a ≤ 999999999999 := by omega
  have x2 : -999999999999 ≤ b := by omega
  have x3 : b ≤ 999999999999 := by omega
  have HC := Lib.hid (fun W : World => impl_integerResult (a - b) W)
  by_cases h : -999999999999 ≤ a - b ∧ a - b ≤ 999999999999
  ·have HR : Hid (numR (a - b) = (.int (a - b), 0)) := by show _ = _; rw [numR, if_pos h]
   rw [HR.out] at HC ⊢
   unfold Pair pairV LitT.val at HC ⊢
   clear HR h
   obtain ⟨br, B0⟩ := boxes1 w 76 #[.int .i64 0, .int .i64 0, .int .i64 0, .string ⟨#[]⟩, .int .i64 0, .int .i64 0]
   go_enter Tryz.func130, Tryz.ntmps130
   go_wp2_with fail
   refine (HC.out _).mono ?_; rintro e w1 ⟨rfl, hb⟩
   have B1 : Below w.heap.size w w1 := B0.trans (hb.mono B0.size)
   try clear cbr lbr fbr
   replace br := (br).later hb
   clear hb
   obtain ⟨cbr, lbr, fbr⟩ := br.all
   go_wp2_with fail
   have hF := ((((((br.set_ 0 (.int .i64 1)).set_ 1 (.int .i64 (a - b))).set_ 2 (.int .i64 0)).set_ 3 (.string ⟨#[]⟩)).set_ 4 (.int .i64 0)).set_ 5 (.int .i64 0))
   have cF := hF.cell
   refine bodyPost_ret (v := .tuple #[.agg #[.int .i64 1, .int .i64 (a - b), .int .i64 0, .string ⟨#[]⟩, .int .i64 0, .int .i64 0], .int .i64 0]) ?_ rfl ⟨?_, ?_⟩
   ·simp [results, Tryz.results130, go_sem, cF]
   ·rfl
   ·repeat' first | with_reducible exact B1 | with_reducible refine Below.setCell ?_ (by have hs := B1.size; first | omega | (simp; omega) | simp) _ | with_reducible refine Below.alloc ?_ (by have hs := B1.size; first | omega | (simp; omega) | simp) _
  ·have HR : Hid (numR (a - b) = (.null, 203)) := by show _ = _; rw [numR, if_neg h]
   rw [HR.out] at HC ⊢
   unfold Pair pairV LitT.val at HC ⊢
   clear HR h
   obtain ⟨br, B0⟩ := boxes1 w 76 #[.int .i64 0, .int .i64 0, .int .i64 0, .string ⟨#[]⟩, .int .i64 0, .int .i64 0]
   go_enter Tryz.func130, Tryz.ntmps130
   go_wp2_with fail
   refine (HC.out _).mono ?_; rintro e w1 ⟨rfl, hb⟩
   have B1 : Below w.heap.size w w1 := B0.trans (hb.mono B0.size)
   try clear cbr lbr fbr
   replace br := (br).later hb
   clear hb
   obtain ⟨cbr, lbr, fbr⟩ := br.all
   go_wp2_with fail
   have hF := ((((((br.set_ 0 (.int .i64 0)).set_ 1 (.int .i64 (0))).set_ 2 (.int .i64 0)).set_ 3 (.string ⟨#[]⟩)).set_ 4 (.int .i64 0)).set_ 5 (.int .i64 0))
   have cF := hF.cell
   refine bodyPost_ret (v := .tuple #[.agg #[.int .i64 0, .int .i64 (0), .int .i64 0, .string ⟨#[]⟩, .int .i64 0, .int .i64 0], .int .i64 203]) ?_ rfl ⟨?_, ?_⟩
   ·simp [results, Tryz.results130, go_sem, cF]
   ·rfl
   ·repeat' first | with_reducible exact B1 | with_reducible refine Below.setCell ?_ (by have hs := B1.size; first | omega | (simp; omega) | simp) _ | with_reducible refine Below.alloc ?_ (by have hs := B1.size; first | omega | (simp; omega) | simp) _
 ·have HC := Lib.hid (fun W : World => impl_product a b W ha hb)
  by_cases hq : 999999999999 < a.natAbs * b.natAbs
  ·have hc : prodR a b = none := by rw [prodR, if_neg (prod_no hq)]
   have HR : Hid (arithR 22 a b = (.null, 203)) := by show _ = _; simp [arithR, hq]
   rw [HR.out]
   rw [hc] at HC
   unfold pairOf at HC
   unfold Pair pairV LitT.val
   clear HR hq hc
   obtain ⟨br, B0⟩ := boxes1 w 76 #[.int .i64 0, .int .i64 0, .int .i64 0, .string ⟨#[]⟩, .int .i64 0, .int .i64 0]
   go_enter Tryz.func130, Tryz.ntmps130
   go_wp2_with fail
   refine (HC.out _).mono ?_; rintro e wz ⟨rfl, rfl⟩
   go_wp2_with fail
   refine bodyPost_ret (v := .tuple #[.agg #[.int .i64 0, .int .i64 0, .int .i64 0, .string ⟨#[]⟩, .int .i64 0, .int .i64 0], .int .i64 203]) ?_ rfl ⟨?_, ?_⟩
   ·simp [results, Tryz.results130, go_sem]
   ·rfl
   ·repeat' first | with_reducible exact B0 | with_reducible exact ((Below.refl w.heap.size w).alloc (Nat.le_refl _) _) | with_reducible refine Below.setCell ?_ (by have hs := B0.size; first | omega | (simp; omega) | simp) _ | with_reducible refine Below.alloc ?_ (by have hs := B0.size; first | omega | (simp; omega) | simp) _
  ·have hc : prodR a b = some (a * b) := by rw [prodR, if_pos (prod_yes hq)]
   have HR : Hid (arithR 22 a b = (.int (a * b), 0)) := by show _ = _; simp [arithR, hq]
   have hm2 := prod_yes hq
   rw [HR.out]
   rw [hc] at HC
   unfold pairOf at HC
   unfold Pair pairV LitT.val
   clear HR hq hc
   generalize a * b = ab at *
   have HI : Hid (∀ W : World, Calls Tryz.prog 147 #[.int .i64 (ab)] W fun e w' => e = .returned (.tuple #[.agg #[.int .i64 1, .int .i64 (ab), .int .i64 0, .string ⟨#[]⟩, .int .i64 0, .int .i64 0], .int .i64 0]) ∧ Below W.heap.size W w') := fun W => by
    have h := impl_integerResult (ab) W
    rw [numR_in (by omega)] at h
    exact h
   obtain ⟨br, B0⟩ := boxes1 w 76 #[.int .i64 0, .int .i64 0, .int .i64 0, .string ⟨#[]⟩, .int .i64 0, .int .i64 0]
   go_enter Tryz.func130, Tryz.ntmps130
   go_wp2_with fail
   refine (HC.out _).mono ?_; rintro e wz ⟨rfl, rfl⟩
   go_wp2_with fail
   refine (HI.out _).mono ?_; rintro e w1 ⟨rfl, hb⟩
   have B1 : Below w.heap.size w w1 := B0.trans (hb.mono B0.size)
   try clear cbr lbr fbr
   replace br := (br).later hb
   clear hb
   obtain ⟨cbr, lbr, fbr⟩ := br.all
   go_wp2_with fail
   have hF := ((((((br.set_ 0 (.int .i64 1)).set_ 1 (.int .i64 (ab))).set_ 2 (.int .i64 0)).set_ 3 (.string ⟨#[]⟩)).set_ 4 (.int .i64 0)).set_ 5 (.int .i64 0))
   have cF := hF.cell
   refine bodyPost_ret (v := .tuple #[.agg #[.int .i64 1, .int .i64 ab, .int .i64 0, .string ⟨#[]⟩, .int .i64 0, .int .i64 0], .int .i64 0]) ?_ rfl ⟨?_, ?_⟩
   ·simp [results, Tryz.results130, go_sem, cF]
   ·rfl
   ·repeat' first | with_reducible exact B1 | with_reducible refine Below.setCell ?_ (by have hs := B1.size; first | omega | (simp; omega) | simp) _ | with_reducible refine Below.alloc ?_ (by have hs := B1.size; first | omega | (simp; omega) | simp) _
 ·by_cases hz : b = 0
  ·subst hz
   have HR : Hid (arithR 23 a 0 = (.null, 201)) := by show _ = _; simp [arithR]
   rw [HR.out]
   clear HR
   unfold Pair pairV LitT.val
   obtain ⟨br, B0⟩ := boxes1 w 76 #[.int .i64 0, .int .i64 0, .int .i64 0, .string ⟨#[]⟩, .int .i64 0, .int .i64 0]
   go_enter Tryz.func130, Tryz.ntmps130
   go_wp2_with fail
   refine bodyPost_ret (v := .tuple #[.agg #[.int .i64 0, .int .i64 0, .int .i64 0, .string ⟨#[]⟩, .int .i64 0, .int .i64 0], .int .i64 201]) ?_ rfl ⟨?_, ?_⟩
   ·simp [results, Tryz.results130, go_sem]
   ·rfl
   ·repeat' first | with_reducible exact B0 | with_reducible exact ((Below.refl w.heap.size w).alloc (Nat.le_refl _) _) | with_reducible refine Below.setCell ?_ (by have hs := B0.size; first | omega | (simp; omega) | simp) _ | with_reducible refine Below.alloc ?_ (by have hs := B0.size; first | omega | (simp; omega) | simp) _
  ·have HR : Hid (arithR 23 a b = (.int (a.tdiv b), 0)) := by show _ = _; simp [arithR, hz]
   have fz : (b == 0) = false := beq_eq_false_iff_ne.2 hz
   have q1 := Int.natAbs_tdiv_le_natAbs a b
   have q2 : (a.tmod b).natAbs ≤ a.natAbs := by rw [Int.natAbs_tmod]; exact Nat.mod_le _ _
   have q3 : (a.tdiv b).natAbs ≤ 999999999999 := by omega
   have q4 : a.tdiv b ≤ 999999999999 := by omega
   have q5 : -999999999999 ≤ a.tdiv b := by omega
   rw [HR.out]
   clear HR q1 q2
   unfold Pair pairV LitT.val
   have HI : Hid (∀ W : World, Calls Tryz.prog 147 #[.int .i64 ((a.tdiv b))] W fun e w' => e = .returned (.tuple #[.agg #[.int .i64 1, .int .i64 ((a.tdiv b)), .int .i64 0, .string ⟨#[]⟩, .int .i64 0, .int .i64 0], .int .i64 0]) ∧ Below W.heap.size W w') := fun W => by
    have h := impl_integerResult ((a.tdiv b)) W
    rw [numR_in (by omega)] at h
    exact h
   obtain ⟨br, B0⟩ := boxes1 w 76 #[.int .i64 0, .int .i64 0, .int .i64 0, .string ⟨#[]⟩, .int .i64 0, .int .i64 0]
   go_enter Tryz.func130, Tryz.ntmps130
   go_wp2_with fail
   refine (HI.out _).mono ?_; rintro e w1 ⟨rfl, hb⟩
   have B1 : Below w.heap.size w w1 := B0.trans (hb.mono B0.size)
   try clear cbr lbr fbr
   replace br := (br).later hb
   clear hb
   obtain ⟨cbr, lbr, fbr⟩ := br.all
   go_wp2_with fail
   have hF := ((((((br.set_ 0 (.int .i64 1)).set_ 1 (.int .i64 ((a.tdiv b)))).set_ 2 (.int .i64 0)).set_ 3 (.string ⟨#[]⟩)).set_ 4 (.int .i64 0)).set_ 5 (.int .i64 0))
   have cF := hF.cell
   refine bodyPost_ret (v := .tuple #[.agg #[.int .i64 1, .int .i64 (a.tdiv b), .int .i64 0, .string ⟨#[]⟩, .int .i64 0, .int .i64 0], .int .i64 0]) ?_ rfl ⟨?_, ?_⟩
   ·simp [results, Tryz.results130, go_sem, cF]
   ·rfl
   ·repeat' first | with_reducible exact B1 | with_reducible refine Below.setCell ?_ (by have hs := B1.size; first | omega | (simp; omega) | simp) _ | with_reducible refine Below.alloc ?_ (by have hs := B1.size; first | omega | (simp; omega) | simp) _
 ·by_cases hz : b = 0
  ·subst hz
   have HR : Hid (arithR 24 a 0 = (.null, 201)) := by show _ = _; simp [arithR]
   rw [HR.out]
   clear HR
   unfold Pair pairV LitT.val
   obtain ⟨br, B0⟩ := boxes1 w 76 #[.int .i64 0, .int .i64 0, .int .i64 0, .string ⟨#[]⟩, .int .i64 0, .int .i64 0]
   go_enter Tryz.func130, Tryz.ntmps130
   go_wp2_with fail
   refine bodyPost_ret (v := .tuple #[.agg #[.int .i64 0, .int .i64 0, .int .i64 0, .string ⟨#[]⟩, .int .i64 0, .int .i64 0], .int .i64 201]) ?_ rfl ⟨?_, ?_⟩
   ·simp [results, Tryz.results130, go_sem]
   ·rfl
   ·repeat' first | with_reducible exact B0 | with_reducible exact ((Below.refl w.heap.size w).alloc (Nat.le_refl _) _) | with_reducible refine Below.setCell ?_ (by have hs := B0.size; first | omega | (simp; omega) | simp) _ | with_reducible refine Below.alloc ?_ (by have hs := B0.size; first | omega | (simp; omega) | simp) _
  ·have HR : Hid (arithR 24 a b = (.int (a.tmod b), 0)) := by show _ = _; simp [arithR, hz]
   have fz : (b == 0) = false := beq_eq_false_iff_ne.2 hz
   have q1 := Int.natAbs_tdiv_le_natAbs a b
   have q2 : (a.tmod b).natAbs ≤ a.natAbs := by rw [Int.natAbs_tmod]; exact Nat.mod_le _ _
   have q3 : (a.tmod b).natAbs ≤ 999999999999 := by omega
   have q4 : a.tdiv b ≤ 999999999999 := by omega
   have q5 : -999999999999 ≤ a.tdiv b := by omega
   rw [HR.out]
   clear HR q1 q2
   unfold Pair pairV LitT.val
   have HI : Hid (∀ W : World, Calls Tryz.prog 147 #[.int .i64 ((a.tmod b))] W fun e w' => e = .returned (.tuple #[.agg #[.int .i64 1, .int .i64 ((a.tmod b)), .int .i64 0, .string ⟨#[]⟩, .int .i64 0, .int .i64 0], .int .i64 0]) ∧ Below W.heap.size W w') := fun W => by
    have h := impl_integerResult ((a.tmod b)) W
    rw [numR_in (by omega)] at h
    exact h
   obtain ⟨br, B0⟩ := boxes1 w 76 #[.int .i64 0, .int .i64 0, .int .i64 0, .string ⟨#[]⟩, .int .i64 0, .int .i64 0]
   go_enter Tryz.func130, Tryz.ntmps130
   go_wp2_with fail
   refine (HI.out _).mono ?_; rintro e w1 ⟨rfl, hb⟩
   have B1 : Below w.heap.size w w1 := B0.trans (hb.mono B0.size)
   try clear cbr lbr fbr
   replace br := (br).later hb
   clear hb
   obtain ⟨cbr, lbr, fbr⟩ := br.all
   go_wp2_with fail
   have hF := ((((((br.set_ 0 (.int .i64 1)).set_ 1 (.int .i64 ((a.tmod b)))).set_ 2 (.int .i64 0)).set_ 3 (.string ⟨#[]⟩)).set_ 4 (.int .i64 0)).set_ 5 (.int .i64 0))
   have cF := hF.cell
   refine bodyPost_ret (v := .tuple #[.agg #[.int .i64 1, .int .i64 (a.tmod b), .int .i64 0, .string ⟨#[]⟩, .int .i64 0, .int .i64 0], .int .i64 0]) ?_ rfl ⟨?_, ?_⟩
   ·simp [results, Tryz.results130, go_sem, cF]
   ·rfl
   ·repeat' first | with_reducible exact B1 | with_reducible refine Below.setCell ?_ (by have hs := B1.size; first | omega | (simp; omega) | simp) _ | with_reducible refine Below.alloc ?_ (by have hs := B1.size; first | omega | (simp; omega) | simp) _
 ·have HA : Hid (arithR 25 a b = powR a b) := by show _ = _; simp [arithR]
  rw [HA.out]
  have HC := Lib.hid (fun W : World => impl_power a b W ha hb)
  clear HA
  generalize powR a b = r at *
  obtain ⟨v, k⟩ := r
  cases v with
  | null =>
    unfold Pair pairV LitT.val at HC ⊢
    obtain ⟨br, B0⟩ := boxes1 w 76 #[.int .i64 0, .int .i64 0, .int .i64 0, .string ⟨#[]⟩, .int .i64 0, .int .i64 0]
    go_enter Tryz.func130, Tryz.ntmps130
    go_wp2_with fail
    refine (HC.out _).mono ?_; rintro e w1 ⟨rfl, hb⟩
    have B1 : Below w.heap.size w w1 := B0.trans (hb.mono B0.size)
    try clear cbr lbr fbr
    replace br := (br).later hb
    clear hb
    obtain ⟨cbr, lbr, fbr⟩ := br.all
    go_wp2_with fail
    have hF := (((((((br.set_ 0 (.int .i64 0)).set_ 1 (.int .i64 (0))).set_ 2 (.int .i64 0)).set_ 3 (.string ⟨#[]⟩)).set_ 4 (.int .i64 0)).set_ 5 (.int .i64 0)).alloc (.cells #[.int .i64 0, .int .i64 (0), .int .i64 0, .string ⟨#[]⟩, .int .i64 0, .int .i64 0] 76))
    have cF := hF.cell
    refine bodyPost_ret (v := .tuple #[.agg #[.int .i64 0, .int .i64 (0), .int .i64 0, .string ⟨#[]⟩, .int .i64 0, .int .i64 0], .int .i64 k]) ?_ rfl ⟨?_, ?_⟩
    ·simp [results, Tryz.results130, go_sem, cF]
    ·rfl
    ·repeat' first | with_reducible exact B1 | with_reducible refine Below.setCell ?_ (by have hs := B1.size; first | omega | (simp; omega) | simp) _ | with_reducible refine Below.alloc ?_ (by have hs := B1.size; first | omega | (simp; omega) | simp) _
  | int n =>
    unfold Pair pairV LitT.val at HC ⊢
    obtain ⟨br, B0⟩ := boxes1 w 76 #[.int .i64 0, .int .i64 0, .int .i64 0, .string ⟨#[]⟩, .int .i64 0, .int .i64 0]
    go_enter Tryz.func130, Tryz.ntmps130
    go_wp2_with fail
    refine (HC.out _).mono ?_; rintro e w1 ⟨rfl, hb⟩
    have B1 : Below w.heap.size w w1 := B0.trans (hb.mono B0.size)
    try clear cbr lbr fbr
    replace br := (br).later hb
    clear hb
    obtain ⟨cbr, lbr, fbr⟩ := br.all
    go_wp2_with fail
    have hF := (((((((br.set_ 0 (.int .i64 1)).set_ 1 (.int .i64 (n))).set_ 2 (.int .i64 0)).set_ 3 (.string ⟨#[]⟩)).set_ 4 (.int .i64 0)).set_ 5 (.int .i64 0)).alloc (.cells #[.int .i64 1, .int .i64 (n), .int .i64 0, .string ⟨#[]⟩, .int .i64 0, .int .i64 0] 76))
    have cF := hF.cell
    refine bodyPost_ret (v := .tuple #[.agg #[.int .i64 1, .int .i64 (n), .int .i64 0, .string ⟨#[]⟩, .int .i64 0, .int .i64 0], .int .i64 k]) ?_ rfl ⟨?_, ?_⟩
    ·simp [results, Tryz.results130, go_sem, cF]
    ·rfl
    ·repeat' first | with_reducible exact B1 | with_reducible refine Below.setCell ?_ (by have hs := B1.size; first | omega | (simp; omega) | simp) _ | with_reducible refine Below.alloc ?_ (by have hs := B1.size; first | omega | (simp; omega) | simp) _
  | text s =>
    unfold Pair pairV LitT.val at HC ⊢
    obtain ⟨br, B0⟩ := boxes1 w 76 #[.int .i64 0, .int .i64 0, .int .i64 0, .string ⟨#[]⟩, .int .i64 0, .int .i64 0]
    go_enter Tryz.func130, Tryz.ntmps130
    go_wp2_with fail
    refine (HC.out _).mono ?_; rintro e w1 ⟨rfl, hb⟩
    have B1 : Below w.heap.size w w1 := B0.trans (hb.mono B0.size)
    try clear cbr lbr fbr
    replace br := (br).later hb
    clear hb
    obtain ⟨cbr, lbr, fbr⟩ := br.all
    go_wp2_with fail
    have hF := (((((((br.set_ 0 (.int .i64 2)).set_ 1 (.int .i64 (0))).set_ 2 (.int .i64 0)).set_ 3 (.string s)).set_ 4 (.int .i64 0)).set_ 5 (.int .i64 0)).alloc (.cells #[.int .i64 2, .int .i64 (0), .int .i64 0, .string s, .int .i64 0, .int .i64 0] 76))
    have cF := hF.cell
    refine bodyPost_ret (v := .tuple #[.agg #[.int .i64 2, .int .i64 (0), .int .i64 0, .string s, .int .i64 0, .int .i64 0], .int .i64 k]) ?_ rfl ⟨?_, ?_⟩
    ·simp [results, Tryz.results130, go_sem, cF]
    ·rfl
    ·repeat' first | with_reducible exact B1 | with_reducible refine Below.setCell ?_ (by have hs := B1.size; first | omega | (simp; omega) | simp) _ | with_reducible refine Below.alloc ?_ (by have hs := B1.size; first | omega | (simp; omega) | simp) _
  | set c =>
    unfold Pair pairV LitT.val at HC ⊢
    obtain ⟨br, B0⟩ := boxes1 w 76 #[.int .i64 0, .int .i64 0, .int .i64 0, .string ⟨#[]⟩, .int .i64 0, .int .i64 0]
    go_enter Tryz.func130, Tryz.ntmps130
    go_wp2_with fail
    refine (HC.out _).mono ?_; rintro e w1 ⟨rfl, hb⟩
    have B1 : Below w.heap.size w w1 := B0.trans (hb.mono B0.size)
    try clear cbr lbr fbr
    replace br := (br).later hb
    clear hb
    obtain ⟨cbr, lbr, fbr⟩ := br.all
    go_wp2_with fail
    have hF := (((((((br.set_ 0 (.int .i64 3)).set_ 1 (.int .i64 (0))).set_ 2 (.int .i64 0)).set_ 3 (.string ⟨#[]⟩)).set_ 4 (.int .i64 c.lo.toInt)).set_ 5 (.int .i64 c.hi.toInt)).alloc (.cells #[.int .i64 3, .int .i64 (0), .int .i64 0, .string ⟨#[]⟩, .int .i64 c.lo.toInt, .int .i64 c.hi.toInt] 76))
    have cF := hF.cell
    refine bodyPost_ret (v := .tuple #[.agg #[.int .i64 3, .int .i64 (0), .int .i64 0, .string ⟨#[]⟩, .int .i64 c.lo.toInt, .int .i64 c.hi.toInt], .int .i64 k]) ?_ rfl ⟨?_, ?_⟩
    ·simp [results, Tryz.results130, go_sem, cF]
    ·rfl
    ·repeat' first | with_reducible exact B1 | with_reducible refine Below.setCell ?_ (by have hs := B1.size; first | omega | (simp; omega) | simp) _ | with_reducible refine Below.alloc ?_ (by have hs := B1.size; first | omega | (simp; omega) | simp) _
end Go.Proofs.YtjeomamdlmoghaaGreatDoor
end
