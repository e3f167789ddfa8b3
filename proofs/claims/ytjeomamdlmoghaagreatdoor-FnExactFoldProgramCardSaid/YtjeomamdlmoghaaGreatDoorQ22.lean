/- Comparisons and sets of the reference. Sets out of literals, sums and powers of the reference. Leaves and literals of the program. -/
import Derived.Test.YtjeomamdlmoghaaGreatDoorQ00
import Derived.Test.YtjeomamdlmoghaaGreatDoorQSq
import Derived.Test.YtjeomamdlmoghaaGreatDoorQSr
import Derived.Test.YtjeomamdlmoghaaGreatDoorQ16
import Derived.Test.YtjeomamdlmoghaaGreatDoorQ19
import Derived.Test.YtjeomamdlmoghaaGreatDoorQ21
import Derived.Deep.QuietTactic
import Derived.Deep.LoopGhost
set_option maxRecDepth 100000
set_option maxHeartbeats 8000000
set_option linter.unusedVariables false
set_option linter.unusedSimpArgs false
section
namespace Go.Proofs.YtjeomamdlmoghaaGreatDoor
open Go.RowKit
theorem spec_UnionCsets (c d : CsetT) (w : World) : Calls Tryz.prog 99 #[c.val, d.val] w (Gives (c.or_ d).val w) := by
 unfold CsetT.val
 obtain ⟨bc, bd, br, B0⟩ := boxes3 w 74 #[.int .i64 c.lo.toInt, .int .i64 c.hi.toInt] 74 #[.int .i64 d.lo.toInt, .int .i64 d.hi.toInt] 74 #[.int .i64 0, .int .i64 0]
 go_enter Tryz.func99, Tryz.ntmps99
 go_wp2_with fail
 refine bodyPost_ret (v := .agg #[.int .i64 (bits .or .i64 c.lo.toInt d.lo.toInt), .int .i64 (bits .or .i64 c.hi.toInt d.hi.toInt)]) ?_ rfl ⟨?_, ?_⟩
 ·simp [results, Tryz.results99, go_sem]
 ·rw [bits_or_bv, bits_or_bv]; rfl
 ·skip
  first | exact ((((Below.refl w.heap.size w).alloc (Nat.le_refl _) _).alloc (by simp <;> omega) _).alloc (by simp <;> omega) _) | exact B0
theorem spec_IntersectCsets (c d : CsetT) (w : World) : Calls Tryz.prog 101 #[c.val, d.val] w (Gives (c.and_ d).val w) := by
 unfold CsetT.val
 obtain ⟨bc, bd, br, B0⟩ := boxes3 w 74 #[.int .i64 c.lo.toInt, .int .i64 c.hi.toInt] 74 #[.int .i64 d.lo.toInt, .int .i64 d.hi.toInt] 74 #[.int .i64 0, .int .i64 0]
 go_enter Tryz.func101, Tryz.ntmps101
 go_wp2_with fail
 refine bodyPost_ret (v := .agg #[.int .i64 (bits .and .i64 c.lo.toInt d.lo.toInt), .int .i64 (bits .and .i64 c.hi.toInt d.hi.toInt)]) ?_ rfl ⟨?_, ?_⟩
 ·simp [results, Tryz.results101, go_sem]
 ·rw [bits_and_bv, bits_and_bv]; rfl
 ·skip
  first | exact ((((Below.refl w.heap.size w).alloc (Nat.le_refl _) _).alloc (by simp <;> omega) _).alloc (by simp <;> omega) _) | exact B0
theorem spec_SubtractCsets (c d : CsetT) (w : World) : Calls Tryz.prog 100 #[c.val, d.val] w (Gives (c.sub_ d).val w) := by
 unfold CsetT.val
 obtain ⟨bc, bd, br, B0⟩ := boxes3 w 74 #[.int .i64 c.lo.toInt, .int .i64 c.hi.toInt] 74 #[.int .i64 d.lo.toInt, .int .i64 d.hi.toInt] 74 #[.int .i64 0, .int .i64 0]
 go_enter Tryz.func100, Tryz.ntmps100
 go_wp2_with fail
 refine bodyPost_ret (v := .agg #[.int .i64 (bits .andNot .i64 c.lo.toInt d.lo.toInt), .int .i64 (bits .andNot .i64 c.hi.toInt d.hi.toInt)]) ?_ rfl ⟨?_, ?_⟩
 ·simp [results, Tryz.results100, go_sem]
 ·rw [bits_sub_bv, bits_sub_bv]; rfl
 ·skip
  first | exact ((((Below.refl w.heap.size w).alloc (Nat.le_refl _) _).alloc (by simp <;> omega) _).alloc (by simp <;> omega) _) | exact B0
theorem spec_ComplementCset (c : CsetT) (w : World) : Calls Tryz.prog 95 #[c.val] w (Gives (c.not_).val w) := by
 unfold CsetT.val
 obtain ⟨bc, br, B0⟩ := boxes2 w 74 #[.int .i64 c.lo.toInt, .int .i64 c.hi.toInt] 74 #[.int .i64 0, .int .i64 0]
 go_enter Tryz.func95, Tryz.ntmps95
 go_wp2_with fail
 refine bodyPost_ret (v := .agg #[.int .i64 (bits .xor .i64 (-1) c.lo.toInt), .int .i64 (bits .xor .i64 (-1) c.hi.toInt)]) ?_ rfl ⟨?_, ?_⟩
 ·simp [results, Tryz.results95, go_sem]
 ·rw [bits_not_bv, bits_not_bv]; rfl
 ·skip
  first | exact (((Below.refl w.heap.size w).alloc (Nat.le_refl _) _).alloc (by simp <;> omega) _) | exact B0
theorem spec_ConcatTexts (a b : ByteArray) (w : World) (ha : a.size ≤ 120) (hb : b.size ≤ 120) :
 Calls Tryz.prog 123 #[.string a, .string b] w fun e w' => e = .returned (.tuple #[.string (if a.size + b.size ≤ 120 then a ++ b else ⟨#[]⟩), .bool (decide (a.size + b.size ≤ 120))]) ∧ w = w' := by
 by_cases h : a.size + b.size ≤ 120
 ·rw [if_pos h, decide_eq_true h]
  go_enter Tryz.func123, Tryz.ntmps123
  go_wp2_with fail
  go_ret2
  exact ⟨rfl, rfl⟩
 ·rw [if_neg h, decide_eq_false h]
  go_enter Tryz.func123, Tryz.ntmps123
  go_wp2_with fail
  go_ret2
  exact ⟨rfl, rfl⟩
theorem spec_CompareTexts (a b : ByteArray) (w : World) (ha : a.size ≤ 1048576) (hb : b.size ≤ 1048576) :
 Calls Tryz.prog 124 #[.string a, .string b] w fun e w' => e = .returned (.int .i64 (cmpS a b)) ∧ Below w.heap.size w w' := by
 have HR : Hid (cmpS a b = Lib.compareBytes (a.data.toList.drop 0) (b.data.toList.drop 0)) := rfl
 go_enter Tryz.func124, Tryz.ntmps124
 go_wp2_with fail
 go_loopw [5] (fun i wr => ∃ k : Nat, k ≤ a.size ∧ k ≤ b.size ∧ i = .int .i64 k ∧ Hid (cmpS a b = Lib.compareBytes (a.data.toList.drop k) (b.data.toList.drop k)) ∧ Below w.heap.size w wr) (fun i _ => a.size - (intOf i).toNat)
 case atStart => exact ⟨0, Nat.zero_le _, Nat.zero_le _, rfl, HR, Below.refl _ _⟩
 case round =>
  obtain ⟨k, hk, hk2, rfl, hc, hb⟩ := hrel
  by_cases h1 : k < a.size
  ·by_cases h2 : k < b.size
   ·have hx := byteAt_eq a k h1
    have hy := byteAt_eq b k h2
    have hs := cmpD h1 h2
    rw [hx, hy] at hs
    by_cases l1 : a[k].toNat < b[k].toNat
    ·have HV : Hid (cmpS a b = -1) := by show _ = _; rw [hc.out, hs, if_pos l1]
     have D1 : decide (a[k].toNat < b[k].toNat) = true := decide_eq_true l1
     clear hs hx hy hc
     go_wp2_with fail
     go_quiet (fail)
     go_wp2_with fail
     go_ret
     exact ⟨ret_int HV.out.symm, belN hb⟩
    have D1 : decide (a[k].toNat < b[k].toNat) = false := decide_eq_false l1
    by_cases l2 : b[k].toNat < a[k].toNat
    ·have HV : Hid (cmpS a b = 1) := by show _ = _; rw [hc.out, hs, if_neg l1, if_pos l2]
     have D2 : decide (b[k].toNat < a[k].toNat) = true := decide_eq_true l2
     clear hs hx hy hc
     go_wp2_with fail
     go_quiet (fail)
     go_wp2_with fail
     go_quiet (fail)
     go_wp2_with fail
     go_ret
     exact ⟨ret_int HV.out.symm, belN (belN hb)⟩
    have HN : Hid (cmpS a b = Lib.compareBytes (a.data.toList.drop (k + 1)) (b.data.toList.drop (k + 1))) := by show _ = _; rw [hc.out, hs, if_neg l1, if_neg l2]
    have D2 : decide (b[k].toNat < a[k].toNat) = false := decide_eq_false l2
    clear hs hx hy hc
    go_wp2_with fail
    go_quiet (fail)
    go_wp2_with fail
    go_quiet (fail)
    go_wp2_with fail
    go_roundw
    case rel => exact ⟨k + 1, by omega, by omega, by go_num, HN, belN hb⟩
    case measure => simp [intOf]; omega
   ·have HE : Hid (cmpS a b = if a.size < b.size then -1 else if b.size < a.size then 1 else 0) := by show _ = _; rw [hc.out]; exact cmpE hk hk2 (.inr (by omega))
    clear hc
    by_cases q1 : a.size < b.size
    ·exact absurd h1 (by omega)
    by_cases q2 : b.size < a.size
    ·go_wp2_with fail
     go_ret
     exact ⟨ret_int (by rw [HE.out, if_neg q1, if_pos q2]), hb⟩
    ·exact absurd h1 (by omega)
  ·have HE : Hid (cmpS a b = if a.size < b.size then -1 else if b.size < a.size then 1 else 0) := by show _ = _; rw [hc.out]; exact cmpE hk hk2 (.inl (by omega))
   clear hc
   by_cases q1 : a.size < b.size
   ·go_wp2_with fail
    go_ret
    exact ⟨ret_int (by rw [HE.out, if_pos q1]), hb⟩
   by_cases q2 : b.size < a.size
   ·exact absurd q2 (by omega)
   ·go_wp2_with fail
    go_ret
    exact ⟨ret_int (by rw [HE.out, if_neg q1, if_neg q2]), hb⟩
theorem spec_sign (a b : Int) (w : World) : Calls Tryz.prog 121 #[.int .i64 a, .int .i64 b] w fun e w' => e = .returned (.int .i64 (signI a b)) ∧ w = w' := by
 by_cases h1 : a < b
 ·have HR : Hid (signI a b = -1) := by show _ = _; rw [signI, if_pos h1]
  go_enter Tryz.func121, Tryz.ntmps121
  go_wp2_with fail
  go_ret
  exact ⟨ret_int HR.out.symm, rfl⟩
 by_cases h2 : b < a
 ·have HR : Hid (signI a b = 1) := by show _ = _; rw [signI, if_neg h1, if_pos h2]
  go_enter Tryz.func121, Tryz.ntmps121
  go_wp2_with fail
  go_ret
  exact ⟨ret_int HR.out.symm, rfl⟩
 ·have HR : Hid (signI a b = 0) := by show _ = _; rw [signI, if_neg h1, if_neg h2]
  go_enter Tryz.func121, Tryz.ntmps121
  go_wp2_with fail
  go_ret
  exact ⟨ret_int HR.out.symm, rfl⟩
theorem spec_holds (op k s : Int) (w : World) (h0 : 0 ≤ k) (h1 : k ≤ 5) (hop : op = 30 + k ∨ op = 40 + k) : Calls Tryz.prog 120 #[.int .i64 op, .int .i64 s] w fun e w' => e = .returned (.bool (holdsB k s)) ∧ w = w' := by
 obtain rfl | rfl | rfl | rfl | rfl | rfl : k = 0 ∨ k = 1 ∨ k = 2 ∨ k = 3 ∨ k = 4 ∨ k = 5 := by omega
 all_goals rcases hop with rfl | rfl
 all_goals
  go_enter Tryz.func120, Tryz.ntmps120
  go_wp2_with fail
  go_ret
  refine ⟨ret_bool ?_, rfl⟩
  rw [Bool.eq_iff_iff]
  simp [holdsB]
end Go.Proofs.YtjeomamdlmoghaaGreatDoor
end
section
namespace Go.Proofs.YtjeomamdlmoghaaGreatDoor
open Go.RowKit
theorem spec_ToCset (v : LitT) (hv : v.Ok) (w : World) : Calls Tryz.prog 94 #[v.val] w (Gives (setV v.toSet) w) := by
 cases v with
 | set c =>
   unfold LitT.val
   obtain ⟨bp, br, B0⟩ := boxes2 w 76 #[.int .i64 3, .int .i64 0, .int .i64 0, .string ⟨#[]⟩, .int .i64 c.lo.toInt, .int .i64 c.hi.toInt] 74 #[.int .i64 0, .int .i64 0]
   go_enter Tryz.func94, Tryz.ntmps94
   go_wp2_with fail
   refine bodyPost_ret (v := .tuple #[.agg #[.int .i64 c.lo.toInt, .int .i64 c.hi.toInt], .bool true]) ?_ rfl ⟨?_, ?_⟩
   ·simp [results, Tryz.results94, go_sem]
   ·rfl
   ·repeat' first | with_reducible exact B0 | with_reducible exact (((Below.refl w.heap.size w).alloc (Nat.le_refl _) _).alloc (by simp <;> omega) _) | with_reducible refine Below.setCell ?_ (by have hs := B0.size; first | omega | (simp; omega) | simp) _ | with_reducible refine Below.alloc ?_ (by have hs := B0.size; first | omega | (simp; omega) | simp) _
 | null =>
   have HC : Hid (∀ W : World, Below w.heap.size w W → Calls Tryz.prog 118 #[(LitT.null).val] W (Gives (.tuple #[.string ⟨#[]⟩, .bool false]) W)) := fun W hW => spec_ToText (.null) hv W
   unfold LitT.val at HC ⊢
   obtain ⟨bp, br, B0⟩ := boxes2 w 76 #[.int .i64 0, .int .i64 0, .int .i64 0, .string ⟨#[]⟩, .int .i64 0, .int .i64 0] 74 #[.int .i64 0, .int .i64 0]
   go_enter Tryz.func94, Tryz.ntmps94
   go_wp2_with fail
   refine (HC.out _ B0).mono ?_; rintro e w1 ⟨rfl, hb⟩
   have B1 : Below w.heap.size w w1 := B0.trans (hb.mono B0.size)
   try clear cbp lbp fbp
   try clear cbr lbr fbr
   replace bp := (bp).later hb
   replace br := (br).later hb
   clear hb
   obtain ⟨cbp, lbp, fbp⟩ := bp.all
   obtain ⟨cbr, lbr, fbr⟩ := br.all
   go_wp2_with fail
   refine bodyPost_ret (v := .tuple #[.agg #[.int .i64 0, .int .i64 0], .bool false]) ?_ rfl ⟨?_, ?_⟩
   ·simp [results, Tryz.results94, go_sem, cbr]
   ·rfl
   ·repeat' first | with_reducible exact B1 | with_reducible refine Below.setCell ?_ (by have hs := B1.size; first | omega | (simp; omega) | simp) _ | with_reducible refine Below.alloc ?_ (by have hs := B1.size; first | omega | (simp; omega) | simp) _
 | int n =>
   have HC : Hid (∀ W : World, Below w.heap.size w W → Calls Tryz.prog 118 #[(LitT.int n).val] W (Gives (.tuple #[.string (formatInt n), .bool true]) W)) := fun W hW => spec_ToText (.int n) hv W
   have hsz : (formatInt n).size ≤ 1048576 := by have := formatInt_size n (by have := hv.1; omega) (by have := hv.2; omega); omega
   have HN : Hid (∀ W : World, Calls Tryz.prog 67 #[.string (formatInt n)] W fun e w' => e = .returned (.tuple #[.agg #[.int .i64 (newCset (formatInt n)).lo.toInt, .int .i64 (newCset (formatInt n)).hi.toInt], .bool (asciiB (formatInt n))]) ∧ Below W.heap.size W w') := fun W => spec_NewCset (formatInt n) W hsz
   unfold LitT.val at HC ⊢
   obtain ⟨bp, br, B0⟩ := boxes2 w 76 #[.int .i64 1, .int .i64 n, .int .i64 0, .string ⟨#[]⟩, .int .i64 0, .int .i64 0] 74 #[.int .i64 0, .int .i64 0]
   go_enter Tryz.func94, Tryz.ntmps94
   go_wp2_with fail
   refine (HC.out _ B0).mono ?_; rintro e w1 ⟨rfl, hb⟩
   have B1 : Below w.heap.size w w1 := B0.trans (hb.mono B0.size)
   try clear cbp lbp fbp
   try clear cbr lbr fbr
   replace bp := (bp).later hb
   replace br := (br).later hb
   clear hb
   obtain ⟨cbp, lbp, fbp⟩ := bp.all
   obtain ⟨cbr, lbr, fbr⟩ := br.all
   go_wp2_with fail
   refine (HN.out _).mono ?_; rintro e w2 ⟨rfl, hb⟩
   have B2 : Below w.heap.size w w2 := B1.trans (hb.mono B1.size)
   try clear cbp lbp fbp
   try clear cbr lbr fbr
   replace bp := (bp).later hb
   replace br := (br).later hb
   clear hb
   obtain ⟨cbp, lbp, fbp⟩ := bp.all
   obtain ⟨cbr, lbr, fbr⟩ := br.all
   go_wp2_with fail
   refine bodyPost_ret (v := .tuple #[.agg #[.int .i64 (newCset (formatInt n)).lo.toInt, .int .i64 (newCset (formatInt n)).hi.toInt], .bool (asciiB (formatInt n))]) ?_ rfl ⟨?_, ?_⟩
   ·simp [results, Tryz.results94, go_sem, cbr]
   ·rw [show (LitT.int n).toSet = setOf (formatInt n) from rfl, setV_of]
   ·repeat' first | with_reducible exact B2 | with_reducible refine Below.setCell ?_ (by have hs := B2.size; first | omega | (simp; omega) | simp) _ | with_reducible refine Below.alloc ?_ (by have hs := B2.size; first | omega | (simp; omega) | simp) _
 | text s =>
   have HC : Hid (∀ W : World, Below w.heap.size w W → Calls Tryz.prog 118 #[(LitT.text s).val] W (Gives (.tuple #[.string s, .bool true]) W)) := fun W hW => spec_ToText (.text s) hv W
   have hsz : s.size ≤ 1048576 := by have : s.size ≤ 120 := hv; omega
   have HN : Hid (∀ W : World, Calls Tryz.prog 67 #[.string s] W fun e w' => e = .returned (.tuple #[.agg #[.int .i64 (newCset s).lo.toInt, .int .i64 (newCset s).hi.toInt], .bool (asciiB s)]) ∧ Below W.heap.size W w') := fun W => spec_NewCset s W hsz
   unfold LitT.val at HC ⊢
   obtain ⟨bp, br, B0⟩ := boxes2 w 76 #[.int .i64 2, .int .i64 0, .int .i64 0, .string s, .int .i64 0, .int .i64 0] 74 #[.int .i64 0, .int .i64 0]
   go_enter Tryz.func94, Tryz.ntmps94
   go_wp2_with fail
   refine (HC.out _ B0).mono ?_; rintro e w1 ⟨rfl, hb⟩
   have B1 : Below w.heap.size w w1 := B0.trans (hb.mono B0.size)
   try clear cbp lbp fbp
   try clear cbr lbr fbr
   replace bp := (bp).later hb
   replace br := (br).later hb
   clear hb
   obtain ⟨cbp, lbp, fbp⟩ := bp.all
   obtain ⟨cbr, lbr, fbr⟩ := br.all
   go_wp2_with fail
   refine (HN.out _).mono ?_; rintro e w2 ⟨rfl, hb⟩
   have B2 : Below w.heap.size w w2 := B1.trans (hb.mono B1.size)
   try clear cbp lbp fbp
   try clear cbr lbr fbr
   replace bp := (bp).later hb
   replace br := (br).later hb
   clear hb
   obtain ⟨cbp, lbp, fbp⟩ := bp.all
   obtain ⟨cbr, lbr, fbr⟩ := br.all
   go_wp2_with fail
   refine bodyPost_ret (v := .tuple #[.agg #[.int .i64 (newCset s).lo.toInt, .int .i64 (newCset s).hi.toInt], .bool (asciiB s)]) ?_ rfl ⟨?_, ?_⟩
   ·simp [results, Tryz.results94, go_sem, cbr]
   ·rw [show (LitT.text s).toSet = setOf s from rfl, setV_of]
   ·repeat' first | with_reducible exact B2 | with_reducible refine Below.setCell ?_ (by have hs := B2.size; first | omega | (simp; omega) | simp) _ | with_reducible refine Below.alloc ?_ (by have hs := B2.size; first | omega | (simp; omega) | simp) _
theorem spec_l11Int (n : Int) (w : World) : Calls Tryz.prog 91 #[.int .i64 n] w (Gives (LitT.int n).val w) := by
 unfold LitT.val
 obtain ⟨br, B0⟩ := boxes1 w 76 #[.int .i64 0, .int .i64 0, .int .i64 0, .string ⟨#[]⟩, .int .i64 0, .int .i64 0]
 go_enter Tryz.func91, Tryz.ntmps91
 go_wp2_with fail
 refine bodyPost_ret (v := .agg #[.int .i64 1, .int .i64 n, .int .i64 0, .string ⟨#[]⟩, .int .i64 0, .int .i64 0]) ?_ rfl ⟨?_, ?_⟩
 ·simp [results, Tryz.results91, go_sem]
 ·rfl
 ·repeat' first | with_reducible exact B0 | with_reducible exact ((Below.refl w.heap.size w).alloc (Nat.le_refl _) _) | with_reducible refine Below.setCell ?_ (by have hs := B0.size; first | omega | (simp; omega) | simp) _ | with_reducible refine Below.alloc ?_ (by have hs := B0.size; first | omega | (simp; omega) | simp) _
theorem spec_l11Text (s : ByteArray) (w : World) : Calls Tryz.prog 92 #[.string s] w (Gives (LitT.text s).val w) := by
 unfold LitT.val
 obtain ⟨br, B0⟩ := boxes1 w 76 #[.int .i64 0, .int .i64 0, .int .i64 0, .string ⟨#[]⟩, .int .i64 0, .int .i64 0]
 go_enter Tryz.func92, Tryz.ntmps92
 go_wp2_with fail
 refine bodyPost_ret (v := .agg #[.int .i64 2, .int .i64 0, .int .i64 0, .string s, .int .i64 0, .int .i64 0]) ?_ rfl ⟨?_, ?_⟩
 ·simp [results, Tryz.results92, go_sem]
 ·rfl
 ·repeat' first | with_reducible exact B0 | with_reducible exact ((Below.refl w.heap.size w).alloc (Nat.le_refl _) _) | with_reducible refine Below.setCell ?_ (by have hs := B0.size; first | omega | (simp; omega) | simp) _ | with_reducible refine Below.alloc ?_ (by have hs := B0.size; first | omega | (simp; omega) | simp) _
theorem spec_l11Cset (c : CsetT) (w : World) : Calls Tryz.prog 93 #[c.val] w (Gives (LitT.set c).val w) := by
 unfold LitT.val CsetT.val
 obtain ⟨br, B0⟩ := boxes1 w 76 #[.int .i64 0, .int .i64 0, .int .i64 0, .string ⟨#[]⟩, .int .i64 0, .int .i64 0]
 go_enter Tryz.func93, Tryz.ntmps93
 go_wp2_with fail
 refine bodyPost_ret (v := .agg #[.int .i64 3, .int .i64 0, .int .i64 0, .string ⟨#[]⟩, .int .i64 c.lo.toInt, .int .i64 c.hi.toInt]) ?_ rfl ⟨?_, ?_⟩
 ·simp [results, Tryz.results93, go_sem]
 ·rfl
 ·repeat' first | with_reducible exact B0 | with_reducible exact ((Below.refl w.heap.size w).alloc (Nat.le_refl _) _) | with_reducible refine Below.setCell ?_ (by have hs := B0.size; first | omega | (simp; omega) | simp) _ | with_reducible refine Below.alloc ?_ (by have hs := B0.size; first | omega | (simp; omega) | simp) _
theorem spec_Power (a b : Int) (w : World) (ha : a.natAbs ≤ 999999999999) (hb : b.natAbs ≤ 999999999999) : Calls Tryz.prog 143 #[.int .i64 a, .int .i64 b] w fun e w' => e = .returned (compV (powR a b)) ∧ w = w' := by
 by_cases c1 : b < 0 ∧ a = 0
 ·have HR : Hid (powR a b = (.null, 201)) := by show _ = _; rw [powR, if_pos c1]
  rw [HR.out]
  obtain ⟨x1, x2⟩ := c1
  have f1 : (a == 0) = true := beq_iff_eq.2 x2
  clear HR
  go_enter Tryz.func143, Tryz.ntmps143
  go_wp2_with fail
  go_ret2
  exact ⟨rfl, rfl⟩
 by_cases c2 : a = 1
 ·by_cases c3 : b < 0
  ·have HR : Hid (powR a b = (.int (1), 0)) := by show _ = _; rw [powR, if_neg c1, if_pos (.inl c2), if_neg (by omega)]
   rw [HR.out]
   subst c2
   clear HR
   go_enter Tryz.func143, Tryz.ntmps143
   go_wp2_with fail
   go_ret2
   exact ⟨rfl, rfl⟩
  ·have HR : Hid (powR a b = (.int (1), 0)) := by show _ = _; rw [powR, if_neg c1, if_pos (.inl c2), if_neg (by omega)]
   rw [HR.out]
   subst c2
   clear HR
   go_enter Tryz.func143, Tryz.ntmps143
   go_wp2_with fail
   go_ret2
   exact ⟨rfl, rfl⟩
 by_cases c4 : a = -1
 ·by_cases c5 : b.tmod 2 = 0
  ·by_cases c3 : b < 0
   ·have HR : Hid (powR a b = (.int (1), 0)) := by show _ = _; rw [powR, if_neg c1, if_pos (.inr c4), if_neg (fun h => h.2 c5)]
    rw [HR.out]
    subst c4
    have f2 : (b.tmod 2 == 0) = true := beq_iff_eq.2 c5
    have f3 : (b % 2 == 0) = true := beq_iff_eq.2 ((even2 b).2 c5)
    clear HR
    go_enter Tryz.func143, Tryz.ntmps143
    go_wp2_with fail
    go_ret2
    exact ⟨rfl, rfl⟩
   ·have HR : Hid (powR a b = (.int (1), 0)) := by show _ = _; rw [powR, if_neg c1, if_pos (.inr c4), if_neg (fun h => h.2 c5)]
    rw [HR.out]
    subst c4
    have f2 : (b.tmod 2 == 0) = true := beq_iff_eq.2 c5
    have f3 : (b % 2 == 0) = true := beq_iff_eq.2 ((even2 b).2 c5)
    clear HR
    go_enter Tryz.func143, Tryz.ntmps143
    go_wp2_with fail
    go_ret2
    exact ⟨rfl, rfl⟩
  ·by_cases c3 : b < 0
   ·have HR : Hid (powR a b = (.int (-1), 0)) := by show _ = _; rw [powR, if_neg c1, if_pos (.inr c4), if_pos ⟨c4, c5⟩]
    rw [HR.out]
    subst c4
    have f2 : (b.tmod 2 == 0) = false := beq_eq_false_iff_ne.2 c5
    have f3 : (b % 2 == 0) = false := beq_eq_false_iff_ne.2 (fun h => c5 ((even2 b).1 h))
    clear HR
    go_enter Tryz.func143, Tryz.ntmps143
    go_wp2_with fail
    go_ret2
    exact ⟨rfl, rfl⟩
   ·have HR : Hid (powR a b = (.int (-1), 0)) := by show _ = _; rw [powR, if_neg c1, if_pos (.inr c4), if_pos ⟨c4, c5⟩]
    rw [HR.out]
    subst c4
    have f2 : (b.tmod 2 == 0) = false := beq_eq_false_iff_ne.2 c5
    have f3 : (b % 2 == 0) = false := beq_eq_false_iff_ne.2 (fun h => c5 ((even2 b).1 h))
    clear HR
    go_enter Tryz.func143, Tryz.ntmps143
    go_wp2_with fail
    go_ret2
    exact ⟨rfl, rfl⟩
 have n1 : (a != 1) = true := by simpa using c2
 have n2 : (a != -1) = true := by simpa using c4
 have n3 : (a == 1) = false := beq_eq_false_iff_ne.2 c2
 have n4 : (a == -1) = false := beq_eq_false_iff_ne.2 c4
 by_cases c6 : b < 0
 ·have HR : Hid (powR a b = (.int (0), 0)) := by show _ = _; rw [powR, if_neg c1, if_neg (by omega), if_pos c6]
  rw [HR.out]
  have f1 : (a == 0) = false := beq_eq_false_iff_ne.2 (fun h => c1 ⟨c6, h⟩)
  clear HR
  go_enter Tryz.func143, Tryz.ntmps143
  go_wp2_with fail
  go_ret2
  exact ⟨rfl, rfl⟩
 by_cases c7 : a = 0 ∧ 0 < b
 ·have HR : Hid (powR a b = (.int (0), 0)) := by show _ = _; rw [powR, if_neg c1, if_neg (by omega), if_neg c6, if_pos c7]
  rw [HR.out]
  obtain ⟨x1, x2⟩ := c7
  subst x1
  clear HR
  go_enter Tryz.func143, Tryz.ntmps143
  go_wp2_with fail
  go_ret2
  exact ⟨rfl, rfl⟩
 obtain ⟨bn, rfl⟩ : ∃ bn : Nat, b = bn := ⟨b.toNat, by omega⟩
 have HR : Hid (powR a (bn : Int) = powE (powL a bn 1)) := powR_E c1 (by omega) c6 c7
 have HF : Hid ((a == 0) = true → bn = 0) := fun h => by have := beq_iff_eq.1 h; omega
 have HP : ∀ (x y : Int), Hid (x.natAbs ≤ 999999999999 → y.natAbs ≤ 999999999999 → ∀ W : World, Calls Tryz.prog 122 #[.int .i64 22, .int .i64 x, .int .i64 y] W fun e w' => e = .returned (compR (x * y)) ∧ W = w') := fun x y h1 h2 W => spec_compute_mul x y W h1 h2
 have x0 : ¬ ((bn : Int) < 0) := by omega
 cases hz : (a == 0) with
 | true =>
   have := HF.out hz
   subst this
   have HV : Hid (powR a ((0 : Nat) : Int) = (.int 1, 0)) := by show _ = _; rw [HR.out]; rfl
   rw [HV.out]
   clear HR HP HF c1 c7
   go_enter Tryz.func143, Tryz.ntmps143
   go_wp2_with fail
   go_loop [6, 7] (fun n i => i = .int .i64 0 ∧ n = .int .i64 1) (fun n i => 0)
   case atStart => exact ⟨rfl, rfl⟩
   case round =>
    obtain ⟨rfl, rfl⟩ := hrel
    go_wp2_with fail
    go_ret2
    exact ⟨rfl, rfl⟩
 | false =>
   go_enter Tryz.func143, Tryz.ntmps143
   go_wp2_with fail
   go_loop [6, 7] (fun n i => ∃ (k : Nat) (m : Int), k ≤ bn ∧ i = .int .i64 k ∧ n = .int .i64 m ∧ m.natAbs ≤ 999999999999 ∧ Hid (powL a bn 1 = powL a (bn - k) m)) (fun n i => bn - (intOf i).toNat)
   case atStart => exact ⟨0, 1, Nat.zero_le _, rfl, rfl, by decide, rfl⟩
   case round =>
    obtain ⟨k, m, hk, rfl, rfl, hm, hp⟩ := hrel
    by_cases hlt : k < bn
    ·have hpp := (HP m a).out hm ha
     by_cases hq : 999999999999 < m.natAbs * a.natAbs
     ·have HV : Hid (powR a (bn : Int) = (.null, 203)) := by show _ = _; rw [HR.out, hp.out, show bn - k = (bn - (k + 1)) + 1 by omega, powL_no hq]; rfl
      have hc : compR (m * a) = .tuple #[.int .i64 0, .int .i64 203] := by rw [compR, if_neg (prod_no hq)]
      rw [hc] at hpp
      clear hp hq hc
      go_wp2_with fail
      refine (hpp _).mono ?_; rintro e wz ⟨rfl, rfl⟩
      go_wp2_with fail
      go_ret2
      exact ⟨by rw [HV.out]; rfl, rfl⟩
     ·have hc : compR (m * a) = .tuple #[.int .i64 (m * a), .int .i64 0] := by rw [compR, if_pos (prod_yes hq)]
      have HN : Hid (powL a bn 1 = powL a (bn - (k + 1)) (m * a)) := by show _ = _; rw [hp.out, show bn - k = (bn - (k + 1)) + 1 by omega, powL_yes hq]
      have hm2 := prod_yes hq
      rw [hc] at hpp
      clear hp hq hc
      generalize m * a = ma at *
      go_wp2_with fail
      refine (hpp _).mono ?_; rintro e wz ⟨rfl, rfl⟩
      go_wp2_with fail
      go_round
      case rel => exact ⟨k + 1, ma, by omega, by go_num, rfl, hm2, HN⟩
      case measure => simp [intOf]; omega
    ·have hkb : bn - k = 0 := by omega
     have HV : Hid (powR a (bn : Int) = (.int m, 0)) := by show _ = _; rw [HR.out, hp.out, hkb]; rfl
     clear hp hkb
     obtain rfl : k = bn := by omega
     go_wp2_with fail
     go_ret2
     exact ⟨by rw [HV.out]; rfl, rfl⟩
theorem comp_mul (a b : Int) : compR (a * b) = compV (arithR 22 a b) := by
 unfold compR compV numOf
 by_cases h : 999999999999 < a.natAbs * b.natAbs
 ·rw [if_neg (prod_no h), show arithR 22 a b = (.null, 203) from by simp [arithR, h]]
 ·rw [if_pos (prod_yes h), show arithR 22 a b = (.int (a * b), 0) from by simp [arithR, h]]
theorem spec_compute (op a b : Int) (w : World) (ha : a.natAbs ≤ 999999999999) (hb : b.natAbs ≤ 999999999999) (h0 : 20 ≤ op) (h1 : op ≤ 25) : Calls Tryz.prog 122 #[.int .i64 op, .int .i64 a, .int .i64 b] w fun e w' => e = .returned (compV (arithR op a b)) ∧ w = w' := by
 obtain rfl | rfl | rfl | rfl | rfl | rfl : op = 20 ∨ op = 21 ∨ op = 22 ∨ op = 23 ∨ op = 24 ∨ op = 25 := by omega
 ·have h := spec_compute_add a b w ha hb
  rw [comp_num] at h
  exact h
 ·have h := spec_compute_sub a b w ha hb
  rw [comp_num] at h
  exact h
 ·have h := spec_compute_mul a b w ha hb
  rw [comp_mul] at h
  exact h
 ·by_cases hz : b = 0
  ·subst hz
   have HR : Hid (arithR 23 a 0 = (.null, 201)) := by show _ = _; simp [arithR]
   rw [HR.out]
   go_enter Tryz.func122, Tryz.ntmps122
   go_wp2_with fail
   go_ret2
   exact ⟨rfl, rfl⟩
  ·have HR : Hid (arithR 23 a b = (.int (a.tdiv b), 0)) := by show _ = _; simp [arithR, hz]
   have fz : (b == 0) = false := beq_eq_false_iff_ne.2 hz
   have q1 := Int.natAbs_tdiv_le_natAbs a b
   have q2 : (a.tmod b).natAbs ≤ a.natAbs := by rw [Int.natAbs_tmod]; exact Nat.mod_le _ _
   have q3 : a.tdiv b ≤ 999999999999 := by omega
   have q4 : -999999999999 ≤ a.tdiv b := by omega
   have q5 : a.tmod b ≤ 999999999999 := by omega
   have q6 : -999999999999 ≤ a.tmod b := by omega
   rw [HR.out]
   clear HR q1 q2
   go_enter Tryz.func122, Tryz.ntmps122
   go_wp2_with fail
   go_ret2
   exact ⟨rfl, rfl⟩
 ·by_cases hz : b = 0
  ·subst hz
   have HR : Hid (arithR 24 a 0 = (.null, 201)) := by show _ = _; simp [arithR]
   rw [HR.out]
   go_enter Tryz.func122, Tryz.ntmps122
   go_wp2_with fail
   go_ret2
   exact ⟨rfl, rfl⟩
  ·have HR : Hid (arithR 24 a b = (.int (a.tmod b), 0)) := by show _ = _; simp [arithR, hz]
   have fz : (b == 0) = false := beq_eq_false_iff_ne.2 hz
   have q1 := Int.natAbs_tdiv_le_natAbs a b
   have q2 : (a.tmod b).natAbs ≤ a.natAbs := by rw [Int.natAbs_tmod]; exact Nat.mod_le _ _
   have q3 : a.tdiv b ≤ 999999999999 := by omega
   have q4 : -999999999999 ≤ a.tdiv b := by omega
   have q5 : a.tmod b ≤ 999999999999 := by omega
   have q6 : -999999999999 ≤ a.tmod b := by omega
   rw [HR.out]
   clear HR q1 q2
   go_enter Tryz.func122, Tryz.ntmps122
   go_wp2_with fail
   go_ret2
   exact ⟨rfl, rfl⟩
 ·have HP := Lib.hid (fun W : World => spec_Power a b W ha hb)
  go_enter Tryz.func122, Tryz.ntmps122
  go_wp2_with fail
  refine (HP.out _).mono ?_; rintro e wz ⟨rfl, rfl⟩
  unfold compV
  go_wp2_with fail
  go_ret2
  exact ⟨rfl, rfl⟩
end Go.Proofs.YtjeomamdlmoghaaGreatDoor
end
section
namespace Go.Proofs.YtjeomamdlmoghaaGreatDoor
open Go.RowKit
def leafV (c : CoreT) : Value := .agg #[.int .i64 c.kind, .int .i64 c.op, .int .i64 c.number, .int .i64 c.line, .string c.text, .slice none 0 0]
theorem lit_kinds {c : CoreT} (h : litB c = true) : c.kind = 1 ∨ c.kind = 2 ∨ c.kind = 3 ∨ c.kind = 4 := by unfold litB at h; simp at h; omega
theorem lit_no {c : CoreT} (h : litB c = false) : ¬ (1 ≤ c.kind ∧ c.kind ≤ 4) := by unfold litB at h; simp at h; omega
theorem impl_intOf (n : Int) (w : World) : Calls Tryz.prog 110 #[.int .i64 n] w (Gives (LitT.int n).val w) := by
 unfold LitT.val
 obtain ⟨br, B0⟩ := boxes1 w 76 #[.int .i64 0, .int .i64 0, .int .i64 0, .string ⟨#[]⟩, .int .i64 0, .int .i64 0]
 go_enter Tryz.func110, Tryz.ntmps110
 go_wp2_with fail
 refine bodyPost_ret (v := .agg #[.int .i64 1, .int .i64 (n), .int .i64 0, .string ⟨#[]⟩, .int .i64 0, .int .i64 0]) ?_ rfl ⟨?_, ?_⟩
 ·simp [results, Tryz.results110, go_sem]
 ·rfl
 ·repeat' first | with_reducible exact B0 | with_reducible exact ((Below.refl w.heap.size w).alloc (Nat.le_refl _) _) | with_reducible refine Below.setCell ?_ (by have hs := B0.size; first | omega | (simp; omega) | simp) _ | with_reducible refine Below.alloc ?_ (by have hs := B0.size; first | omega | (simp; omega) | simp) _
theorem impl_textOf (s : ByteArray) (w : World) : Calls Tryz.prog 111 #[.string s] w (Gives (LitT.text s).val w) := by
 unfold LitT.val
 obtain ⟨br, B0⟩ := boxes1 w 76 #[.int .i64 0, .int .i64 0, .int .i64 0, .string ⟨#[]⟩, .int .i64 0, .int .i64 0]
 go_enter Tryz.func111, Tryz.ntmps111
 go_wp2_with fail
 refine bodyPost_ret (v := .agg #[.int .i64 2, .int .i64 (0), .int .i64 0, .string s, .int .i64 0, .int .i64 0]) ?_ rfl ⟨?_, ?_⟩
 ·simp [results, Tryz.results111, go_sem]
 ·rfl
 ·repeat' first | with_reducible exact B0 | with_reducible exact ((Below.refl w.heap.size w).alloc (Nat.le_refl _) _) | with_reducible refine Below.setCell ?_ (by have hs := B0.size; first | omega | (simp; omega) | simp) _ | with_reducible refine Below.alloc ?_ (by have hs := B0.size; first | omega | (simp; omega) | simp) _
theorem impl_coreLiteral (c : CoreT) (A : Option Addr) (n cap : Nat) (w : World) : Calls Tryz.prog 54 #[.agg #[.int .i64 c.kind, .int .i64 c.op, .int .i64 c.number, .int .i64 c.line, .string c.text, .slice A n cap]] w (Gives (.bool (litB c)) w) := by
 have HL : Hid (litB c = (decide (1 ≤ c.kind) && decide (c.kind ≤ 4))) := rfl
 obtain ⟨bk, B0⟩ := boxes1 w 45 #[.int .i64 c.kind, .int .i64 c.op, .int .i64 c.number, .int .i64 c.line, .string c.text, .slice A n cap]
 go_enter Tryz.func54, Tryz.ntmps54
 go_wp2_with fail
 all_goals
  go_ret
  exact ⟨ret_bool (by rw [HL.out, Bool.eq_iff_iff]; simp <;> omega), ((Below.refl w.heap.size w).alloc (Nat.le_refl _) _)⟩
theorem impl_leafValue (c : CoreT) (hl : litB c = true) (hs : c.text.size ≤ 1048576) (g off : Nat) (w : World) (hg : g < w.heap.size) (c0 : w.cell? ⟨g, off, none⟩ = some (.int .i64 c.kind)) (c2 : w.cell? ⟨g, off + 2, none⟩ = some (.int .i64 c.number)) (c4 : w.cell? ⟨g, off + 4, none⟩ = some (.string c.text)) :
 Calls Tryz.prog 82 #[.pointer (some ⟨g, off, none⟩), .int .i64 0] w (Gives (litOf c).val w) := by
 rcases lit_kinds hl with hk | hk | hk | hk
 ·have HR : Hid (litOf c = .int c.number) := by show _ = _; unfold litOf; rw [hk]; rfl
  rw [HR.out]
  rw [hk] at c0
  clear HR
  have HL : Hid (∀ W : World, Calls Tryz.prog 110 #[.int .i64 c.number] W fun e w' => e = .returned (.agg #[.int .i64 1, .int .i64 (c.number), .int .i64 0, .string ⟨#[]⟩, .int .i64 0, .int .i64 0]) ∧ Below W.heap.size W w') := fun W => impl_intOf c.number W
  unfold LitT.val
  obtain ⟨br, B0⟩ := boxes1 w 76 #[.int .i64 0, .int .i64 0, .int .i64 0, .string ⟨#[]⟩, .int .i64 0, .int .i64 0]
  go_enter Tryz.func82, Tryz.ntmps82
  go_wp2_with fail
  refine (HL.out _).mono ?_; rintro e w1 ⟨rfl, hb⟩
  have B1 : Below w.heap.size w w1 := B0.trans (hb.mono B0.size)
  try clear cbr lbr fbr
  replace br := (br).later hb
  clear hb
  obtain ⟨cbr, lbr, fbr⟩ := br.all
  go_wp2_with fail
  have hF := ((((((br.set_ 0 (.int .i64 1)).set_ 1 (.int .i64 (c.number))).set_ 2 (.int .i64 0)).set_ 3 (.string ⟨#[]⟩)).set_ 4 (.int .i64 0)).set_ 5 (.int .i64 0))
  have cF := hF.cell
  refine bodyPost_ret (v := .agg #[.int .i64 1, .int .i64 (c.number), .int .i64 0, .string ⟨#[]⟩, .int .i64 0, .int .i64 0]) ?_ rfl ⟨?_, ?_⟩
  ·simp [results, Tryz.results82, go_sem, cF]
  ·rfl
  ·repeat' first | with_reducible exact B1 | with_reducible refine Below.setCell ?_ (by have hs := B1.size; first | omega | (simp; omega) | simp) _ | with_reducible refine Below.alloc ?_ (by have hs := B1.size; first | omega | (simp; omega) | simp) _
 ·have HR : Hid (litOf c = .text c.text) := by show _ = _; unfold litOf; rw [hk]; rfl
  rw [HR.out]
  rw [hk] at c0
  clear HR
  have HL : Hid (∀ W : World, Calls Tryz.prog 111 #[.string c.text] W fun e w' => e = .returned (.agg #[.int .i64 2, .int .i64 (0), .int .i64 0, .string c.text, .int .i64 0, .int .i64 0]) ∧ Below W.heap.size W w') := fun W => impl_textOf c.text W
  unfold LitT.val
  obtain ⟨br, B0⟩ := boxes1 w 76 #[.int .i64 0, .int .i64 0, .int .i64 0, .string ⟨#[]⟩, .int .i64 0, .int .i64 0]
  go_enter Tryz.func82, Tryz.ntmps82
  go_wp2_with fail
  refine (HL.out _).mono ?_; rintro e w1 ⟨rfl, hb⟩
  have B1 : Below w.heap.size w w1 := B0.trans (hb.mono B0.size)
  try clear cbr lbr fbr
  replace br := (br).later hb
  clear hb
  obtain ⟨cbr, lbr, fbr⟩ := br.all
  go_wp2_with fail
  have hF := ((((((br.set_ 0 (.int .i64 2)).set_ 1 (.int .i64 (0))).set_ 2 (.int .i64 0)).set_ 3 (.string c.text)).set_ 4 (.int .i64 0)).set_ 5 (.int .i64 0))
  have cF := hF.cell
  refine bodyPost_ret (v := .agg #[.int .i64 2, .int .i64 (0), .int .i64 0, .string c.text, .int .i64 0, .int .i64 0]) ?_ rfl ⟨?_, ?_⟩
  ·simp [results, Tryz.results82, go_sem, cF]
  ·rfl
  ·repeat' first | with_reducible exact B1 | with_reducible refine Below.setCell ?_ (by have hs := B1.size; first | omega | (simp; omega) | simp) _ | with_reducible refine Below.alloc ?_ (by have hs := B1.size; first | omega | (simp; omega) | simp) _
 ·have HR : Hid (litOf c = .set (newCset c.text)) := by show _ = _; unfold litOf; rw [hk]; rfl
  rw [HR.out]
  rw [hk] at c0
  clear HR
  have HN : Hid (∀ W : World, Calls Tryz.prog 112 #[.string c.text] W fun e w' => e = .returned (.tuple #[.agg #[.int .i64 (newCset c.text).lo.toInt, .int .i64 (newCset c.text).hi.toInt], .bool (asciiB c.text)]) ∧ Below W.heap.size W w') := fun W => impl_NewCset c.text W hs
  unfold LitT.val
  obtain ⟨br, B0⟩ := boxes1 w 76 #[.int .i64 0, .int .i64 0, .int .i64 0, .string ⟨#[]⟩, .int .i64 0, .int .i64 0]
  go_enter Tryz.func82, Tryz.ntmps82
  go_wp2_with fail
  refine (HN.out _).mono ?_; rintro e w1 ⟨rfl, hb⟩
  have B1 : Below w.heap.size w w1 := B0.trans (hb.mono B0.size)
  try clear cbr lbr fbr
  replace br := (br).later hb
  clear hb
  obtain ⟨cbr, lbr, fbr⟩ := br.all
  go_wp2_with fail
  have hF := (((((((br.set_ 0 (.int .i64 3)).set_ 1 (.int .i64 (0))).set_ 2 (.int .i64 0)).set_ 3 (.string ⟨#[]⟩)).set_ 4 (.int .i64 (newCset c.text).lo.toInt)).set_ 5 (.int .i64 (newCset c.text).hi.toInt)).alloc (.cells #[.int .i64 (newCset c.text).lo.toInt, .int .i64 (newCset c.text).hi.toInt] 74))
  have cF := hF.cell
  refine bodyPost_ret (v := .agg #[.int .i64 3, .int .i64 (0), .int .i64 0, .string ⟨#[]⟩, .int .i64 (newCset c.text).lo.toInt, .int .i64 (newCset c.text).hi.toInt]) ?_ rfl ⟨?_, ?_⟩
  ·simp [results, Tryz.results82, go_sem, cF]
  ·rfl
  ·repeat' first | with_reducible exact B1 | with_reducible refine Below.setCell ?_ (by have hs := B1.size; first | omega | (simp; omega) | simp) _ | with_reducible refine Below.alloc ?_ (by have hs := B1.size; first | omega | (simp; omega) | simp) _
 ·have HR : Hid (litOf c = .null) := by show _ = _; unfold litOf; rw [hk]; rfl
  rw [HR.out]
  rw [hk] at c0
  clear HR
  unfold LitT.val
  obtain ⟨br, B0⟩ := boxes1 w 76 #[.int .i64 0, .int .i64 0, .int .i64 0, .string ⟨#[]⟩, .int .i64 0, .int .i64 0]
  go_enter Tryz.func82, Tryz.ntmps82
  go_wp2_with fail
  refine bodyPost_ret (v := .agg #[.int .i64 0, .int .i64 (0), .int .i64 0, .string ⟨#[]⟩, .int .i64 0, .int .i64 0]) ?_ rfl ⟨?_, ?_⟩
  ·simp [results, Tryz.results82, go_sem]
  ·rfl
  ·repeat' first | with_reducible exact B0 | with_reducible exact ((Below.refl w.heap.size w).alloc (Nat.le_refl _) _) | with_reducible refine Below.setCell ?_ (by have hs := B0.size; first | omega | (simp; omega) | simp) _ | with_reducible refine Below.alloc ?_ (by have hs := B0.size; first | omega | (simp; omega) | simp) _
theorem impl_literalOf (v : LitT) (line : Int) (w : World) : Calls Tryz.prog 84 #[v.val, .int .i64 line] w (Gives (.tuple #[leafV (coreOfLit line v), .bool true]) w) := by
 cases v with
 | null =>
   unfold LitT.val
   obtain ⟨ba, br, B0⟩ := boxes2 w 76 #[.int .i64 0, .int .i64 0, .int .i64 0, .string ⟨#[]⟩, .int .i64 0, .int .i64 0] 45 #[.int .i64 0, .int .i64 0, .int .i64 0, .int .i64 0, .string ⟨#[]⟩, .slice none 0 0]
   go_enter Tryz.func84, Tryz.ntmps84
   go_wp2_with fail
   refine bodyPost_ret (v := .tuple #[.agg #[.int .i64 4, .int .i64 0, .int .i64 0, .int .i64 line, .string ⟨#[]⟩, .slice none 0 0], .bool true]) ?_ rfl ⟨?_, ?_⟩
   ·simp [results, Tryz.results84, go_sem]
   ·rfl
   ·repeat' first | with_reducible exact B0 | with_reducible exact (((Below.refl w.heap.size w).alloc (Nat.le_refl _) _).alloc (by simp <;> omega) _) | with_reducible refine Below.setCell ?_ (by have hs := B0.size; first | omega | (simp; omega) | simp) _ | with_reducible refine Below.alloc ?_ (by have hs := B0.size; first | omega | (simp; omega) | simp) _
 | int n =>
   unfold LitT.val
   obtain ⟨ba, br, B0⟩ := boxes2 w 76 #[.int .i64 1, .int .i64 n, .int .i64 0, .string ⟨#[]⟩, .int .i64 0, .int .i64 0] 45 #[.int .i64 0, .int .i64 0, .int .i64 0, .int .i64 0, .string ⟨#[]⟩, .slice none 0 0]
   go_enter Tryz.func84, Tryz.ntmps84
   go_wp2_with fail
   refine bodyPost_ret (v := .tuple #[.agg #[.int .i64 1, .int .i64 0, .int .i64 n, .int .i64 line, .string ⟨#[]⟩, .slice none 0 0], .bool true]) ?_ rfl ⟨?_, ?_⟩
   ·simp [results, Tryz.results84, go_sem]
   ·rfl
   ·repeat' first | with_reducible exact B0 | with_reducible exact (((Below.refl w.heap.size w).alloc (Nat.le_refl _) _).alloc (by simp <;> omega) _) | with_reducible refine Below.setCell ?_ (by have hs := B0.size; first | omega | (simp; omega) | simp) _ | with_reducible refine Below.alloc ?_ (by have hs := B0.size; first | omega | (simp; omega) | simp) _
 | text s =>
   unfold LitT.val
   obtain ⟨ba, br, B0⟩ := boxes2 w 76 #[.int .i64 2, .int .i64 0, .int .i64 0, .string s, .int .i64 0, .int .i64 0] 45 #[.int .i64 0, .int .i64 0, .int .i64 0, .int .i64 0, .string ⟨#[]⟩, .slice none 0 0]
   go_enter Tryz.func84, Tryz.ntmps84
   go_wp2_with fail
   refine bodyPost_ret (v := .tuple #[.agg #[.int .i64 2, .int .i64 0, .int .i64 0, .int .i64 line, .string s, .slice none 0 0], .bool true]) ?_ rfl ⟨?_, ?_⟩
   ·simp [results, Tryz.results84, go_sem]
   ·rfl
   ·repeat' first | with_reducible exact B0 | with_reducible exact (((Below.refl w.heap.size w).alloc (Nat.le_refl _) _).alloc (by simp <;> omega) _) | with_reducible refine Below.setCell ?_ (by have hs := B0.size; first | omega | (simp; omega) | simp) _ | with_reducible refine Below.alloc ?_ (by have hs := B0.size; first | omega | (simp; omega) | simp) _
 | set c =>
   have HN : Hid (∀ W : World, Calls Tryz.prog 115 #[.agg #[.int .i64 c.lo.toInt, .int .i64 c.hi.toInt]] W fun e w' => e = .returned (.string (csetText c)) ∧ Below W.heap.size W w') := fun W => impl_CsetText c W
   unfold LitT.val
   obtain ⟨ba, br, B0⟩ := boxes2 w 76 #[.int .i64 3, .int .i64 0, .int .i64 0, .string ⟨#[]⟩, .int .i64 c.lo.toInt, .int .i64 c.hi.toInt] 45 #[.int .i64 0, .int .i64 0, .int .i64 0, .int .i64 0, .string ⟨#[]⟩, .slice none 0 0]
   go_enter Tryz.func84, Tryz.ntmps84
   go_wp2_with fail
   refine (HN.out _).mono ?_; rintro e w1 ⟨rfl, hb⟩
   have B1 : Below w.heap.size w w1 := B0.trans (hb.mono B0.size)
   try clear cba lba fba
   try clear cbr lbr fbr
   replace ba := (ba).later hb
   replace br := (br).later hb
   clear hb
   obtain ⟨cba, lba, fba⟩ := ba.all
   obtain ⟨cbr, lbr, fbr⟩ := br.all
   go_wp2_with fail
   have hF := ((((((br.set_ 0 (.int .i64 3)).set_ 1 (.int .i64 0)).set_ 2 (.int .i64 0)).set_ 3 (.int .i64 line)).set_ 4 (.string (csetText c))).set_ 5 (.slice none 0 0))
   have cF := hF.cell
   refine bodyPost_ret (v := .tuple #[.agg #[.int .i64 3, .int .i64 0, .int .i64 0, .int .i64 line, .string (csetText c), .slice none 0 0], .bool true]) ?_ rfl ⟨?_, ?_⟩
   ·simp [results, Tryz.results84, go_sem, cF]
   ·rfl
   ·repeat' first | with_reducible exact B1 | with_reducible refine Below.setCell ?_ (by have hs := B1.size; first | omega | (simp; omega) | simp) _ | with_reducible refine Below.alloc ?_ (by have hs := B1.size; first | omega | (simp; omega) | simp) _
end Go.Proofs.YtjeomamdlmoghaaGreatDoor
end
