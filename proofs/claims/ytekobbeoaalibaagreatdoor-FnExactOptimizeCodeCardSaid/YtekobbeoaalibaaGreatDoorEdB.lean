/- EdB: several texts in one. -/
import Derived.Test.YtekobbeoaalibaaGreatDoorEdA
import Derived.Test.YtekobbeoaalibaaGreatDoorVerJ
import Derived.Test.YtekobbeoaalibaaGreatDoorVerRes
import Derived.Deep.RegionHeld3
section
namespace Go.Proofs.YtekobbeoaalibaaGreatDoor
open Go.RowKit
set_option linter.unusedVariables false

set_option maxRecDepth 100000 in
theorem plain_r0 (a : Int) (w : World) (hh : a ≤ 0) : Calls Tryz.prog 132 #[.int .i64 a] w fun e w' => e = .returned (.bool (sureB a)) ∧ w' = w := by
  have hs : sureB a = false := by simp [sureB]; omega
  rw [hs]
  clear hs
  have e6 : (a == 6) = false := by simp; omega
  have e10 : (a == 10) = false := by simp; omega
  have e73 : (a == 73) = false := by simp; omega
  have e74 : (a == 74) = false := by simp; omega
  have e79 : (a == 79) = false := by simp; omega
  have f1 : decide (1 ≤ a) = false := by simp; omega
  have f20 : decide (20 ≤ a) = false := by simp; omega
  have f50 : decide (50 ≤ a) = false := by simp; omega
  have f3 : decide (a ≤ 3) = true := by simp; omega
  have f25 : decide (a ≤ 25) = true := by simp; omega
  have f54 : decide (a ≤ 54) = true := by simp; omega
  go_enter Tryz.func132, Tryz.ntmps132
  go_wp2_with fail
  go_ret
  exact ⟨rfl, rfl⟩
set_option maxRecDepth 100000 in
theorem plain_r1 (a : Int) (w : World) (hl : 1 ≤ a) (hh : a ≤ 3) : Calls Tryz.prog 132 #[.int .i64 a] w fun e w' => e = .returned (.bool (sureB a)) ∧ w' = w := by
  have hs : sureB a = true := by simp [sureB]; omega
  rw [hs]
  clear hs
  have e6 : (a == 6) = false := by simp; omega
  have e10 : (a == 10) = false := by simp; omega
  have e73 : (a == 73) = false := by simp; omega
  have e74 : (a == 74) = false := by simp; omega
  have e79 : (a == 79) = false := by simp; omega
  have f1 : decide (1 ≤ a) = true := by simp; omega
  have f20 : decide (20 ≤ a) = false := by simp; omega
  have f50 : decide (50 ≤ a) = false := by simp; omega
  have f3 : decide (a ≤ 3) = true := by simp; omega
  have f25 : decide (a ≤ 25) = true := by simp; omega
  have f54 : decide (a ≤ 54) = true := by simp; omega
  go_enter Tryz.func132, Tryz.ntmps132
  go_wp2_with fail
  go_ret
  exact ⟨rfl, rfl⟩
set_option maxRecDepth 100000 in
theorem plain_r2 (a : Int) (w : World) (hl : 4 ≤ a) (hh : a ≤ 5) : Calls Tryz.prog 132 #[.int .i64 a] w fun e w' => e = .returned (.bool (sureB a)) ∧ w' = w := by
  have hs : sureB a = false := by simp [sureB]; omega
  rw [hs]
  clear hs
  have e6 : (a == 6) = false := by simp; omega
  have e10 : (a == 10) = false := by simp; omega
  have e73 : (a == 73) = false := by simp; omega
  have e74 : (a == 74) = false := by simp; omega
  have e79 : (a == 79) = false := by simp; omega
  have f1 : decide (1 ≤ a) = true := by simp; omega
  have f20 : decide (20 ≤ a) = false := by simp; omega
  have f50 : decide (50 ≤ a) = false := by simp; omega
  have f3 : decide (a ≤ 3) = false := by simp; omega
  have f25 : decide (a ≤ 25) = true := by simp; omega
  have f54 : decide (a ≤ 54) = true := by simp; omega
  go_enter Tryz.func132, Tryz.ntmps132
  go_wp2_with fail
  go_ret
  exact ⟨rfl, rfl⟩
set_option maxRecDepth 100000 in
theorem plain_r3 (a : Int) (w : World) (hl : 6 ≤ a) (hh : a ≤ 6) : Calls Tryz.prog 132 #[.int .i64 a] w fun e w' => e = .returned (.bool (sureB a)) ∧ w' = w := by
  have hs : sureB a = true := by simp [sureB]; omega
  rw [hs]
  clear hs
  have e6 : (a == 6) = true := by simp; omega
  have e10 : (a == 10) = false := by simp; omega
  have e73 : (a == 73) = false := by simp; omega
  have e74 : (a == 74) = false := by simp; omega
  have e79 : (a == 79) = false := by simp; omega
  have f1 : decide (1 ≤ a) = true := by simp; omega
  have f20 : decide (20 ≤ a) = false := by simp; omega
  have f50 : decide (50 ≤ a) = false := by simp; omega
  have f3 : decide (a ≤ 3) = false := by simp; omega
  have f25 : decide (a ≤ 25) = true := by simp; omega
  have f54 : decide (a ≤ 54) = true := by simp; omega
  go_enter Tryz.func132, Tryz.ntmps132
  go_wp2_with fail
  go_ret
  exact ⟨rfl, rfl⟩
set_option maxRecDepth 100000 in
theorem plain_r4 (a : Int) (w : World) (hl : 7 ≤ a) (hh : a ≤ 9) : Calls Tryz.prog 132 #[.int .i64 a] w fun e w' => e = .returned (.bool (sureB a)) ∧ w' = w := by
  have hs : sureB a = false := by simp [sureB]; omega
  rw [hs]
  clear hs
  have e6 : (a == 6) = false := by simp; omega
  have e10 : (a == 10) = false := by simp; omega
  have e73 : (a == 73) = false := by simp; omega
  have e74 : (a == 74) = false := by simp; omega
  have e79 : (a == 79) = false := by simp; omega
  have f1 : decide (1 ≤ a) = true := by simp; omega
  have f20 : decide (20 ≤ a) = false := by simp; omega
  have f50 : decide (50 ≤ a) = false := by simp; omega
  have f3 : decide (a ≤ 3) = false := by simp; omega
  have f25 : decide (a ≤ 25) = true := by simp; omega
  have f54 : decide (a ≤ 54) = true := by simp; omega
  go_enter Tryz.func132, Tryz.ntmps132
  go_wp2_with fail
  go_ret
  exact ⟨rfl, rfl⟩
set_option maxRecDepth 100000 in
theorem plain_r5 (a : Int) (w : World) (hl : 10 ≤ a) (hh : a ≤ 10) : Calls Tryz.prog 132 #[.int .i64 a] w fun e w' => e = .returned (.bool (sureB a)) ∧ w' = w := by
  have hs : sureB a = true := by simp [sureB]; omega
  rw [hs]
  clear hs
  have e6 : (a == 6) = false := by simp; omega
  have e10 : (a == 10) = true := by simp; omega
  have e73 : (a == 73) = false := by simp; omega
  have e74 : (a == 74) = false := by simp; omega
  have e79 : (a == 79) = false := by simp; omega
  have f1 : decide (1 ≤ a) = true := by simp; omega
  have f20 : decide (20 ≤ a) = false := by simp; omega
  have f50 : decide (50 ≤ a) = false := by simp; omega
  have f3 : decide (a ≤ 3) = false := by simp; omega
  have f25 : decide (a ≤ 25) = true := by simp; omega
  have f54 : decide (a ≤ 54) = true := by simp; omega
  go_enter Tryz.func132, Tryz.ntmps132
  go_wp2_with fail
  go_ret
  exact ⟨rfl, rfl⟩
set_option maxRecDepth 100000 in
theorem plain_r6 (a : Int) (w : World) (hl : 11 ≤ a) (hh : a ≤ 19) : Calls Tryz.prog 132 #[.int .i64 a] w fun e w' => e = .returned (.bool (sureB a)) ∧ w' = w := by
  have hs : sureB a = false := by simp [sureB]; omega
  rw [hs]
  clear hs
  have e6 : (a == 6) = false := by simp; omega
  have e10 : (a == 10) = false := by simp; omega
  have e73 : (a == 73) = false := by simp; omega
  have e74 : (a == 74) = false := by simp; omega
  have e79 : (a == 79) = false := by simp; omega
  have f1 : decide (1 ≤ a) = true := by simp; omega
  have f20 : decide (20 ≤ a) = false := by simp; omega
  have f50 : decide (50 ≤ a) = false := by simp; omega
  have f3 : decide (a ≤ 3) = false := by simp; omega
  have f25 : decide (a ≤ 25) = true := by simp; omega
  have f54 : decide (a ≤ 54) = true := by simp; omega
  go_enter Tryz.func132, Tryz.ntmps132
  go_wp2_with fail
  go_ret
  exact ⟨rfl, rfl⟩
set_option maxRecDepth 100000 in
theorem plain_r7 (a : Int) (w : World) (hl : 20 ≤ a) (hh : a ≤ 25) : Calls Tryz.prog 132 #[.int .i64 a] w fun e w' => e = .returned (.bool (sureB a)) ∧ w' = w := by
  have hs : sureB a = true := by simp [sureB]; omega
  rw [hs]
  clear hs
  have e6 : (a == 6) = false := by simp; omega
  have e10 : (a == 10) = false := by simp; omega
  have e73 : (a == 73) = false := by simp; omega
  have e74 : (a == 74) = false := by simp; omega
  have e79 : (a == 79) = false := by simp; omega
  have f1 : decide (1 ≤ a) = true := by simp; omega
  have f20 : decide (20 ≤ a) = true := by simp; omega
  have f50 : decide (50 ≤ a) = false := by simp; omega
  have f3 : decide (a ≤ 3) = false := by simp; omega
  have f25 : decide (a ≤ 25) = true := by simp; omega
  have f54 : decide (a ≤ 54) = true := by simp; omega
  go_enter Tryz.func132, Tryz.ntmps132
  go_wp2_with fail
  go_ret
  exact ⟨rfl, rfl⟩
set_option maxRecDepth 100000 in
theorem plain_r8 (a : Int) (w : World) (hl : 26 ≤ a) (hh : a ≤ 49) : Calls Tryz.prog 132 #[.int .i64 a] w fun e w' => e = .returned (.bool (sureB a)) ∧ w' = w := by
  have hs : sureB a = false := by simp [sureB]; omega
  rw [hs]
  clear hs
  have e6 : (a == 6) = false := by simp; omega
  have e10 : (a == 10) = false := by simp; omega
  have e73 : (a == 73) = false := by simp; omega
  have e74 : (a == 74) = false := by simp; omega
  have e79 : (a == 79) = false := by simp; omega
  have f1 : decide (1 ≤ a) = true := by simp; omega
  have f20 : decide (20 ≤ a) = true := by simp; omega
  have f50 : decide (50 ≤ a) = false := by simp; omega
  have f3 : decide (a ≤ 3) = false := by simp; omega
  have f25 : decide (a ≤ 25) = false := by simp; omega
  have f54 : decide (a ≤ 54) = true := by simp; omega
  go_enter Tryz.func132, Tryz.ntmps132
  go_wp2_with fail
  go_ret
  exact ⟨rfl, rfl⟩
set_option maxRecDepth 100000 in
theorem plain_r9 (a : Int) (w : World) (hl : 50 ≤ a) (hh : a ≤ 54) : Calls Tryz.prog 132 #[.int .i64 a] w fun e w' => e = .returned (.bool (sureB a)) ∧ w' = w := by
  have hs : sureB a = true := by simp [sureB]; omega
  rw [hs]
  clear hs
  have e6 : (a == 6) = false := by simp; omega
  have e10 : (a == 10) = false := by simp; omega
  have e73 : (a == 73) = false := by simp; omega
  have e74 : (a == 74) = false := by simp; omega
  have e79 : (a == 79) = false := by simp; omega
  have f1 : decide (1 ≤ a) = true := by simp; omega
  have f20 : decide (20 ≤ a) = true := by simp; omega
  have f50 : decide (50 ≤ a) = true := by simp; omega
  have f3 : decide (a ≤ 3) = false := by simp; omega
  have f25 : decide (a ≤ 25) = false := by simp; omega
  have f54 : decide (a ≤ 54) = true := by simp; omega
  go_enter Tryz.func132, Tryz.ntmps132
  go_wp2_with fail
  go_ret
  exact ⟨rfl, rfl⟩
set_option maxRecDepth 100000 in
theorem plain_r10 (a : Int) (w : World) (hl : 55 ≤ a) (hh : a ≤ 72) : Calls Tryz.prog 132 #[.int .i64 a] w fun e w' => e = .returned (.bool (sureB a)) ∧ w' = w := by
  have hs : sureB a = false := by simp [sureB]; omega
  rw [hs]
  clear hs
  have e6 : (a == 6) = false := by simp; omega
  have e10 : (a == 10) = false := by simp; omega
  have e73 : (a == 73) = false := by simp; omega
  have e74 : (a == 74) = false := by simp; omega
  have e79 : (a == 79) = false := by simp; omega
  have f1 : decide (1 ≤ a) = true := by simp; omega
  have f20 : decide (20 ≤ a) = true := by simp; omega
  have f50 : decide (50 ≤ a) = true := by simp; omega
  have f3 : decide (a ≤ 3) = false := by simp; omega
  have f25 : decide (a ≤ 25) = false := by simp; omega
  have f54 : decide (a ≤ 54) = false := by simp; omega
  go_enter Tryz.func132, Tryz.ntmps132
  go_wp2_with fail
  go_ret
  exact ⟨rfl, rfl⟩
set_option maxRecDepth 100000 in
theorem plain_r11 (a : Int) (w : World) (hl : 73 ≤ a) (hh : a ≤ 73) : Calls Tryz.prog 132 #[.int .i64 a] w fun e w' => e = .returned (.bool (sureB a)) ∧ w' = w := by
  have hs : sureB a = true := by simp [sureB]; omega
  rw [hs]
  clear hs
  have e6 : (a == 6) = false := by simp; omega
  have e10 : (a == 10) = false := by simp; omega
  have e73 : (a == 73) = true := by simp; omega
  have e74 : (a == 74) = false := by simp; omega
  have e79 : (a == 79) = false := by simp; omega
  have f1 : decide (1 ≤ a) = true := by simp; omega
  have f20 : decide (20 ≤ a) = true := by simp; omega
  have f50 : decide (50 ≤ a) = true := by simp; omega
  have f3 : decide (a ≤ 3) = false := by simp; omega
  have f25 : decide (a ≤ 25) = false := by simp; omega
  have f54 : decide (a ≤ 54) = false := by simp; omega
  go_enter Tryz.func132, Tryz.ntmps132
  go_wp2_with fail
  go_ret
  exact ⟨rfl, rfl⟩
set_option maxRecDepth 100000 in
theorem plain_r12 (a : Int) (w : World) (hl : 74 ≤ a) (hh : a ≤ 74) : Calls Tryz.prog 132 #[.int .i64 a] w fun e w' => e = .returned (.bool (sureB a)) ∧ w' = w := by
  have hs : sureB a = true := by simp [sureB]; omega
  rw [hs]
  clear hs
  have e6 : (a == 6) = false := by simp; omega
  have e10 : (a == 10) = false := by simp; omega
  have e73 : (a == 73) = false := by simp; omega
  have e74 : (a == 74) = true := by simp; omega
  have e79 : (a == 79) = false := by simp; omega
  have f1 : decide (1 ≤ a) = true := by simp; omega
  have f20 : decide (20 ≤ a) = true := by simp; omega
  have f50 : decide (50 ≤ a) = true := by simp; omega
  have f3 : decide (a ≤ 3) = false := by simp; omega
  have f25 : decide (a ≤ 25) = false := by simp; omega
  have f54 : decide (a ≤ 54) = false := by simp; omega
  go_enter Tryz.func132, Tryz.ntmps132
  go_wp2_with fail
  go_ret
  exact ⟨rfl, rfl⟩
set_option maxRecDepth 100000 in
theorem plain_r13 (a : Int) (w : World) (hl : 75 ≤ a) (hh : a ≤ 78) : Calls Tryz.prog 132 #[.int .i64 a] w fun e w' => e = .returned (.bool (sureB a)) ∧ w' = w := by
  have hs : sureB a = false := by simp [sureB]; omega
  rw [hs]
  clear hs
  have e6 : (a == 6) = false := by simp; omega
  have e10 : (a == 10) = false := by simp; omega
  have e73 : (a == 73) = false := by simp; omega
  have e74 : (a == 74) = false := by simp; omega
  have e79 : (a == 79) = false := by simp; omega
  have f1 : decide (1 ≤ a) = true := by simp; omega
  have f20 : decide (20 ≤ a) = true := by simp; omega
  have f50 : decide (50 ≤ a) = true := by simp; omega
  have f3 : decide (a ≤ 3) = false := by simp; omega
  have f25 : decide (a ≤ 25) = false := by simp; omega
  have f54 : decide (a ≤ 54) = false := by simp; omega
  go_enter Tryz.func132, Tryz.ntmps132
  go_wp2_with fail
  go_ret
  exact ⟨rfl, rfl⟩
set_option maxRecDepth 100000 in
theorem plain_r14 (a : Int) (w : World) (hl : 79 ≤ a) (hh : a ≤ 79) : Calls Tryz.prog 132 #[.int .i64 a] w fun e w' => e = .returned (.bool (sureB a)) ∧ w' = w := by
  have hs : sureB a = true := by simp [sureB]; omega
  rw [hs]
  clear hs
  have e6 : (a == 6) = false := by simp; omega
  have e10 : (a == 10) = false := by simp; omega
  have e73 : (a == 73) = false := by simp; omega
  have e74 : (a == 74) = false := by simp; omega
  have e79 : (a == 79) = true := by simp; omega
  have f1 : decide (1 ≤ a) = true := by simp; omega
  have f20 : decide (20 ≤ a) = true := by simp; omega
  have f50 : decide (50 ≤ a) = true := by simp; omega
  have f3 : decide (a ≤ 3) = false := by simp; omega
  have f25 : decide (a ≤ 25) = false := by simp; omega
  have f54 : decide (a ≤ 54) = false := by simp; omega
  go_enter Tryz.func132, Tryz.ntmps132
  go_wp2_with fail
  go_ret
  exact ⟨rfl, rfl⟩
set_option maxRecDepth 100000 in
theorem plain_r15 (a : Int) (w : World) (hl : 80 ≤ a) : Calls Tryz.prog 132 #[.int .i64 a] w fun e w' => e = .returned (.bool (sureB a)) ∧ w' = w := by
  have hs : sureB a = false := by simp [sureB]; omega
  rw [hs]
  clear hs
  have e6 : (a == 6) = false := by simp; omega
  have e10 : (a == 10) = false := by simp; omega
  have e73 : (a == 73) = false := by simp; omega
  have e74 : (a == 74) = false := by simp; omega
  have e79 : (a == 79) = false := by simp; omega
  have f1 : decide (1 ≤ a) = true := by simp; omega
  have f20 : decide (20 ≤ a) = true := by simp; omega
  have f50 : decide (50 ≤ a) = true := by simp; omega
  have f3 : decide (a ≤ 3) = false := by simp; omega
  have f25 : decide (a ≤ 25) = false := by simp; omega
  have f54 : decide (a ≤ 54) = false := by simp; omega
  go_enter Tryz.func132, Tryz.ntmps132
  go_wp2_with fail
  go_ret
  exact ⟨rfl, rfl⟩
theorem impl_plainOperator (a : Int) (w : World) : Calls Tryz.prog 132 #[.int .i64 a] w fun e w' => e = .returned (.bool (sureB a)) ∧ w' = w := by
  by_cases g0 : a ≤ 0
  · exact plain_r0 a w g0
  by_cases g1 : a ≤ 3
  · exact plain_r1 a w (by omega) g1
  by_cases g2 : a ≤ 5
  · exact plain_r2 a w (by omega) g2
  by_cases g3 : a ≤ 6
  · exact plain_r3 a w (by omega) g3
  by_cases g4 : a ≤ 9
  · exact plain_r4 a w (by omega) g4
  by_cases g5 : a ≤ 10
  · exact plain_r5 a w (by omega) g5
  by_cases g6 : a ≤ 19
  · exact plain_r6 a w (by omega) g6
  by_cases g7 : a ≤ 25
  · exact plain_r7 a w (by omega) g7
  by_cases g8 : a ≤ 49
  · exact plain_r8 a w (by omega) g8
  by_cases g9 : a ≤ 54
  · exact plain_r9 a w (by omega) g9
  by_cases g10 : a ≤ 72
  · exact plain_r10 a w (by omega) g10
  by_cases g11 : a ≤ 73
  · exact plain_r11 a w (by omega) g11
  by_cases g12 : a ≤ 74
  · exact plain_r12 a w (by omega) g12
  by_cases g13 : a ≤ 78
  · exact plain_r13 a w (by omega) g13
  by_cases g14 : a ≤ 79
  · exact plain_r14 a w (by omega) g14
  exact plain_r15 a w (by omega)

/-- n flags -/
def flags (n : Nat) (t : Nat → Bool) : List Value := (List.range n).map fun i => .bool (t i)
theorem flags_len (n : Nat) (t : Nat → Bool) : (flags n t).length = n := by simp [flags]
theorem flags_get {n i : Nat} {t : Nat → Bool} (h : i < n) : (flags n t)[i]? = some (.bool (t i)) := by simp [flags, List.getElem?_map, List.getElem?_range h]
theorem flags_ext {n : Nat} {t s : Nat → Bool} (h : ∀ i, i < n → t i = s i) : flags n t = flags n s := by
  unfold flags
  exact List.map_congr_left fun i hi => by rw [h i (List.mem_range.1 hi)]
theorem flags_set {n j : Nat} {t : Nat → Bool} (b : Bool) : (flags n t).set j (.bool b) = flags n (fun i => if i = j then b else t i) := by
  apply List.ext_getElem?
  intro i
  rw [List.getElem?_set]
  by_cases hi : i < n
  · rw [flags_get hi, flags_get hi, flags_len]
    by_cases hj : j = i
    · subst hj; rw [if_pos rfl, if_pos hi, if_pos rfl]
    · rw [if_neg hj, if_neg (fun e => hj e.symm)]
  · rw [List.getElem?_eq_none (by rw [flags_len]; omega), List.getElem?_eq_none (by rw [flags_len]; omega), flags_len]
    split
    · rw [if_neg (by omega)]
    · rfl
theorem made_flags (n : Nat) : (madeCells #[Value.bool false] n).toList = flags n (fun _ => false) := by
  apply List.ext_getElem?
  intro i
  simp only [madeCells, flags, Array.toList_map, Array.toList_range, List.getElem?_map]
  by_cases h : i < n
  · rw [List.getElem?_range h]; simp [Nat.mod_one]
  · rw [List.getElem?_eq_none (by simpa using h)]; rfl
def insQ (i : Nat) (x : InsT) : Bool := jumpB x.op && decide ((i : Int) ≤ x.a ∧ x.a ≤ (i : Int))
def roQ (i : Nat) (r : CRoT) : Bool := decide ((i : Int) ≤ r.entry ∧ r.entry ≤ (i : Int))
theorem ins_no {x : InsT} {i : Nat} (h : jumpB x.op = false ∨ x.a = -1) : insQ i x = false := by
  unfold insQ
  rcases h with h | h
  · rw [h]; rfl
  · rw [decide_eq_false (by omega), Bool.and_false]
theorem ins_at {x : InsT} {i p : Nat} (h : jumpB x.op = true) (hp : x.a = (p : Int)) : insQ i x = decide (i = p) := by
  unfold insQ; rw [h, Bool.true_and, hp, Bool.eq_iff_iff, decide_eq_true_iff, decide_eq_true_iff]; omega
theorem ro_at {r : CRoT} {i p : Nat} (hp : r.entry = (p : Int)) : roQ i r = decide (i = p) := by
  unfold roQ; rw [hp, Bool.eq_iff_iff, decide_eq_true_iff, decide_eq_true_iff]; omega
theorem set_or {t : Nat → Bool} {i p : Nat} {q : Bool} (h : q = decide (i = p)) : (if i = p then true else t i) = (t i || q) := by
  subst h
  by_cases e : i = p <;> simp [e]
theorem info_bool : (Tryz.prog.info? 4).map (fun i => (i.zero, i.size, i.bytes)) = some (some (.bool false), 1, 1) := by kernel_rfl
set_option maxRecDepth 100000 in
set_option maxHeartbeats 2000000 in
theorem impl_targetsOf (c : CodeT) (v : Value) (w : World) (lo hi : Nat) (h : SRep w lo hi CodeT.dats v c) (hhi : hi ≤ w.heap.size) (hcv : CodeV c) :
    Calls Tryz.prog 59 #[v] w fun e w' => ∃ g, e = .returned (.slice (some ⟨g, 0, none⟩) c.instrs.length c.instrs.length) ∧ w'.ownsRow w.heap.size 4 1 (.slice (some ⟨g, 0, none⟩) c.instrs.length c.instrs.length) c.instrs.length (flags c.instrs.length (tgB c)) ∧ Below w.heap.size w w' := by
  obtain ⟨i0, hi0, hz0, hz1, hz2⟩ := info_parts info_bool
  obtain ⟨Aroutines, nroutines, Arecords, nrecords, Aglobals, nglobals, Ainstrs, ninstrs, rfl, hr, ur, mr, -, -, -, -, -, -, hi1, ui, mi⟩ := CodeT.form h
  unfold maxLen at mi mr
  have hn2 := hcv.n2
  have hwa : Below w.heap.size w (w.alloc (.cells #[Value.slice Aroutines c.routines.length nroutines, .slice Arecords c.records.length nrecords, .slice Aglobals c.globals.length nglobals, .int .i64 c.main, .slice Ainstrs c.instrs.length ninstrs] 34)) := (Below.refl _ _).alloc (Nat.le_refl _) _
  have a0 := Blk.new w 34 #[.slice Aroutines c.routines.length nroutines, .slice Arecords c.records.length nrecords, .slice Aglobals c.globals.length nglobals, .int .i64 c.main, .slice Ainstrs c.instrs.length ninstrs]
  have HIV := Lib.hid hcv.ins
  have HRV := Lib.hid hcv.ros
  clear h hcv
  go_enter Tryz.func59, Tryz.ntmps59
  go_wp2_with (first | (at_make; refine wpList_make_full _ rfl (.tmp 10) (.tmp 10) 94 rfl (w.heap.size + 1) 4 i0 _ 1 Tryz.underlying94 hi0 hz0 hz1 .i64 .i64 _ _ c.instrs.length rfl rfl rfl rfl (by rw [hz2]; omega) (by unfold maxLen; omega) (by simp) ?_))
  intro w1 hown hg
  have e1 : (w.alloc (.cells #[Value.slice Aroutines c.routines.length nroutines, .slice Arecords c.records.length nrecords, .slice Aglobals c.globals.length nglobals, .int .i64 c.main, .slice Ainstrs c.instrs.length ninstrs] 34)).heap.size = w.heap.size + 1 := by simp
  have hb1 := below_of_grown hg (Nat.le_refl _) (fun g hg => by cases hg)
  have hw1 := hwa.trans (hb1.mono hwa.size)
  have a1 := a0.later hb1
  obtain ⟨G, hG⟩ : ∃ G, w.heap.size + 1 = G := ⟨_, rfl⟩
  have HGe := Lib.hid hG
  have hown : w1.ownsRow (w.heap.size + 1) 4 1 (.slice (some ⟨w.heap.size + 1, 0, none⟩) c.instrs.length c.instrs.length) c.instrs.length (flags c.instrs.length (fun _ => false)) := by rw [← made_flags]; exact hown
  have hgl : w.heap.size + 1 < w1.heap.size := (hown.lt _ rfl).2
  have ca := a1.cell
  have la := a1.lt
  clear hb1 hg hwa a0 hG e1
  go_wp2_with fail
  go_loopw [15] (fun i wr => ∃ (k : Nat) (t : Nat → Bool), k ≤ c.instrs.length ∧ i = .int .i64 k ∧ Hid (∀ j, j < c.instrs.length → t j = (c.instrs.take k).any (insQ j)) ∧ wr.ownsRow (w.heap.size + 1) 4 1 (.slice (some ⟨w.heap.size + 1, 0, none⟩) c.instrs.length c.instrs.length) c.instrs.length (flags c.instrs.length t) ∧ Below w.heap.size w wr ∧ Blk wr w.heap.size 34 #[.slice Aroutines c.routines.length nroutines, .slice Arecords c.records.length nrecords, .slice Aglobals c.globals.length nglobals, .int .i64 c.main, .slice Ainstrs c.instrs.length ninstrs]) (fun i _ => c.instrs.length - (intOf i).toNat)
  case atStart => exact ⟨0, _, Nat.zero_le _, rfl, fun j _ => rfl, hown, hw1, a1⟩
  case round =>
    clear hown hw1 a1 ca la hgl
    obtain ⟨k, t, hk, rfl, ht, hown, hw1, a1⟩ := hrel
    obtain ⟨wo, rfl⟩ : ∃ wo : World, wo = wr := ⟨_, rfl⟩
    have hgl : w.heap.size + 1 < wo.heap.size := (hown.lt _ rfl).2
    have ca := a1.cell
    have la := a1.lt
    by_cases hlt : k < c.instrs.length
    · obtain ⟨x, hx⟩ : ∃ x, c.instrs[k]? = some x := ⟨_, List.getElem?_eq_getElem hlt⟩
      obtain ⟨g, off, rfl, hg1, hg2, hmem, -, q0, q1, q2, q3, q4⟩ := InsT.at_ (hi1.below hw1 hhi) hx
      have hlab := (HIV.out x hmem).lab
      have HS : Hid (∀ j, (c.instrs.take (k + 1)).any (insQ j) = ((c.instrs.take k).any (insQ j) || insQ j x)) := fun j => any_snoc hx
      have hw2 := hw1.alloc hw1.size (.cells #[Value.int .i64 x.op, .int .i64 x.a, .int .i64 x.b, .int .i64 x.line, .string x.text] 79)
      have own2 := hown.alloc (.cells #[Value.int .i64 x.op, .int .i64 x.a, .int .i64 x.b, .int .i64 x.line, .string x.text] 79)
      have a2 := a1.alloc (.cells #[Value.int .i64 x.op, .int .i64 x.a, .int .i64 x.b, .int .i64 x.line, .string x.text] 79)
      obtain ⟨r, hrj⟩ : ∃ r, jumpB x.op = r := ⟨_, rfl⟩
      rw [hrj] at hlab
      have HJ := Lib.hid hrj
      clear hx hmem hrj
      by_cases hno : r = false ∨ x.a = -1
      · have HN : Hid (∀ j, insQ j x = false) := fun j => ins_no (hno.imp (fun e => by rw [HJ.out, e]) id)
        have key : r = false ∨ r = true ∧ (x.a != -1) = false := by
          rcases hno with e | e
          · exact .inl e
          · cases r
            · exact .inl rfl
            · exact .inr ⟨rfl, by simp; exact e⟩
        have HT2 : Hid (∀ j, j < c.instrs.length → t j = (c.instrs.take (k + 1)).any (insQ j)) := fun j hj => by rw [HS.out, HN.out, Bool.or_false]; exact ht.out j hj
        clear hno hlab ht hown hw1 a1
        rcases key with rfl | ⟨rfl, t1⟩
        all_goals
          go_wp2_with fail
          refine (impl_isLabel x.op _).mono ?_; rw [HJ.out]; rintro e w3 ⟨rfl, rfl⟩
          go_wp2_with fail
          go_roundw
          case rel => exact ⟨k + 1, t, by omega, by go_num, HT2, own2, hw2, a2⟩
          case measure => simp [intOf]; omega
      · have hr1 : r = true := by cases r; exact absurd (.inl rfl) hno; rfl
        have ha1 : ¬ x.a = -1 := fun e => hno (.inr e)
        subst hr1
        have hlab := hlab rfl
        obtain ⟨p, hp⟩ : ∃ p : Nat, x.a = p := ⟨x.a.toNat, by omega⟩
        have hpn : p < c.instrs.length := by omega
        have t1 : ((p : Int) != -1) = true := by simp <;> omega
        have HT2 : Hid (∀ j, j < c.instrs.length → (fun i => if i = p then true else t i) j = (c.instrs.take (k + 1)).any (insQ j)) := fun j hj => by
          rw [HS.out, ← ht.out j hj]; exact set_or (ins_at HJ.out hp)
        have hst := ((hown.stored p (.bool true)).1).alloc (.cells #[Value.int .i64 x.op, .int .i64 x.a, .int .i64 x.b, .int .i64 x.line, .string x.text] 79)
        rw [flags_set] at hst
        have hw3 := (hw1.setCell (p := ⟨w.heap.size + 1, p, none⟩) (by simp) (.bool true)).alloc (by simpa [World.setCell] using hw1.size) (.cells #[Value.int .i64 x.op, .int .i64 x.a, .int .i64 x.b, .int .i64 x.line, .string x.text] 79)
        have a3 := (a1.far (p := ⟨w.heap.size + 1, p, none⟩) (by simp) (.bool true)).alloc (.cells #[Value.int .i64 x.op, .int .i64 x.a, .int .i64 x.b, .int .i64 x.line, .string x.text] 79)
        obtain ⟨⟨u, d0⟩, f0⟩ := own_at own2 p (by omega)
        rw [hp] at q1 own2 a2 hw2 hst hw3 a3 d0 f0
        have HF := Lib.hid (And.intro hst (And.intro hw3 a3))
        clear hno hlab ha1 ht hown hw1 a1 hp hst hw3 a3 own2 a2 hw2
        go_wp2_with fail
        refine (impl_isLabel x.op _).mono ?_; rw [HJ.out]; rintro e w3 ⟨rfl, rfl⟩
        go_wp2_with fail
        go_roundw
        case rel => exact ⟨k + 1, _, by omega, by go_num, HT2, HF.out.1, HF.out.2.1, HF.out.2.2⟩
        case measure => simp [intOf]; omega
    · obtain rfl : k = c.instrs.length := by omega
      rw [List.take_length] at ht
      go_wp2_with fail
      go_loopw [35] (fun i wr => ∃ (k : Nat) (t : Nat → Bool), k ≤ c.routines.length ∧ i = .int .i64 k ∧ Hid (∀ j, j < c.instrs.length → t j = (c.instrs.any (insQ j) || (c.routines.take k).any (roQ j))) ∧ wr.ownsRow (w.heap.size + 1) 4 1 (.slice (some ⟨w.heap.size + 1, 0, none⟩) c.instrs.length c.instrs.length) c.instrs.length (flags c.instrs.length t) ∧ Below w.heap.size w wr ∧ Blk wr w.heap.size 34 #[.slice Aroutines c.routines.length nroutines, .slice Arecords c.records.length nrecords, .slice Aglobals c.globals.length nglobals, .int .i64 c.main, .slice Ainstrs c.instrs.length ninstrs]) (fun i _ => c.routines.length - (intOf i).toNat)
      case atStart => exact ⟨0, t, Nat.zero_le _, rfl, fun j hj => by rw [ht.out j hj]; simp, hown, hw1, a1⟩
      case round =>
        clear hown hw1 a1 ca la hgl ht hlt hk
        obtain ⟨k, t, hk, rfl, ht, hown, hw1, a1⟩ := hrel
        obtain ⟨wo, rfl⟩ : ∃ wo : World, wo = wr := ⟨_, rfl⟩
        have hgl : w.heap.size + 1 < wo.heap.size := (hown.lt _ rfl).2
        have ca := a1.cell
        have la := a1.lt
        by_cases hlt : k < c.routines.length
        · obtain ⟨x, hx⟩ : ∃ x, c.routines[k]? = some x := ⟨_, List.getElem?_eq_getElem hlt⟩
          obtain ⟨g, off, rfl, hg1, hg2, hmem, -, q0, q1, q2, q3⟩ := CRoT.at_ (hr.below hw1 hhi) hx
          obtain ⟨-, -, hb1, hb2⟩ := HRV.out x hmem
          have HS : Hid (∀ j, (c.routines.take (k + 1)).any (roQ j) = ((c.routines.take k).any (roQ j) || roQ j x)) := fun j => any_snoc hx
          have hw2 := hw1.alloc hw1.size (.cells #[Value.string x.name, .int .i64 x.params, .int .i64 x.slots, .int .i64 x.entry] 76)
          have own2 := hown.alloc (.cells #[Value.string x.name, .int .i64 x.params, .int .i64 x.slots, .int .i64 x.entry] 76)
          have a2 := a1.alloc (.cells #[Value.string x.name, .int .i64 x.params, .int .i64 x.slots, .int .i64 x.entry] 76)
          obtain ⟨p, hp⟩ : ∃ p : Nat, x.entry = p := ⟨x.entry.toNat, by omega⟩
          have hpn : p < c.instrs.length := by omega
          have HT2 : Hid (∀ j, j < c.instrs.length → (fun i => if i = p then true else t i) j = (c.instrs.any (insQ j) || (c.routines.take (k + 1)).any (roQ j))) := fun j hj => by
            rw [HS.out, ← Bool.or_assoc, ← ht.out j hj]; exact set_or (ro_at hp)
          have hst := ((hown.stored p (.bool true)).1).alloc (.cells #[Value.string x.name, .int .i64 x.params, .int .i64 x.slots, .int .i64 x.entry] 76)
          rw [flags_set] at hst
          have hw3 := (hw1.setCell (p := ⟨w.heap.size + 1, p, none⟩) (by simp) (.bool true)).alloc (by simpa [World.setCell] using hw1.size) (.cells #[Value.string x.name, .int .i64 x.params, .int .i64 x.slots, .int .i64 x.entry] 76)
          have a3 := (a1.far (p := ⟨w.heap.size + 1, p, none⟩) (by simp) (.bool true)).alloc (.cells #[Value.string x.name, .int .i64 x.params, .int .i64 x.slots, .int .i64 x.entry] 76)
          obtain ⟨⟨u, d0⟩, f0⟩ := own_at own2 p (by omega)
          rw [hp] at q3 own2 a2 hw2 hst hw3 a3 d0 f0
          have HF := Lib.hid (And.intro hst (And.intro hw3 a3))
          clear ht hown hw1 a1 hp hst hw3 a3 own2 a2 hw2 hx hmem hb1 hb2
          go_wp2_with fail
          go_roundw
          case rel => exact ⟨k + 1, _, by omega, by go_num, HT2, HF.out.1, HF.out.2.1, HF.out.2.2⟩
          case measure => simp [intOf]; omega
        · obtain rfl : k = c.routines.length := by omega
          rw [List.take_length] at ht
          have hfin : flags c.instrs.length t = flags c.instrs.length (tgB c) := flags_ext fun i hi => by rw [ht.out i hi, Bool.or_comm]; rfl
          rw [hfin] at hown
          clear ht hfin
          go_wp2_with fail
          go_ret
          exact ⟨_, rfl, own_low hown (Nat.le_succ _), hw1⟩
end Go.Proofs.YtekobbeoaalibaaGreatDoor
end

section
namespace Go.Proofs.YtekobbeoaalibaaGreatDoor
open Go.RowKit
set_option linter.unusedVariables false

def unmarkT (c : List InsT) (t : Nat → Bool) (x : InsT) (p : Nat) : Option Nat := if x.op = 13 then closeT t (c.drop (p + 1)) (p + 1) 0 else none
section
variable {t : Nat → Bool} {l : List InsT} {i : Nat} {n : Int} {x : InsT} {r : Option Nat}
theorem ct_end (h : r = closeT t (l.drop i) i n) (hi : l.length ≤ i) : r = none := by rw [h, List.drop_eq_nil_of_le hi]; rfl
theorem ct_tg (h : r = closeT t (l.drop i) i n) (hx : l[i]? = some x) (ht : t i = true) : r = none := by rw [h, drop_at hx]; simp [closeT, ht]
theorem ct_un (h : r = closeT t (l.drop i) i n) (hx : l[i]? = some x) (ht : t i = false) (h14 : x.op = 14) : r = if n = 1 then some i else none := by rw [h, drop_at hx]; simp [closeT, ht, h14]
theorem ct_go {m : Int} (h : r = closeT t (l.drop i) i n) (hx : l[i]? = some x) (ht : t i = false) (h14 : ¬ x.op = 14) (hs : stillN x n = some m) : r = closeT t (l.drop (i + 1)) (i + 1) m := by rw [h, drop_at hx]; simp [closeT, ht, h14, hs]
theorem ct_no (h : r = closeT t (l.drop i) i n) (hx : l[i]? = some x) (ht : t i = false) (h14 : ¬ x.op = 14) (hs : stillN x n = none) : r = none := by rw [h, drop_at hx]; simp [closeT, ht, h14, hs]
end
set_option maxRecDepth 100000 in
set_option maxHeartbeats 2000000 in
theorem impl_unmarkOf (c : CodeT) (v u : Value) (t : Nat → Bool) (x0 : InsT) (p : Nat) (w : World) (lo hi lo' hi' : Nat) (h : SRep w lo hi CodeT.dats v c) (hhi : hi ≤ w.heap.size) (hu : Rds w lo' hi' 1 u c.instrs.length (flags c.instrs.length t)) (hhi' : hi' ≤ w.heap.size) (hn : c.instrs.length ≤ 60000) (hv : ∀ x ∈ c.instrs, InsV c.instrs.length x) (hx0 : c.instrs[p]? = some x0) :
    Calls Tryz.prog 101 #[v, .int .i64 p, u] w fun e w' => e = .returned (.int .i64 (optI (unmarkT c.instrs t x0 p))) ∧ Below w.heap.size w w' := by
  obtain ⟨Aroutines, nroutines, Arecords, nrecords, Aglobals, nglobals, Ainstrs, ninstrs, rfl, -, -, -, -, -, -, -, -, -, hi1, ui, mi⟩ := CodeT.form h
  unfold maxLen at mi
  have hpl : p < c.instrs.length := (List.getElem?_eq_some_iff.1 hx0).1
  have hwa : Below w.heap.size w (w.alloc (.cells #[Value.slice Aroutines c.routines.length nroutines, .slice Arecords c.records.length nrecords, .slice Aglobals c.globals.length nglobals, .int .i64 c.main, .slice Ainstrs c.instrs.length ninstrs] 34)) := (Below.refl _ _).alloc (Nat.le_refl _) _
  have a0 := Blk.new w 34 #[Value.slice Aroutines c.routines.length nroutines, .slice Arecords c.records.length nrecords, .slice Aglobals c.globals.length nglobals, .int .i64 c.main, .slice Ainstrs c.instrs.length ninstrs]
  obtain ⟨g0, off0, hA0, k1, k2, -, -, z0, -, -, -, -⟩ := InsT.at_ hi1 hx0
  have hgl : g0 < w.heap.size := Nat.lt_of_lt_of_le k2 hhi
  obtain ⟨Au, capu, rfl, hu1, hu2, -⟩ := hu.shape
  unfold maxLen at hu2
  have HV := Lib.hid hv
  clear h hv
  by_cases h13 : x0.op = 13
  · have HU : Hid (unmarkT c.instrs t x0 p = closeT t (c.instrs.drop (p + 1)) (p + 1) 0) := by show _ = _; unfold unmarkT; rw [if_pos h13]
    have t0 : (x0.op != 13) = false := by simp; exact h13
    obtain ⟨r, hr⟩ : ∃ r, unmarkT c.instrs t x0 p = r := ⟨_, rfl⟩
    rw [hr] at HU ⊢
    subst hA0
    clear h13 hr hx0
    go_enter Tryz.func101, Tryz.ntmps101
    go_wp2_with fail
    go_loopw [7, 8] (fun nv i wr => ∃ (k : Nat) (n : Int), k ≤ c.instrs.length ∧ i = .int .i64 k ∧ nv = .int .i64 n ∧ 0 ≤ n ∧ n ≤ k ∧ Hid (r = closeT t (c.instrs.drop k) k n) ∧ Below w.heap.size w wr ∧ Blk wr w.heap.size 34 #[Value.slice Aroutines c.routines.length nroutines, .slice Arecords c.records.length nrecords, .slice Aglobals c.globals.length nglobals, .int .i64 c.main, .slice (some ⟨g0, off0, none⟩) c.instrs.length ninstrs]) (fun _ i _ => c.instrs.length - (intOf i).toNat)
    case atStart => exact ⟨p + 1, 0, hpl, by congr 1, rfl, by omega, by omega, HU.out, hwa, a0⟩
    case round =>
      clear hwa a0
      obtain ⟨k, n, hk, rfl, rfl, hn0, hn1, hc, hw1, a1⟩ := hrel
      obtain ⟨wo, rfl⟩ : ∃ wo : World, wo = wr := ⟨_, rfl⟩
      have ca := a1.cell
      have la := a1.lt
      by_cases hlt : k < c.instrs.length
      · obtain ⟨x, hx⟩ : ∃ x, c.instrs[k]? = some x := ⟨_, List.getElem?_eq_getElem hlt⟩
        obtain ⟨g, off, hA, hg1, hg2, hmem, -, q0, q1, q2, q3, q4⟩ := InsT.at_ (hi1.below hw1 hhi) hx
        injection hA with hA
        injection hA with hA1 hA2
        subst hA1 hA2
        obtain ⟨gu, offu, uu, rfl, -, -, huu, hcu⟩ := (hu.below hw1 hhi').at_ hlt
        rw [flags_get hlt] at huu
        injection huu with huu
        subst huu
        have hiv := HV.out x hmem
        have hop := hiv.op
        have harg := hiv.arg
        obtain ⟨b, hb⟩ : ∃ b, t k = b := ⟨_, rfl⟩
        rw [hb] at hcu
        cases b with
        | true =>
          have HN := Lib.hid (ct_tg hc.out hx hb)
          clear hc hx hmem hiv hb hop harg
          go_wp2_with fail
          go_ret
          exact ⟨ret_int (by rw [HN.out]; rfl), hw1⟩
        | false =>
          have hw2 := hw1.alloc hw1.size (.cells #[Value.int .i64 x.op, .int .i64 x.a, .int .i64 x.b, .int .i64 x.line, .string x.text] 79)
          have a2 := a1.alloc (.cells #[Value.int .i64 x.op, .int .i64 x.a, .int .i64 x.b, .int .i64 x.line, .string x.text] 79)
          by_cases h14 : x.op = 14
          · have HC := Lib.hid (ct_un hc.out hx hb h14)
            have t14 : (x.op == 14) = true := by simp; exact h14
            clear hc hx h14 hmem hiv hb hop harg
            by_cases h1 : n = 1
            · have t1 : (n == 1) = true := by simp; exact h1
              have H1 := Lib.hid h1
              clear h1
              go_wp2_with fail
              go_ret
              exact ⟨ret_int (by rw [HC.out, if_pos H1.out]; rfl), hw2⟩
            · have t1 : (n == 1) = false := by simp; exact h1
              go_wp2_with fail
              go_ret
              exact ⟨ret_int (by rw [HC.out, if_neg h1]; rfl), hw2⟩
          · have t14 : (x.op == 14) = false := by simp; exact h14
            by_cases h10 : x.op ≤ 10
            · have HC := Lib.hid (ct_go hc.out hx hb h14 (m := n + 1) (by unfold stillN; rw [if_pos ⟨hop.1, h10⟩]))
              have t10 : decide (x.op ≤ 10) = true := by simp; exact h10
              clear hc hx h14 hmem hiv hb hop harg h10
              go_wp2_with fail
              go_roundw
              case rel => exact ⟨k + 1, n + 1, by omega, by go_num, rfl, by omega, by omega, HC, hw2, a2⟩
              case measure => simp [intOf]; omega
            · have t10 : decide (x.op ≤ 10) = false := by simp; omega
              by_cases h30 : x.op = 30
              · have t30 : (x.op == 30) = true := by simp; exact h30
                by_cases h1 : n < 1
                · have HC := Lib.hid (ct_no hc.out hx hb h14 (by unfold stillN; rw [if_neg (by omega), if_pos h30, if_pos h1]))
                  obtain rfl : n = 0 := by omega
                  clear hc hx h14 hmem hiv hb hop harg h10 h30 h1
                  go_wp2_with fail
                  go_ret
                  exact ⟨ret_int (by rw [HC.out]; rfl), hw2⟩
                · have HC := Lib.hid (ct_go hc.out hx hb h14 (m := n - 1) (by unfold stillN; rw [if_neg (by omega), if_pos h30, if_neg h1]))
                  have t1 : decide (n - 1 < 0) = false := by simp; omega
                  clear hc hx h14 hmem hiv hb hop harg h10 h30
                  go_wp2_with fail
                  go_roundw
                  case rel => exact ⟨k + 1, n - 1, by omega, by go_num, rfl, by omega, by omega, HC, hw2, a2⟩
                  case measure => simp [intOf]; omega
              · have t30 : (x.op == 30) = false := by simp; exact h30
                by_cases h11 : x.op = 11
                · have t11 : (x.op == 11) = true := by simp; exact h11
                  have hbb := harg (.inl h11)
                  obtain ⟨hb0, hb9⟩ := hbb
                  obtain ⟨sr, hsr⟩ : ∃ sr, sureB x.a = sr := ⟨_, rfl⟩
                  have HSR := Lib.hid hsr
                  cases sr with
                  | false =>
                    have HC := Lib.hid (ct_no hc.out hx hb h14 (by unfold stillN; rw [if_neg (by omega), if_neg h30, if_pos h11, if_neg (by rw [hsr]; simp)]))
                    clear hc hx h14 hmem hiv hb hop harg h10 h30 h11 hsr
                    go_wp2_with fail
                    refine (impl_plainOperator x.a _).mono ?_; rw [HSR.out]; rintro e w3 ⟨rfl, rfl⟩
                    go_wp2_with fail
                    go_ret
                    exact ⟨ret_int (by rw [HC.out]; rfl), hw2⟩
                  | true =>
                    by_cases hnb : n < x.b
                    · have HC := Lib.hid (ct_no hc.out hx hb h14 (by unfold stillN; rw [if_neg (by omega), if_neg h30, if_pos h11, if_neg (fun h => h.2 hnb)]))
                      clear hc hx h14 hmem hiv hb hop harg h10 h30 h11 hsr
                      go_wp2_with fail
                      refine (impl_plainOperator x.a _).mono ?_; rw [HSR.out]; rintro e w3 ⟨rfl, rfl⟩
                      go_wp2_with fail
                      go_ret
                      exact ⟨ret_int (by rw [HC.out]; rfl), hw2⟩
                    · have HC := Lib.hid (ct_go hc.out hx hb h14 (m := n + (1 - x.b)) (by unfold stillN; rw [if_neg (by omega), if_neg h30, if_pos h11, if_pos ⟨hsr, hnb⟩]))
                      have t1 : decide (n + (1 - x.b) < 0) = false := by simp; omega
                      clear hc hx h14 hmem hiv hb hop harg h10 h30 h11 hsr
                      go_wp2_with fail
                      refine (impl_plainOperator x.a _).mono ?_; rw [HSR.out]; rintro e w3 ⟨rfl, rfl⟩
                      go_wp2_with fail
                      go_roundw
                      case rel => exact ⟨k + 1, n + (1 - x.b), by omega, by go_num, rfl, by omega, by omega, HC, hw2, a2⟩
                      case measure => simp [intOf]; omega
                · have t11 : (x.op == 11) = false := by simp; exact h11
                  have HC := Lib.hid (ct_no hc.out hx hb h14 (by unfold stillN; rw [if_neg (by omega), if_neg h30, if_neg h11]))
                  clear hc hx h14 hmem hiv hb hop harg h10 h30 h11
                  go_wp2_with fail
                  go_ret
                  exact ⟨ret_int (by rw [HC.out]; rfl), hw2⟩
      · have HN := Lib.hid (ct_end hc.out (by omega))
        clear hc
        go_wp2_with fail
        go_ret
        exact ⟨ret_int (by rw [HN.out]; rfl), hw1⟩
  · have HU : Hid (unmarkT c.instrs t x0 p = none) := by show _ = _; unfold unmarkT; rw [if_neg h13]
    have t0 : (x0.op != 13) = true := by simp; exact h13
    subst hA0
    clear h13 hx0
    go_enter Tryz.func101, Tryz.ntmps101
    go_wp2_with fail
    go_ret
    exact ⟨ret_int (by rw [HU.out]; rfl), hwa⟩
end Go.Proofs.YtekobbeoaalibaaGreatDoor
end

section
namespace Go.Proofs.YtekobbeoaalibaaGreatDoor
open Go.RowKit
set_option linter.unusedVariables false

set_option maxRecDepth 100000 in
set_option maxHeartbeats 2000000 in
theorem impl_threads (c : CodeT) (v : Value) (x : InsT) (p : Nat) (w : World) (lo hi : Nat) (h : SRep w lo hi CodeT.dats v c) (hhi : hi ≤ w.heap.size) (hcv : CodeV c) (hx : c.instrs[p]? = some x) :
    Calls Tryz.prog 100 #[v, .int .i64 p] w fun e w' => e = .returned (.bool (threadB c.instrs x)) ∧ Below w.heap.size w w' := by
  obtain ⟨Aroutines, nroutines, Arecords, nrecords, Aglobals, nglobals, Ainstrs, ninstrs, rfl, -, -, -, -, -, -, -, -, -, hi1, ui, mi⟩ := CodeT.form h
  unfold maxLen at mi
  have hpl : p < c.instrs.length := (List.getElem?_eq_some_iff.1 hx).1
  have hn2 := hcv.n2
  obtain ⟨g, off, rfl, hg1, hg2, hmem, -, q0, q1, q2, q3, q4⟩ := InsT.at_ hi1 hx
  have hiv := hcv.ins x hmem
  have hwa : Below w.heap.size w (w.alloc (.cells #[Value.slice Aroutines c.routines.length nroutines, .slice Arecords c.records.length nrecords, .slice Aglobals c.globals.length nglobals, .int .i64 c.main, .slice (some ⟨g, off, none⟩) c.instrs.length ninstrs] 34)) := (Below.refl _ _).alloc (Nat.le_refl _) _
  have hwb := hwa.alloc hwa.size (.cells #[Value.int .i64 x.op, .int .i64 x.a, .int .i64 x.b, .int .i64 x.line, .string x.text] 79)
  have hgl : g < w.heap.size := Nat.lt_of_lt_of_le hg2 hhi
  have hlab := hiv.lab
  clear h hmem hiv
  have HT : Hid (threadB c.instrs x = (decide (x.op = 13 ∨ x.op = 15 ∨ x.op = 17) && decide (0 ≤ x.a) && gotoB c.instrs x.a)) := rfl
  by_cases hj : x.op = 13 ∨ x.op = 15 ∨ x.op = 17
  · have hjb : jumpB x.op = true := by unfold jumpB; simp; omega
    have hlab := hlab hjb
    have key : (x.op == 13) = true ∨ (x.op == 13) = false ∧ (x.op == 15) = true ∨ (x.op == 13) = false ∧ (x.op == 15) = false ∧ (x.op == 17) = true := by
      simp; omega
    have HJ : Hid (decide (x.op = 13 ∨ x.op = 15 ∨ x.op = 17) = true) := by show _ = _; simp; exact hj
    by_cases ha : 0 ≤ x.a
    · have hal : x.a < c.instrs.length := by omega
      obtain ⟨q, hq⟩ : ∃ q : Nat, x.a = q := ⟨x.a.toNat, by omega⟩
      obtain ⟨y, hy⟩ : ∃ y, c.instrs[q]? = some y := ⟨_, List.getElem?_eq_getElem (by omega)⟩
      obtain ⟨g', off', hA, -, -, -, -, y0, -, -, -, -⟩ := InsT.at_ hi1 hy
      injection hA with hA
      injection hA with hA1 hA2
      subst hA1 hA2
      have y0' := (hwb.cell (p := ⟨g, off + q * 5, none⟩) hgl).trans y0
      have HG : Hid (gotoB c.instrs x.a = (y.op == 15)) := by show _ = _; unfold gotoB; rw [hq, Int.toNat_natCast, hy]; rw [Bool.eq_iff_iff]; simp
      have hqn : q < c.instrs.length := by omega
      have ha' : decide (0 ≤ x.a) = true := by simp; exact ha
      have HA := Lib.hid ha'
      have t5 : ((q : Int) != -1) = true := by simp <;> omega
      rw [hq] at q1 hwb y0'
      obtain ⟨r, hr⟩ : ∃ r, (y.op == 15) = r := ⟨_, rfl⟩
      have HR := Lib.hid hr
      clear hj hjb hlab hx hi1 hy hq ha hal y0 hcv ha'
      rcases key with t1 | ⟨t1, t2⟩ | ⟨t1, t2, t3⟩
      all_goals
        go_enter Tryz.func100, Tryz.ntmps100
        go_wp2_with fail
        go_ret
        exact ⟨ret_bool (by rw [HT.out, HJ.out, HA.out, HG.out, HR.out]; cases r <;> rfl), hwb⟩
    · have HA : Hid (decide (0 ≤ x.a) = false) := by show _ = _; simp; omega
      have t5 : (x.a != -1) = false := by simp; omega
      clear hj hjb hlab hx hi1 ha hcv
      rcases key with t1 | ⟨t1, t2⟩ | ⟨t1, t2, t3⟩
      all_goals
        go_enter Tryz.func100, Tryz.ntmps100
        go_wp2_with fail
        go_ret
        exact ⟨ret_bool (by rw [HT.out, HJ.out, HA.out]; rfl), hwb⟩
  · have HJ : Hid (decide (x.op = 13 ∨ x.op = 15 ∨ x.op = 17) = false) := by show _ = _; simp; omega
    have t1 : (x.op == 13) = false := by simp; omega
    have t2 : (x.op == 15) = false := by simp; omega
    have t3 : (x.op == 17) = false := by simp; omega
    clear hj hlab hx hi1 hcv
    go_enter Tryz.func100, Tryz.ntmps100
    go_wp2_with fail
    go_ret
    exact ⟨ret_bool (by rw [HT.out, HJ.out]; rfl), hwb⟩
set_option maxRecDepth 100000 in
set_option maxHeartbeats 2000000 in
theorem impl_deadInstr (c : CodeT) (sh : List ByteArray) (v u : Value) (x : InsT) (p : Nat) (w : World) (lo hi lo' hi' : Nat) (h : SRep w lo hi CodeT.dats v c) (hhi : hi ≤ w.heap.size) (hs : LRep w lo' hi' 1 strDats u sh) (hhi' : hi' ≤ w.heap.size) (hsl : sh.length = c.instrs.length) (hcv : CodeV c) (hx : c.instrs[p]? = some x) :
    Calls Tryz.prog 102 #[v, .int .i64 p, u] w fun e w' => e = .returned (.bool (deadB sh x p)) ∧ Below w.heap.size w w' := by
  obtain ⟨Aroutines, nroutines, Arecords, nrecords, Aglobals, nglobals, Ainstrs, ninstrs, rfl, -, -, -, -, -, -, -, -, -, hi1, ui, mi⟩ := CodeT.form h
  unfold maxLen at mi
  have hpl : p < c.instrs.length := (List.getElem?_eq_some_iff.1 hx).1
  have hn2 := hcv.n2
  obtain ⟨g, off, rfl, hg1, hg2, hmem, -, q0, q1, q2, q3, q4⟩ := InsT.at_ hi1 hx
  have hiv := hcv.ins x hmem
  have hwa : Below w.heap.size w (w.alloc (.cells #[Value.slice Aroutines c.routines.length nroutines, .slice Arecords c.records.length nrecords, .slice Aglobals c.globals.length nglobals, .int .i64 c.main, .slice (some ⟨g, off, none⟩) c.instrs.length ninstrs] 34)) := (Below.refl _ _).alloc (Nat.le_refl _) _
  have hwb := hwa.alloc hwa.size (.cells #[Value.int .i64 x.op, .int .i64 x.a, .int .i64 x.b, .int .i64 x.line, .string x.text] 79)
  have hgl : g < w.heap.size := Nat.lt_of_lt_of_le hg2 hhi
  obtain ⟨s, hsx⟩ : ∃ s, sh[p]? = some s := ⟨_, List.getElem?_eq_getElem (by omega)⟩
  obtain ⟨Au, capu, rfl, hu1, hu2⟩ := hs.shape
  obtain ⟨gs, offs, rfl, gs1, gs2, qs⟩ := hs.text hsx
  unfold maxLen at hu2
  have HD : Hid (deadB sh x p = (decide (s.size = 0) && !failB x)) := by show _ = _; unfold deadB; rw [List.getD, hsx]; rfl
  rw [hsl] at hu1
  have hpl' : p < sh.length := by omega
  have hgs : gs < w.heap.size := Nat.lt_of_lt_of_le gs2 hhi'
  have qs3 := (hwb.cell (p := ⟨gs, offs + p, none⟩) hgs).trans qs
  clear h hcv hx hsx hi1 hs hmem qs hiv
  go_enter Tryz.func102, Tryz.ntmps102
  go_wp2_with fail
  all_goals
    go_ret
    refine ⟨ret_bool ?_, ((Below.refl _ _).alloc (Nat.le_refl _) _).alloc (by simp) _⟩
    rw [HD.out]
    clear hwa hwb qs3 q0 q1 q2 q3 q4 HD
    unfold failB
    simp only [size0]
    simp_all
theorem unmark_flag (c : CodeT) (x : InsT) (p : Nat) : decide (0 ≤ optI (unmarkT c.instrs (tgB c) x p)) = unmarkB c x p := by
  by_cases h : x.op = 13
  · rw [← unmark_eq c x p h]
    unfold unmarkT
    rw [if_pos h]
    cases closeT (tgB c) (c.instrs.drop (p + 1)) (p + 1) 0 with
    | none => rfl
    | some e => simp [optI]
  · unfold unmarkT unmarkB
    rw [if_neg h, decide_eq_false h]; rfl
set_option maxRecDepth 100000 in
set_option maxHeartbeats 2000000 in
theorem impl_acceptedEdit (c : CodeT) (sh : List ByteArray) (v u y : Value) (x : InsT) (k : Int) (p : Nat) (w : World) (lo hi lo' hi' lo2 hi2 : Nat) (h : SRep w lo hi CodeT.dats v c) (hhi : hi ≤ w.heap.size) (hs : LRep w lo' hi' 1 strDats u sh) (hhi' : hi' ≤ w.heap.size) (hsl : sh.length = c.instrs.length) (ht : Rds w lo2 hi2 1 y c.instrs.length (flags c.instrs.length (tgB c))) (hhi2 : hi2 ≤ w.heap.size) (hcv : CodeV c) (hx : c.instrs[p]? = some x) :
    Calls Tryz.prog 58 #[v, .agg #[Value.int .i64 k, .int .i64 p], u, y] w fun e w' => e = .returned (.bool (editAt c sh k p x)) ∧ Below w.heap.size w w' := by
  have h0 := h
  obtain ⟨Aroutines, nroutines, Arecords, nrecords, Aglobals, nglobals, Ainstrs, ninstrs, rfl, -⟩ := CodeT.form h
  have hwa : Below w.heap.size w ((w.alloc (.cells #[Value.slice Aroutines c.routines.length nroutines, .slice Arecords c.records.length nrecords, .slice Aglobals c.globals.length nglobals, .int .i64 c.main, .slice Ainstrs c.instrs.length ninstrs] 34)).alloc (.cells #[Value.int .i64 k, .int .i64 p] 46)) := ((Below.refl _ _).alloc (Nat.le_refl _) _).alloc (by simp) _
  have HE : Hid (editAt c sh k p x = if k = 1 then threadB c.instrs x else if k = 2 then unmarkB c x p else if k = 3 then deadB sh x p else false) := rfl
  have H1 := Lib.hid (impl_threads c _ x p _ lo hi (h0.below hwa hhi) (Nat.le_trans hhi hwa.size) hcv hx)
  have H2 := Lib.hid (impl_unmarkOf c _ y (tgB c) x p _ lo hi lo2 hi2 (h0.below hwa hhi) (Nat.le_trans hhi hwa.size) (ht.below hwa hhi2) (Nat.le_trans hhi2 hwa.size) hcv.n2 hcv.ins hx)
  have H3 := Lib.hid (impl_deadInstr c sh _ u x p _ lo hi lo' hi' (h0.below hwa hhi) (Nat.le_trans hhi hwa.size) (hs.below hwa hhi') (Nat.le_trans hhi' hwa.size) hsl hcv hx)
  have HU := Lib.hid (unmark_flag c x p)
  clear h h0 hs ht hcv hx hsl
  by_cases k1 : k = 1
  · subst k1
    have H9 : Hid (editAt c sh 1 p x = threadB c.instrs x) := rfl
    clear HE
    go_enter Tryz.func58, Tryz.ntmps58
    go_wp2_with fail
    refine H1.out.mono ?_; rintro e w3 ⟨rfl, hb⟩
    have hw3 := hwa.trans (hb.mono hwa.size)
    go_wp2_with fail
    go_ret
    exact ⟨ret_bool H9.out.symm, hw3⟩
  by_cases k2 : k = 2
  · subst k2
    have H9 : Hid (editAt c sh 2 p x = unmarkB c x p) := rfl
    clear HE
    obtain ⟨r, hr⟩ : ∃ r, unmarkB c x p = r := ⟨_, rfl⟩
    obtain ⟨z, hz⟩ : ∃ z, optI (unmarkT c.instrs (tgB c) x p) = z := ⟨_, rfl⟩
    have hzr : decide (0 ≤ z) = r := by rw [← hz, HU.out, hr]
    have HR := Lib.hid hr
    have HZ := Lib.hid hz
    clear hr hz
    go_enter Tryz.func58, Tryz.ntmps58
    go_wp2_with fail
    refine H2.out.mono ?_; rw [HZ.out]; rintro e w3 ⟨rfl, hb⟩
    have hw3 := hwa.trans (hb.mono hwa.size)
    go_wp2_with fail
    go_ret
    exact ⟨ret_bool (by rw [H9.out, HR.out]), hw3⟩
  by_cases k3 : k = 3
  · subst k3
    have H9 : Hid (editAt c sh 3 p x = deadB sh x p) := rfl
    clear HE
    go_enter Tryz.func58, Tryz.ntmps58
    go_wp2_with fail
    refine H3.out.mono ?_; rintro e w3 ⟨rfl, hb⟩
    have hw3 := hwa.trans (hb.mono hwa.size)
    go_wp2_with fail
    go_ret
    exact ⟨ret_bool H9.out.symm, hw3⟩
  · have t1 : (k == 1) = false := by simp; exact k1
    have t2 : (k == 2) = false := by simp; exact k2
    have t3 : (k == 3) = false := by simp; exact k3
    go_enter Tryz.func58, Tryz.ntmps58
    go_wp2_with fail
    go_ret
    exact ⟨ret_bool (by rw [HE.out, if_neg k1, if_neg k2, if_neg k3]), hwa⟩
/-- the answer of CheckEdit -/
noncomputable def checkB (c : CodeT) (k p : Int) : Bool := verB c && editB c (verL c) k p
set_option maxRecDepth 100000 in
set_option maxHeartbeats 2000000 in
theorem spec_CheckEdit (c : CodeT) (v : Value) (k p : Int) (w : World) (lo hi : Nat) (h : SRep w lo hi CodeT.dats v c) (hhi : hi ≤ w.heap.size) (htx : ∀ y ∈ c.instrs, y.text.size ≤ 1048576) :
    Calls Tryz.prog 20 #[v, .agg #[Value.int .i64 k, .int .i64 p]] w fun e w' => e = .returned (.bool (checkB c k p)) ∧ Below w.heap.size w w' := by
  have h0 := Lib.hid h
  obtain ⟨Aroutines, nroutines, Arecords, nrecords, Aglobals, nglobals, Ainstrs, ninstrs, rfl, -⟩ := CodeT.form h
  have hwa : Below w.heap.size w ((w.alloc (.cells #[Value.slice Aroutines c.routines.length nroutines, .slice Arecords c.records.length nrecords, .slice Aglobals c.globals.length nglobals, .int .i64 c.main, .slice Ainstrs c.instrs.length ninstrs] 34)).alloc (.cells #[Value.int .i64 k, .int .i64 p] 46)) := ((Below.refl _ _).alloc (Nat.le_refl _) _).alloc (by simp) _
  have a0 := (Blk.new w 34 #[Value.slice Aroutines c.routines.length nroutines, .slice Arecords c.records.length nrecords, .slice Aglobals c.globals.length nglobals, .int .i64 c.main, .slice Ainstrs c.instrs.length ninstrs]).alloc (.cells #[Value.int .i64 k, .int .i64 p] 46)
  have e0 := Blk.newAt (w.alloc (.cells #[Value.slice Aroutines c.routines.length nroutines, .slice Arecords c.records.length nrecords, .slice Aglobals c.globals.length nglobals, .int .i64 c.main, .slice Ainstrs c.instrs.length ninstrs] 34)) 46 #[Value.int .i64 k, .int .i64 p] (w.heap.size + 1) (by simp)
  have HK : Hid (checkB c k p = (verB c && editB c (verL c) k p)) := rfl
  have HV := Lib.hid (spec_VerifyR c _ _ lo hi (h0.out.below hwa hhi) (Nat.le_trans hhi hwa.size) htx)
  obtain ⟨b, hb⟩ : ∃ b, verB c = b := ⟨_, rfl⟩
  have HB := Lib.hid hb
  obtain ⟨z, hz⟩ : ∃ z, editB c (verL c) k p = z := ⟨_, rfl⟩
  have HZ := Lib.hid hz
  clear h htx hb hz
  go_enter Tryz.func20, Tryz.ntmps20
  go_wp2_with fail
  refine HV.out.mono ?_; rintro e w3 ⟨u, rfl, gu, hb⟩
  rw [HB.out]
  have hw3 := hwa.trans (hb.mono hwa.size)
  have a1 := a0.later hb
  have e1 := e0.later hb
  have gu := gu.rep
  clear hb a0 e0 hwa HV
  have ca := a1.cell
  have la := a1.lt
  have ce := e1.cell
  have le := e1.lt
  cases b with
  | false =>
    go_wp2_with fail
    go_ret
    exact ⟨ret_bool (by rw [HK.out, HB.out]; rfl), hw3⟩
  | true =>
    obtain ⟨-, hsl⟩ := verL_yes HB.out
    have HC := Lib.hid (spec_l35Check c (verL c) _ u k p w3 lo hi _ _ (h0.out.below hw3 hhi) (Nat.le_trans hhi hw3.size) gu (Nat.le_refl _) hsl (verC_valid HB.out))
    clear gu hsl
    go_wp2_with fail
    refine HC.out.mono ?_; rw [HZ.out]; rintro e w4 ⟨rfl, hb4⟩
    have hw4 := hw3.trans (hb4.mono hw3.size)
    go_wp2_with fail
    go_ret
    exact ⟨ret_bool (by rw [HK.out, HB.out, HZ.out]; cases z <;> rfl), hw4⟩
set_option maxRecDepth 100000 in
set_option maxHeartbeats 2000000 in
theorem impl_CheckEdit (c : CodeT) (v : Value) (k p : Int) (w : World) (lo hi : Nat) (h : SRep w lo hi CodeT.dats v c) (hhi : hi ≤ w.heap.size) (hst : SpaceTab w) (htx : ∀ y ∈ c.instrs, y.text.size ≤ 1048576) :
    Calls Tryz.prog 22 #[v, .agg #[Value.int .i64 k, .int .i64 p]] w fun e w' => e = .returned (.bool (checkB c k p)) ∧ Below w.heap.size w w' := by
  have h0 := Lib.hid h
  obtain ⟨Aroutines, nroutines, Arecords, nrecords, Aglobals, nglobals, Ainstrs, ninstrs, rfl, -⟩ := CodeT.form h
  have hwa : Below w.heap.size w ((w.alloc (.cells #[Value.slice Aroutines c.routines.length nroutines, .slice Arecords c.records.length nrecords, .slice Aglobals c.globals.length nglobals, .int .i64 c.main, .slice Ainstrs c.instrs.length ninstrs] 34)).alloc (.cells #[Value.int .i64 k, .int .i64 p] 46)) := ((Below.refl _ _).alloc (Nat.le_refl _) _).alloc (by simp) _
  have a0 := (Blk.new w 34 #[Value.slice Aroutines c.routines.length nroutines, .slice Arecords c.records.length nrecords, .slice Aglobals c.globals.length nglobals, .int .i64 c.main, .slice Ainstrs c.instrs.length ninstrs]).alloc (.cells #[Value.int .i64 k, .int .i64 p] 46)
  have e0 := Blk.newAt (w.alloc (.cells #[Value.slice Aroutines c.routines.length nroutines, .slice Arecords c.records.length nrecords, .slice Aglobals c.globals.length nglobals, .int .i64 c.main, .slice Ainstrs c.instrs.length ninstrs] 34)) 46 #[Value.int .i64 k, .int .i64 p] (w.heap.size + 1) (by simp)
  have HK : Hid (checkB c k p = (verB c && editB c (verL c) k p)) := rfl
  have HV := Lib.hid (impl_VerifyR c _ _ lo hi (h0.out.below hwa hhi) (Nat.le_trans hhi hwa.size) (hst.below hwa hst.2) htx)
  obtain ⟨b, hb⟩ : ∃ b, verB c = b := ⟨_, rfl⟩
  have HB := Lib.hid hb
  obtain ⟨z, hz⟩ : ∃ z, editB c (verL c) k p = z := ⟨_, rfl⟩
  have HZ := Lib.hid hz
  clear h htx hb hz hst
  go_enter Tryz.func22, Tryz.ntmps22
  go_wp2_with fail
  refine HV.out.mono ?_; rintro e w3 ⟨u, rfl, gu, hb⟩
  rw [HB.out]
  have hw3 := hwa.trans (hb.mono hwa.size)
  have a1 := a0.later hb
  have e1 := e0.later hb
  have gu := gu.rep
  clear hb a0 e0 hwa HV
  have ca := a1.cell
  have la := a1.lt
  have ce := e1.cell
  have le := e1.lt
  cases b with
  | false =>
    go_wp2_with fail
    go_ret
    exact ⟨ret_bool (by rw [HK.out, HB.out]; rfl), hw3⟩
  | true =>
    obtain ⟨-, hsl⟩ := verL_yes HB.out
    have hcv := verC_valid HB.out
    have hn2 := hcv.n2
    by_cases hp : p < 0 ∨ (c.instrs.length : Int) ≤ p
    · have HO := Lib.hid (edit_out (sh := verL c) (k := k) hp)
      have key : decide (p < 0) = true ∨ decide (p < 0) = false ∧ decide ((c.instrs.length : Int) ≤ p) = true := by simp; omega
      clear hp gu hsl hcv
      rcases key with t1 | ⟨t1, t2⟩
      all_goals
        go_wp2_with fail
        go_ret
        exact ⟨ret_bool (by rw [HK.out, HB.out, HO.out]; rfl), hw3⟩
    · have t1 : decide (p < 0) = false := by simp; omega
      have t2 : decide ((c.instrs.length : Int) ≤ p) = false := by simp; omega
      obtain ⟨q, rfl⟩ : ∃ q : Nat, p = q := ⟨p.toNat, by omega⟩
      obtain ⟨x, hx⟩ : ∃ x, c.instrs[q]? = some x := ⟨_, List.getElem?_eq_getElem (by omega)⟩
      have HX : Hid (editAt c (verL c) k q x = z) := by show _ = _; rw [← edit_at hx]; exact HZ.out
      have hcr := h0.out.below hw3 hhi
      have y1 : w.heap.size ≤ w3.drew.heap.size := hw3.size
      have y2 : hi ≤ w3.drew.heap.size := Nat.le_trans hhi hw3.size
      have hq : q < c.instrs.length := (List.getElem?_eq_some_iff.1 hx).1
      clear hp
      go_wp2_with fail
      go_region_held3 (fun w' => (∀ i, w'.cell? ⟨w.heap.size, i, none⟩ = #[Value.slice Aroutines c.routines.length nroutines, .slice Arecords c.records.length nrecords, .slice Aglobals c.globals.length nglobals, .int .i64 c.main, .slice Ainstrs c.instrs.length ninstrs][i]?) ∧ (∀ i, w'.cell? ⟨w.heap.size + 1, i, none⟩ = #[Value.int .i64 k, .int .i64 (q : Nat)][i]?))
        (first | exact ⟨ca, ce⟩ | exact ⟨(a1.drew.later hbA).cell, (e1.drew.later hbA).cell⟩ | exact ⟨((a1.drew.later hbA).later hbB).cell, ((e1.drew.later hbA).later hbB).cell⟩)
        (first
          | (go_at_call 59; refine (impl_targetsOf c _ _ lo hi (h0.out.below hw3.drew hhi) y2 hcv).mono ?_; rintro e wA ⟨gA, rfl, hoA, hbA⟩)
          | (go_at_call 58; refine (impl_acceptedEdit c (verL c) _ u _ x k q _ lo hi _ _ _ _ (hcr.below ((Below.refl w3.heap.size w3).drew.trans hbA) (Nat.le_trans hhi hw3.size)) (Nat.le_trans y2 hbA.size) (gu.below ((Below.refl w3.heap.size w3).drew.trans hbA) (Nat.le_refl _)) hbA.size hsl (Rds.of_own hoA) (Nat.le_refl _) hcv hx).mono ?_; rw [HX.out]; rintro e wB ⟨rfl, hbB⟩))
      have hw8 : Below w.heap.size w wB := (hw3.drew.trans (hbA.mono y1)).trans (hbB.mono (Nat.le_trans y1 hbA.size))
      go_wp2_with fail
      go_ret
      exact ⟨ret_bool (by rw [HK.out, HB.out, HZ.out]; cases z <;> rfl), hw8⟩
end Go.Proofs.YtekobbeoaalibaaGreatDoor
end
