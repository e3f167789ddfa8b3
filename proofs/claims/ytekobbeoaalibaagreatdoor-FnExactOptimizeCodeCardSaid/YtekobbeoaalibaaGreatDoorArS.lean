/- OperatorArity of the reference. -/
import Derived.Test.YtekobbeoaalibaaGreatDoorOpTextS
namespace Go.Proofs.YtekobbeoaalibaaGreatDoor
open Go.RowKit

theorem ret_ints_spec {a b c d : Int} (h1 : a = c) (h2 : b = d) : Ending.returned (.tuple #[.int .i64 a, .int .i64 b]) = .returned (.tuple #[.int .i64 c, .int .i64 d]) := by rw [h1, h2]
set_option maxRecDepth 100000 in
set_option maxHeartbeats 8000000 in
theorem spec_OperatorArity (op : Int) (w : World) : Calls Tryz.prog 115 #[.int .i64 op] w fun e w' => e = .returned (.tuple #[.int .i64 (arityLo op), .int .i64 (arityHi op)]) ∧ Below w.heap.size w w' := by
  cases hok : opOk op with
  | false =>
    have HL : Hid (arityLo op = 0) := by show _ = _; simp [arityLo, hok]
    have HH : Hid (arityHi op = -1) := by show _ = _; simp [arityHi, hok]
    have HT := Lib.hid (spec_OperatorText op w)
    have HK := Lib.hid hok
    clear hok
    go_enter Tryz.func115, Tryz.ntmps115
    go_wp2_with fail
    refine HT.out.mono ?_; rintro e w1 ⟨t, rfl, h0, hs, hb⟩
    rw [HK.out] at h0
    have h1 : t.toList = [] := by simpa using h0
    go_wp2_with fail
    go_ret2
    exact ⟨ret_ints_spec HL.out.symm HH.out.symm, hb⟩
  | true =>
    have HT := Lib.hid (spec_OperatorText op w)
    have HK := Lib.hid hok
    by_cases h11 : op ≤ 11
    · have HL : Hid (arityLo op = 1) := by show _ = _; unfold arityLo; rw [if_neg (by rw [hok]; decide)]; rw [if_pos (by omega)]
      have HH : Hid (arityHi op = 1) := by show _ = _; unfold arityHi; rw [if_neg (by rw [hok]; decide)]; rw [if_pos (by omega)]
      clear hok
      go_enter Tryz.func115, Tryz.ntmps115
      go_wp2_with fail
      refine HT.out.mono ?_; rintro e w1 ⟨t, rfl, h0, hs, hb⟩
      rw [HK.out] at h0
      simp only [Bool.not_true] at h0
      have h1 : ¬ t.toList = [] := by intro h; rw [h] at h0; cases h0
      go_wp2_with fail
      go_ret2
      exact ⟨ret_ints_spec HL.out.symm HH.out.symm, hb⟩
    by_cases h81 : op = 81
    · have HL : Hid (arityLo op = 1) := by show _ = _; unfold arityLo; rw [if_neg (by rw [hok]; decide)]; rw [if_pos (by omega)]
      have HH : Hid (arityHi op = 1) := by show _ = _; unfold arityHi; rw [if_neg (by rw [hok]; decide)]; rw [if_pos (by omega)]
      have b81 : (op == 81) = true := beq_iff_eq.2 (by omega)
      clear hok h81
      go_enter Tryz.func115, Tryz.ntmps115
      go_wp2_with fail
      refine HT.out.mono ?_; rintro e w1 ⟨t, rfl, h0, hs, hb⟩
      rw [HK.out] at h0
      simp only [Bool.not_true] at h0
      have h1 : ¬ t.toList = [] := by intro h; rw [h] at h0; cases h0
      go_wp2_with fail
      go_ret2
      exact ⟨ret_ints_spec HL.out.symm HH.out.symm, hb⟩
    by_cases h71 : op = 71
    · have HL : Hid (arityLo op = 3) := by show _ = _; unfold arityLo; rw [if_neg (by rw [hok]; decide)]; rw [if_neg (by omega)]; rw [if_pos (by omega)]
      have HH : Hid (arityHi op = 3) := by show _ = _; unfold arityHi; rw [if_neg (by rw [hok]; decide)]; rw [if_neg (by omega)]; rw [if_pos (by omega)]
      have b81 : (op == 81) = false := beq_eq_false_iff_ne.2 (by omega)
      have b71 : (op == 71) = true := beq_iff_eq.2 (by omega)
      clear hok h71
      go_enter Tryz.func115, Tryz.ntmps115
      go_wp2_with fail
      refine HT.out.mono ?_; rintro e w1 ⟨t, rfl, h0, hs, hb⟩
      rw [HK.out] at h0
      simp only [Bool.not_true] at h0
      have h1 : ¬ t.toList = [] := by intro h; rw [h] at h0; cases h0
      go_wp2_with fail
      go_ret2
      exact ⟨ret_ints_spec HL.out.symm HH.out.symm, hb⟩
    by_cases h72 : op = 72
    · have HL : Hid (arityLo op = 3) := by show _ = _; unfold arityLo; rw [if_neg (by rw [hok]; decide)]; rw [if_neg (by omega)]; rw [if_pos (by omega)]
      have HH : Hid (arityHi op = 3) := by show _ = _; unfold arityHi; rw [if_neg (by rw [hok]; decide)]; rw [if_neg (by omega)]; rw [if_pos (by omega)]
      have b81 : (op == 81) = false := beq_eq_false_iff_ne.2 (by omega)
      have b71 : (op == 71) = false := beq_eq_false_iff_ne.2 (by omega)
      have b72 : (op == 72) = true := beq_iff_eq.2 (by omega)
      clear hok h72
      go_enter Tryz.func115, Tryz.ntmps115
      go_wp2_with fail
      refine HT.out.mono ?_; rintro e w1 ⟨t, rfl, h0, hs, hb⟩
      rw [HK.out] at h0
      simp only [Bool.not_true] at h0
      have h1 : ¬ t.toList = [] := by intro h; rw [h] at h0; cases h0
      go_wp2_with fail
      go_ret2
      exact ⟨ret_ints_spec HL.out.symm HH.out.symm, hb⟩
    by_cases h73 : op = 73
    · have HL : Hid (arityLo op = 2) := by show _ = _; unfold arityLo; rw [if_neg (by rw [hok]; decide)]; rw [if_neg (by omega)]; rw [if_neg (by omega)]; rw [if_pos (by omega)]
      have HH : Hid (arityHi op = 8) := by show _ = _; unfold arityHi; rw [if_neg (by rw [hok]; decide)]; rw [if_neg (by omega)]; rw [if_neg (by omega)]; rw [if_pos (by omega)]
      have b81 : (op == 81) = false := beq_eq_false_iff_ne.2 (by omega)
      have b71 : (op == 71) = false := beq_eq_false_iff_ne.2 (by omega)
      have b72 : (op == 72) = false := beq_eq_false_iff_ne.2 (by omega)
      have b73 : (op == 73) = true := beq_iff_eq.2 (by omega)
      clear hok h73
      go_enter Tryz.func115, Tryz.ntmps115
      go_wp2_with fail
      refine HT.out.mono ?_; rintro e w1 ⟨t, rfl, h0, hs, hb⟩
      rw [HK.out] at h0
      simp only [Bool.not_true] at h0
      have h1 : ¬ t.toList = [] := by intro h; rw [h] at h0; cases h0
      go_wp2_with fail
      go_ret2
      exact ⟨ret_ints_spec HL.out.symm HH.out.symm, hb⟩
    by_cases h74 : op = 74
    · have HL : Hid (arityLo op = 0) := by show _ = _; unfold arityLo; rw [if_neg (by rw [hok]; decide)]; rw [if_neg (by omega)]; rw [if_neg (by omega)]; rw [if_neg (by omega)]; rw [if_pos (by omega)]
      have HH : Hid (arityHi op = 8) := by show _ = _; unfold arityHi; rw [if_neg (by rw [hok]; decide)]; rw [if_neg (by omega)]; rw [if_neg (by omega)]; rw [if_neg (by omega)]; rw [if_pos (by omega)]
      have b81 : (op == 81) = false := beq_eq_false_iff_ne.2 (by omega)
      have b71 : (op == 71) = false := beq_eq_false_iff_ne.2 (by omega)
      have b72 : (op == 72) = false := beq_eq_false_iff_ne.2 (by omega)
      have b73 : (op == 73) = false := beq_eq_false_iff_ne.2 (by omega)
      have b74 : (op == 74) = true := beq_iff_eq.2 (by omega)
      clear hok h74
      go_enter Tryz.func115, Tryz.ntmps115
      go_wp2_with fail
      refine HT.out.mono ?_; rintro e w1 ⟨t, rfl, h0, hs, hb⟩
      rw [HK.out] at h0
      simp only [Bool.not_true] at h0
      have h1 : ¬ t.toList = [] := by intro h; rw [h] at h0; cases h0
      go_wp2_with fail
      go_ret2
      exact ⟨ret_ints_spec HL.out.symm HH.out.symm, hb⟩
    · have HL : Hid (arityLo op = 2) := by show _ = _; unfold arityLo; rw [if_neg (by rw [hok]; decide)]; rw [if_neg (by omega)]; rw [if_neg (by omega)]; rw [if_neg (by omega)]; rw [if_neg (by omega)]
      have HH : Hid (arityHi op = 2) := by show _ = _; unfold arityHi; rw [if_neg (by rw [hok]; decide)]; rw [if_neg (by omega)]; rw [if_neg (by omega)]; rw [if_neg (by omega)]; rw [if_neg (by omega)]
      have b81 : (op == 81) = false := beq_eq_false_iff_ne.2 (by omega)
      have b71 : (op == 71) = false := beq_eq_false_iff_ne.2 (by omega)
      have b72 : (op == 72) = false := beq_eq_false_iff_ne.2 (by omega)
      have b73 : (op == 73) = false := beq_eq_false_iff_ne.2 (by omega)
      have b74 : (op == 74) = false := beq_eq_false_iff_ne.2 (by omega)
      clear hok
      go_enter Tryz.func115, Tryz.ntmps115
      go_wp2_with fail
      refine HT.out.mono ?_; rintro e w1 ⟨t, rfl, h0, hs, hb⟩
      rw [HK.out] at h0
      simp only [Bool.not_true] at h0
      have h1 : ¬ t.toList = [] := by intro h; rw [h] at h0; cases h0
      go_wp2_with fail
      go_ret2
      exact ⟨ret_ints_spec HL.out.symm HH.out.symm, hb⟩
end Go.Proofs.YtekobbeoaalibaaGreatDoor
