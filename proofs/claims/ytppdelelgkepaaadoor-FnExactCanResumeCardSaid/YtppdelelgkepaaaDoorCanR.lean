/- canResume of the program. -/
import Derived.Test.YtppdelelgkepaaaDoorCanF
import Derived.Test.YtppdelelgkepaaaDoorShelf
namespace Go.Proofs.YtppdelelgkepaaaDoor
open Go.RowKit
set_option linter.unusedVariables false

theorem resOp_in (op : Int) : (([7, 8, 61, 63, 72] : List Int).take 5).contains op = resOp op := by
  rw [Bool.eq_iff_iff, resOp, decide_eq_true_eq, List.contains_iff_mem]
  simp
set_option maxRecDepth 100000 in
set_option maxHeartbeats 4000000 in
theorem canResume_12 (c : CoreT) (H : ∀ x ∈ c.kids, CanOk 19 resT x) (k : c.kind = 12) : CanOk 19 resT c := by
  intro x w lo hi hwk h hhi
  obtain ⟨A, cap, rfl, hk, hc1, hc2⟩ := h.form
  unfold maxLen at hc2
  have HV := Lib.hid (res_yes (c := c) (by omega))
  have e11 : (c.kind == 11) = false := by simp; omega
  have e12 : (c.kind == 12) = true := by simp [k]
  clear k
  go_enter Tryd.func19, Tryd.ntmps19
  go_wp2_with fail
  go_ret
  exact ⟨ret_bool HV.out.symm, (Below.refl _ _).alloc (Nat.le_refl _) _⟩
set_option maxRecDepth 100000 in
set_option maxHeartbeats 4000000 in
theorem canResume_13 (c : CoreT) (H : ∀ x ∈ c.kids, CanOk 19 resT x) (k : c.kind = 13) : CanOk 19 resT c := by
  intro x w lo hi hwk h hhi
  obtain ⟨A, cap, rfl, hk, hc1, hc2⟩ := h.form
  unfold maxLen at hc2
  have HV := Lib.hid (res_yes (c := c) (by omega))
  have e11 : (c.kind == 11) = false := by simp; omega
  have e12 : (c.kind == 12) = false := by simp; omega
  have e13 : (c.kind == 13) = true := by simp [k]
  clear k
  go_enter Tryd.func19, Tryd.ntmps19
  go_wp2_with fail
  go_ret
  exact ⟨ret_bool HV.out.symm, (Below.refl _ _).alloc (Nat.le_refl _) _⟩
set_option maxRecDepth 100000 in
set_option maxHeartbeats 4000000 in
theorem canResume_14 (c : CoreT) (H : ∀ x ∈ c.kids, CanOk 19 resT x) (k : c.kind = 14) : CanOk 19 resT c := by
  intro x w lo hi hwk h hhi
  obtain ⟨A, cap, rfl, hk, hc1, hc2⟩ := h.form
  unfold maxLen at hc2
  have HV := Lib.hid (res_yes (c := c) (by omega))
  have e11 : (c.kind == 11) = false := by simp; omega
  have e12 : (c.kind == 12) = false := by simp; omega
  have e13 : (c.kind == 13) = false := by simp; omega
  have e14 : (c.kind == 14) = true := by simp [k]
  clear k
  go_enter Tryd.func19, Tryd.ntmps19
  go_wp2_with fail
  go_ret
  exact ⟨ret_bool HV.out.symm, (Below.refl _ _).alloc (Nat.le_refl _) _⟩
set_option maxRecDepth 100000 in
set_option maxHeartbeats 4000000 in
theorem canResume_27 (c : CoreT) (H : ∀ x ∈ c.kids, CanOk 19 resT x) (k : c.kind = 27) : CanOk 19 resT c := by
  intro x w lo hi hwk h hhi
  obtain ⟨A, cap, rfl, hk, hc1, hc2⟩ := h.form
  unfold maxLen at hc2
  have hlo := hwk.lo
  rw [(kids_27 (op := c.op) k).1] at hlo
  obtain ⟨g, off, hA⟩ := hk.base (show 0 < c.kids.length by omega)
  subst hA
  obtain ⟨a, hka⟩ : ∃ y, c.kids[0]? = some y := ⟨_, List.getElem?_eq_getElem (by omega)⟩
  have hma := List.mem_of_getElem? hka
  have hla : (0 : Int) < (c.kids.length : Int) := by omega
  have HV := Lib.hid (res_27 k hka)
  have Ia := Lib.hid ((H a hma).ask (hwk.kids a hma))
  clear H
  have e11 : (c.kind == 11) = false := by simp; omega
  have e12 : (c.kind == 12) = false := by simp; omega
  have e13 : (c.kind == 13) = false := by simp; omega
  have e14 : (c.kind == 14) = false := by simp; omega
  have e27 : (c.kind == 27) = true := by simp [k]
  clear k
  obtain ⟨Ba, da, hra, q0, q1, q2, q3, q4, q5⟩ := (hk.alloc hhi (.cells #[.int .i64 c.kind, .int .i64 c.op, .int .i64 c.number, .int .i64 c.line, .string c.text, .slice (some ⟨g, off, none⟩) c.kids.length cap] 29)).again hka
  simp only [Nat.zero_mul, Nat.add_zero] at q0 q1 q2 q3 q4 q5
  go_enter Tryd.func19, Tryd.ntmps19
  go_wp2_with fail
  refine (Ia.out _ _ _ _ hra (by simp; omega)).mono ?_; rintro e1 wa ⟨rfl, hba⟩
  clear q0 q1 q2 q3 q4 q5
  go_wp2_with fail
  go_ret
  exact ⟨ret_bool HV.out.symm, ((Below.refl _ _).alloc (Nat.le_refl _) _).trans (hba.mono (by simp))⟩
set_option maxRecDepth 100000 in
set_option maxHeartbeats 4000000 in
theorem canResume_17 (c : CoreT) (H : ∀ x ∈ c.kids, CanOk 19 resT x) (k : c.kind = 17) : CanOk 19 resT c := by
  intro x w lo hi hwk h hhi
  obtain ⟨A, cap, rfl, hk, hc1, hc2⟩ := h.form
  unfold maxLen at hc2
  have hlo := hwk.lo
  rw [(kids_17 (op := c.op) k).1] at hlo
  obtain ⟨g, off, hA⟩ := hk.base (show 0 < c.kids.length by omega)
  subst hA
  obtain ⟨a, hka⟩ : ∃ y, c.kids[0]? = some y := ⟨_, List.getElem?_eq_getElem (by omega)⟩
  have hma := List.mem_of_getElem? hka
  have hla : (0 : Int) < (c.kids.length : Int) := by omega
  obtain ⟨b, hkb⟩ : ∃ y, c.kids[1]? = some y := ⟨_, List.getElem?_eq_getElem (by omega)⟩
  have hmb := List.mem_of_getElem? hkb
  have hlb : (1 : Int) < (c.kids.length : Int) := by omega
  obtain ⟨e, hke⟩ : ∃ y, c.kids[2]? = some y := ⟨_, List.getElem?_eq_getElem (by omega)⟩
  have hme := List.mem_of_getElem? hke
  have hle : (2 : Int) < (c.kids.length : Int) := by omega
  have HV := Lib.hid (res_17 k hka hkb hke)
  have Ia := Lib.hid ((impl_canFail a).ask (hwk.kids a hma))
  have Ib := Lib.hid ((H b hmb).ask (hwk.kids b hmb))
  have Ie := Lib.hid ((H e hme).ask (hwk.kids e hme))
  clear H
  have e11 : (c.kind == 11) = false := by simp; omega
  have e12 : (c.kind == 12) = false := by simp; omega
  have e13 : (c.kind == 13) = false := by simp; omega
  have e14 : (c.kind == 14) = false := by simp; omega
  have e27 : (c.kind == 27) = false := by simp; omega
  have e15 : (c.kind == 15) = false := by simp; omega
  have e16 : (c.kind == 16) = false := by simp; omega
  have e17 : (c.kind == 17) = true := by simp [k]
  clear k
  obtain ⟨Bb, db, hrb, q0, q1, q2, q3, q4, q5⟩ := (hk.alloc hhi (.cells #[.int .i64 c.kind, .int .i64 c.op, .int .i64 c.number, .int .i64 c.line, .string c.text, .slice (some ⟨g, off, none⟩) c.kids.length cap] 29)).again hkb
  simp only [show 1 * 6 = 6 from rfl] at q0 q1 q2 q3 q4 q5
  go_enter Tryd.func19, Tryd.ntmps19
  go_wp2_with fail
  cases hqb : resT b with
  | true =>
    have HX := HV.out
    rw [hqb] at HX
    clear HV
    have HV := Lib.hid HX
    have HQb := Lib.hid hqb
    clear hqb HX
    refine (Ib.out _ _ _ _ hrb (by simp; omega)).mono ?_; rw [HQb.out]; rintro e1 wb ⟨rfl, hbb⟩
    clear q0 q1 q2 q3 q4 q5
    have hBb : Below w.heap.size w wb := ((Below.refl _ _).alloc (Nat.le_refl _) _).trans (hbb.mono (by simp))
    go_wp2_with fail
    go_ret
    exact ⟨ret_bool HV.out.symm, hBb⟩
  | false =>
    have HX := HV.out
    rw [hqb] at HX
    clear HV
    have HV := Lib.hid HX
    have HQb := Lib.hid hqb
    clear hqb HX
    refine (Ib.out _ _ _ _ hrb (by simp; omega)).mono ?_; rw [HQb.out]; rintro e1 wb ⟨rfl, hbb⟩
    clear q0 q1 q2 q3 q4 q5
    have hBb : Below w.heap.size w wb := ((Below.refl _ _).alloc (Nat.le_refl _) _).trans (hbb.mono (by simp))
    obtain ⟨Ba, da, hra, q0, q1, q2, q3, q4, q5⟩ := (hk.below hBb hhi).again hka
    simp only [Nat.zero_mul, Nat.add_zero] at q0 q1 q2 q3 q4 q5
    go_wp2_with fail
    cases hqa : failT a with
    | true =>
      have HX := HV.out
      rw [hqa] at HX
      clear HV
      have HV := Lib.hid HX
      have HQa := Lib.hid hqa
      clear hqa HX
      refine (Ia.out _ _ _ _ hra (Nat.le_trans hhi hBb.size)).mono ?_; rw [HQa.out]; rintro e1 wa ⟨rfl, hba⟩
      clear q0 q1 q2 q3 q4 q5
      have hBa : Below w.heap.size w wa := hBb.trans (hba.mono hBb.size)
      obtain ⟨Be, de, hre, q0, q1, q2, q3, q4, q5⟩ := (hk.below hBa hhi).again hke
      simp only [show 2 * 6 = 12 from rfl] at q0 q1 q2 q3 q4 q5
      go_wp2_with fail
      refine (Ie.out _ _ _ _ hre (Nat.le_trans hhi hBa.size)).mono ?_; rintro e1 we ⟨rfl, hbe⟩
      clear q0 q1 q2 q3 q4 q5
      go_wp2_with fail
      go_ret
      exact ⟨ret_bool HV.out.symm, hBa.trans (hbe.mono hBa.size)⟩
    | false =>
      have HX := HV.out
      rw [hqa] at HX
      clear HV
      have HV := Lib.hid HX
      have HQa := Lib.hid hqa
      clear hqa HX
      refine (Ia.out _ _ _ _ hra (Nat.le_trans hhi hBb.size)).mono ?_; rw [HQa.out]; rintro e1 wa ⟨rfl, hba⟩
      clear q0 q1 q2 q3 q4 q5
      have hBa : Below w.heap.size w wa := hBb.trans (hba.mono hBb.size)
      go_wp2_with fail
      go_ret
      exact ⟨ret_bool HV.out.symm, hBa⟩
set_option maxRecDepth 100000 in
set_option maxHeartbeats 4000000 in
theorem canResume_22 (c : CoreT) (H : ∀ x ∈ c.kids, CanOk 19 resT x) (k : c.kind = 22) : CanOk 19 resT c := by
  intro x w lo hi hwk h hhi
  obtain ⟨A, cap, rfl, hk, hc1, hc2⟩ := h.form
  unfold maxLen at hc2
  have hlo := hwk.lo
  rw [(kids_22 (op := c.op) k).1] at hlo
  obtain ⟨g, off, hA⟩ := hk.base (show 0 < c.kids.length by omega)
  subst hA
  obtain ⟨a, hka⟩ : ∃ y, c.kids[0]? = some y := ⟨_, List.getElem?_eq_getElem (by omega)⟩
  have hma := List.mem_of_getElem? hka
  have hla : (0 : Int) < (c.kids.length : Int) := by omega
  obtain ⟨b, hkb⟩ : ∃ y, c.kids[1]? = some y := ⟨_, List.getElem?_eq_getElem (by omega)⟩
  have hmb := List.mem_of_getElem? hkb
  have hlb : (1 : Int) < (c.kids.length : Int) := by omega
  have HV := Lib.hid (res_22w hwk k hka hkb)
  have Ia := Lib.hid ((H a hma).ask (hwk.kids a hma))
  have Ib := Lib.hid ((H b hmb).ask (hwk.kids b hmb))
  clear H
  have e11 : (c.kind == 11) = false := by simp; omega
  have e12 : (c.kind == 12) = false := by simp; omega
  have e13 : (c.kind == 13) = false := by simp; omega
  have e14 : (c.kind == 14) = false := by simp; omega
  have e27 : (c.kind == 27) = false := by simp; omega
  have e15 : (c.kind == 15) = false := by simp; omega
  have e16 : (c.kind == 16) = false := by simp; omega
  have e17 : (c.kind == 17) = false := by simp; omega
  have e18 : (c.kind == 18) = false := by simp; omega
  have e19 : (c.kind == 19) = false := by simp; omega
  have e22 : (c.kind == 22) = true := by simp [k]
  clear k
  obtain ⟨Ba, da, hra, q0, q1, q2, q3, q4, q5⟩ := (hk.alloc hhi (.cells #[.int .i64 c.kind, .int .i64 c.op, .int .i64 c.number, .int .i64 c.line, .string c.text, .slice (some ⟨g, off, none⟩) c.kids.length cap] 29)).again hka
  simp only [Nat.zero_mul, Nat.add_zero] at q0 q1 q2 q3 q4 q5
  go_enter Tryd.func19, Tryd.ntmps19
  go_wp2_with fail
  cases hqa : resT a with
  | true =>
    have HX := HV.out
    rw [hqa] at HX
    clear HV
    have HV := Lib.hid HX
    have HQa := Lib.hid hqa
    clear hqa HX
    refine (Ia.out _ _ _ _ hra (by simp; omega)).mono ?_; rw [HQa.out]; rintro e1 wa ⟨rfl, hba⟩
    clear q0 q1 q2 q3 q4 q5
    have hBa : Below w.heap.size w wa := ((Below.refl _ _).alloc (Nat.le_refl _) _).trans (hba.mono (by simp))
    go_wp2_with fail
    go_ret
    exact ⟨ret_bool HV.out.symm, hBa⟩
  | false =>
    have HX := HV.out
    rw [hqa] at HX
    clear HV
    have HV := Lib.hid HX
    have HQa := Lib.hid hqa
    clear hqa HX
    refine (Ia.out _ _ _ _ hra (by simp; omega)).mono ?_; rw [HQa.out]; rintro e1 wa ⟨rfl, hba⟩
    clear q0 q1 q2 q3 q4 q5
    have hBa : Below w.heap.size w wa := ((Below.refl _ _).alloc (Nat.le_refl _) _).trans (hba.mono (by simp))
    obtain ⟨Bb, db, hrb, q0, q1, q2, q3, q4, q5⟩ := (hk.below hBa hhi).again hkb
    simp only [show 1 * 6 = 6 from rfl] at q0 q1 q2 q3 q4 q5
    go_wp2_with fail
    refine (Ib.out _ _ _ _ hrb (Nat.le_trans hhi hBa.size)).mono ?_; rintro e1 wb ⟨rfl, hbb⟩
    clear q0 q1 q2 q3 q4 q5
    go_wp2_with fail
    go_ret
    exact ⟨ret_bool HV.out.symm, hBa.trans (hbb.mono hBa.size)⟩
set_option maxRecDepth 100000 in
set_option maxHeartbeats 4000000 in
theorem canResume_16 (c : CoreT) (H : ∀ x ∈ c.kids, CanOk 19 resT x) (k : c.kind = 16) : CanOk 19 resT c := by
  intro x w lo hi hwk h hhi
  obtain ⟨A, cap, rfl, hk, hc1, hc2⟩ := h.form
  unfold maxLen at hc2
  have hlo := hwk.lo
  rw [(kids_16 (op := c.op) k).1] at hlo
  obtain ⟨g, off, hA⟩ := hk.base (show 0 < c.kids.length by omega)
  subst hA
  obtain ⟨n, hn⟩ : ∃ n : Nat, n = c.kids.length - 1 := ⟨_, rfl⟩
  obtain ⟨a, hka⟩ : ∃ y, c.kids[n]? = some y := ⟨_, List.getElem?_eq_getElem (by omega)⟩
  have hma := List.mem_of_getElem? hka
  have HV := Lib.hid (res_16 k (by rw [← hn]; exact hka))
  have Ia := Lib.hid ((H a hma).ask (hwk.kids a hma))
  have hidx : (c.kids.length : Int) - 1 = (n : Int) := by omega
  have hlt : (n : Int) < (c.kids.length : Int) := by omega
  clear H hn hlo
  have e11 : (c.kind == 11) = false := by simp; omega
  have e12 : (c.kind == 12) = false := by simp; omega
  have e13 : (c.kind == 13) = false := by simp; omega
  have e14 : (c.kind == 14) = false := by simp; omega
  have e27 : (c.kind == 27) = false := by simp; omega
  have e15 : (c.kind == 15) = false := by simp; omega
  have e16 : (c.kind == 16) = true := by simp [k]
  clear k
  obtain ⟨Ba, da, hra, q0, q1, q2, q3, q4, q5⟩ := (hk.alloc hhi (.cells #[.int .i64 c.kind, .int .i64 c.op, .int .i64 c.number, .int .i64 c.line, .string c.text, .slice (some ⟨g, off, none⟩) c.kids.length cap] 29)).again hka
  go_enter Tryd.func19, Tryd.ntmps19
  go_wp2_with fail
  refine (Ia.out _ _ _ _ hra (by simp; omega)).mono ?_; rintro e1 wa ⟨rfl, hba⟩
  clear q0 q1 q2 q3 q4 q5
  go_wp2_with fail
  go_ret
  exact ⟨ret_bool HV.out.symm, ((Below.refl _ _).alloc (Nat.le_refl _) _).trans (hba.mono (by simp))⟩
set_option maxRecDepth 100000 in
set_option maxHeartbeats 4000000 in
theorem canResume_18 (c : CoreT) (H : ∀ x ∈ c.kids, CanOk 19 resT x) (k : c.kind = 18) : CanOk 19 resT c := by
  intro x w lo hi hwk h hhi
  obtain ⟨A, cap, rfl, hk, hc1, hc2⟩ := h.form
  unfold maxLen at hc2
  have hlo := hwk.lo
  rw [(kids_18 (op := c.op) k).1] at hlo
  obtain ⟨g, off, hA⟩ := hk.base (show 0 < c.kids.length by omega)
  subst hA
  obtain ⟨b, hkb⟩ : ∃ y, c.kids[1]? = some y := ⟨_, List.getElem?_eq_getElem (by omega)⟩
  have hmb := List.mem_of_getElem? hkb
  have hlb : (1 : Int) < (c.kids.length : Int) := by omega
  have HV := Lib.hid (res_18 (by omega) hkb)
  have Ib := Lib.hid (impl_hasBreak b)
  clear H
  have e11 : (c.kind == 11) = false := by simp; omega
  have e12 : (c.kind == 12) = false := by simp; omega
  have e13 : (c.kind == 13) = false := by simp; omega
  have e14 : (c.kind == 14) = false := by simp; omega
  have e27 : (c.kind == 27) = false := by simp; omega
  have e15 : (c.kind == 15) = false := by simp; omega
  have e16 : (c.kind == 16) = false := by simp; omega
  have e17 : (c.kind == 17) = false := by simp; omega
  have e18 : (c.kind == 18) = true := by simp [k]
  clear k
  obtain ⟨Bb, db, hrb, q0, q1, q2, q3, q4, q5⟩ := (hk.alloc hhi (.cells #[.int .i64 c.kind, .int .i64 c.op, .int .i64 c.number, .int .i64 c.line, .string c.text, .slice (some ⟨g, off, none⟩) c.kids.length cap] 29)).again hkb
  simp only [show 1 * 6 = 6 from rfl] at q0 q1 q2 q3 q4 q5
  go_enter Tryd.func19, Tryd.ntmps19
  go_wp2_with fail
  refine (Ib.out _ _ _ _ hrb (by simp; omega)).mono ?_; rintro e1 wb ⟨rfl, hbb⟩
  clear q0 q1 q2 q3 q4 q5
  go_wp2_with fail
  go_ret
  exact ⟨ret_bool HV.out.symm, ((Below.refl _ _).alloc (Nat.le_refl _) _).trans (hbb.mono (by simp))⟩
set_option maxRecDepth 100000 in
set_option maxHeartbeats 4000000 in
theorem canResume_19 (c : CoreT) (H : ∀ x ∈ c.kids, CanOk 19 resT x) (k : c.kind = 19) : CanOk 19 resT c := by
  intro x w lo hi hwk h hhi
  obtain ⟨A, cap, rfl, hk, hc1, hc2⟩ := h.form
  unfold maxLen at hc2
  have hlo := hwk.lo
  rw [(kids_19 (op := c.op) k).1] at hlo
  obtain ⟨g, off, hA⟩ := hk.base (show 0 < c.kids.length by omega)
  subst hA
  obtain ⟨b, hkb⟩ : ∃ y, c.kids[1]? = some y := ⟨_, List.getElem?_eq_getElem (by omega)⟩
  have hmb := List.mem_of_getElem? hkb
  have hlb : (1 : Int) < (c.kids.length : Int) := by omega
  have HV := Lib.hid (res_18 (by omega) hkb)
  have Ib := Lib.hid (impl_hasBreak b)
  clear H
  have e11 : (c.kind == 11) = false := by simp; omega
  have e12 : (c.kind == 12) = false := by simp; omega
  have e13 : (c.kind == 13) = false := by simp; omega
  have e14 : (c.kind == 14) = false := by simp; omega
  have e27 : (c.kind == 27) = false := by simp; omega
  have e15 : (c.kind == 15) = false := by simp; omega
  have e16 : (c.kind == 16) = false := by simp; omega
  have e17 : (c.kind == 17) = false := by simp; omega
  have e18 : (c.kind == 18) = false := by simp; omega
  have e19 : (c.kind == 19) = true := by simp [k]
  clear k
  obtain ⟨Bb, db, hrb, q0, q1, q2, q3, q4, q5⟩ := (hk.alloc hhi (.cells #[.int .i64 c.kind, .int .i64 c.op, .int .i64 c.number, .int .i64 c.line, .string c.text, .slice (some ⟨g, off, none⟩) c.kids.length cap] 29)).again hkb
  simp only [show 1 * 6 = 6 from rfl] at q0 q1 q2 q3 q4 q5
  go_enter Tryd.func19, Tryd.ntmps19
  go_wp2_with fail
  refine (Ib.out _ _ _ _ hrb (by simp; omega)).mono ?_; rintro e1 wb ⟨rfl, hbb⟩
  clear q0 q1 q2 q3 q4 q5
  go_wp2_with fail
  go_ret
  exact ⟨ret_bool HV.out.symm, ((Below.refl _ _).alloc (Nat.le_refl _) _).trans (hbb.mono (by simp))⟩
set_option maxRecDepth 100000 in
set_option maxHeartbeats 4000000 in
theorem canResume_15 (c : CoreT) (H : ∀ x ∈ c.kids, CanOk 19 resT x) (k : c.kind = 15) : CanOk 19 resT c := by
  intro x w lo hi hwk h hhi
  obtain ⟨A, cap, rfl, hk, hc1, hc2⟩ := h.form
  unfold maxLen at hc2
  have hlo := hwk.lo
  rw [(kids_15 (op := c.op) k).1] at hlo
  obtain ⟨g, off, hA⟩ := hk.base (show 0 < c.kids.length by omega)
  subst hA
  obtain ⟨b, hkb⟩ : ∃ y, c.kids[1]? = some y := ⟨_, List.getElem?_eq_getElem (by omega)⟩
  have hmb := List.mem_of_getElem? hkb
  have hlb : (1 : Int) < (c.kids.length : Int) := by omega
  have HV := Lib.hid (res_15 k hkb)
  clear H
  have e11 : (c.kind == 11) = false := by simp; omega
  have e12 : (c.kind == 12) = false := by simp; omega
  have e13 : (c.kind == 13) = false := by simp; omega
  have e14 : (c.kind == 14) = false := by simp; omega
  have e27 : (c.kind == 27) = false := by simp; omega
  have e15 : (c.kind == 15) = true := by simp [k]
  clear k
  obtain ⟨Bb, db, hrb, q0, q1, q2, q3, q4, q5⟩ := (hk.alloc hhi (.cells #[.int .i64 c.kind, .int .i64 c.op, .int .i64 c.number, .int .i64 c.line, .string c.text, .slice (some ⟨g, off, none⟩) c.kids.length cap] 29)).again hkb
  simp only [show 1 * 6 = 6 from rfl] at q0 q1 q2 q3 q4 q5
  by_cases v1 : b.kind = 1
  · have y1 : (b.kind != 1) = false := by simp [v1]
    by_cases n1 : b.number = 1
    · have z1 : (b.number != 1) = false := by simp [n1]
      have HX : Hid (resT c = false) := by show _ = _; rw [HV.out, decide_eq_true v1, decide_eq_true n1]; rfl
      clear v1 n1
      go_enter Tryd.func19, Tryd.ntmps19
      go_wp2_with fail
      go_ret
      exact ⟨ret_bool HX.out.symm, (Below.refl _ _).alloc (Nat.le_refl _) _⟩
    · have z1 : (b.number != 1) = true := by simpa using n1
      have HX : Hid (resT c = true) := by show _ = _; rw [HV.out, decide_eq_true v1, decide_eq_false n1]; rfl
      clear v1 n1
      go_enter Tryd.func19, Tryd.ntmps19
      go_wp2_with fail
      go_ret
      exact ⟨ret_bool HX.out.symm, (Below.refl _ _).alloc (Nat.le_refl _) _⟩
  · have y1 : (b.kind != 1) = true := by simpa using v1
    have HX : Hid (resT c = true) := by show _ = _; rw [HV.out, decide_eq_false v1]; rfl
    clear v1
    go_enter Tryd.func19, Tryd.ntmps19
    go_wp2_with fail
    go_ret
    exact ⟨ret_bool HX.out.symm, (Below.refl _ _).alloc (Nat.le_refl _) _⟩
set_option maxRecDepth 100000 in
set_option maxHeartbeats 4000000 in
theorem canResume_no (c : CoreT) (H : ∀ x ∈ c.kids, CanOk 19 resT x) (k : ¬ (c.kind = 11 ∨ c.kind = 12 ∨ c.kind = 13 ∨ c.kind = 14 ∨ c.kind = 15 ∨ c.kind = 16 ∨ c.kind = 17 ∨ c.kind = 18 ∨ c.kind = 19 ∨ c.kind = 22 ∨ c.kind = 27)) : CanOk 19 resT c := by
  intro x w lo hi hwk h hhi
  obtain ⟨A, cap, rfl, hk, hc1, hc2⟩ := h.form
  unfold maxLen at hc2
  have HV := Lib.hid (res_no k)
  have e11 : (c.kind == 11) = false := by simp; omega
  have e12 : (c.kind == 12) = false := by simp; omega
  have e13 : (c.kind == 13) = false := by simp; omega
  have e14 : (c.kind == 14) = false := by simp; omega
  have e27 : (c.kind == 27) = false := by simp; omega
  have e15 : (c.kind == 15) = false := by simp; omega
  have e16 : (c.kind == 16) = false := by simp; omega
  have e17 : (c.kind == 17) = false := by simp; omega
  have e18 : (c.kind == 18) = false := by simp; omega
  have e19 : (c.kind == 19) = false := by simp; omega
  have e22 : (c.kind == 22) = false := by simp; omega
  clear k
  go_enter Tryd.func19, Tryd.ntmps19
  go_wp2_with fail
  go_ret
  exact ⟨ret_bool HV.out.symm, (Below.refl _ _).alloc (Nat.le_refl _) _⟩
set_option maxRecDepth 100000 in
set_option maxHeartbeats 4000000 in
theorem canResume_11 (c : CoreT) (H : ∀ x ∈ c.kids, CanOk 19 resT x) (k : c.kind = 11) : CanOk 19 resT c := by
  intro x w lo hi hwk h hhi
  obtain ⟨A, cap, rfl, hk, hc1, hc2⟩ := h.form
  unfold maxLen at hc2
  have HC := Lib.hid (containsFunc_canResume resT c.kids (fun y hy => (H y hy).ask (hwk.kids y hy)))
  have HV := Lib.hid (res_11 k)
  clear H
  have e11 : (c.kind == 11) = true := by simp [k]
  clear k
  cases ha : c.kids.any resT with
  | true =>
    have HX := HV.out
    rw [ha] at HX
    clear HV
    have HV := Lib.hid HX
    have HA := Lib.hid ha
    clear ha HX
    go_enter Tryd.func19, Tryd.ntmps19
    go_wp2_with fail
    refine (HC.out _ _ _ _ (hk.alloc hhi _) (by simp; omega)).mono ?_; rw [HA.out]; rintro e1 w1 ⟨rfl, hb1⟩
    go_wp2_with fail
    go_ret
    exact ⟨ret_bool HV.out.symm, ((Below.refl _ _).alloc (Nat.le_refl _) _).trans (hb1.mono (by simp))⟩
  | false =>
    have HX := HV.out
    rw [ha] at HX
    clear HV
    have HV := Lib.hid HX
    have HA := Lib.hid ha
    clear ha HX
    go_enter Tryd.func19, Tryd.ntmps19
    go_wp2_with fail
    refine (HC.out _ _ _ _ (hk.alloc hhi _) (by simp; omega)).mono ?_; rw [HA.out]; rintro e1 w1 ⟨rfl, hb1⟩
    have hB1 : Below w.heap.size w w1 := ((Below.refl _ _).alloc (Nat.le_refl _) _).trans (hb1.mono (by simp))
    have cb := ((Blk.new w 29 #[.int .i64 c.kind, .int .i64 c.op, .int .i64 c.number, .int .i64 c.line, .string c.text, .slice A c.kids.length cap]).later hb1).cell
    have hz1 : w.heap.size < w1.heap.size := by have := hb1.size; simp at this; omega
    go_wp2_with fail
    refine (Tryd.slices_Contains_int w1.heap.size 0 5 5 [7, 8, 61, 63, 72] c.op _ (by decide) (by decide) (fun j hj => ?_)).mono ?_
    · have hj5 : j < 5 := hj
      rw [Nat.zero_add, (Blk.new w1 _ _).cell j]
      match j, hj5 with
      | 0, _ => rfl
      | 1, _ => rfl
      | 2, _ => rfl
      | 3, _ => rfl
      | 4, _ => rfl
    · rw [resOp_in]
      rintro e2 w2 ⟨rfl, rfl⟩
      go_wp2_with fail
      go_ret
      exact ⟨ret_bool HV.out.symm, hB1.alloc hB1.size _⟩
theorem canResume_of (c : CoreT) (H : ∀ x ∈ c.kids, CanOk 19 resT x) : CanOk 19 resT c := by
  by_cases k11 : c.kind = 11
  · exact canResume_11 c H k11
  by_cases k12 : c.kind = 12
  · exact canResume_12 c H k12
  by_cases k13 : c.kind = 13
  · exact canResume_13 c H k13
  by_cases k14 : c.kind = 14
  · exact canResume_14 c H k14
  by_cases k15 : c.kind = 15
  · exact canResume_15 c H k15
  by_cases k16 : c.kind = 16
  · exact canResume_16 c H k16
  by_cases k17 : c.kind = 17
  · exact canResume_17 c H k17
  by_cases k18 : c.kind = 18
  · exact canResume_18 c H k18
  by_cases k19 : c.kind = 19
  · exact canResume_19 c H k19
  by_cases k22 : c.kind = 22
  · exact canResume_22 c H k22
  by_cases k27 : c.kind = 27
  · exact canResume_27 c H k27
  exact canResume_no c H (by omega)
theorem impl_canResume (c : CoreT) : CanOk 19 resT c := CoreT.ind canResume_of c
end Go.Proofs.YtppdelelgkepaaaDoor
