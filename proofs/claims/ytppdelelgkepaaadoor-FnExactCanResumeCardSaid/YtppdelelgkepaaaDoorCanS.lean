/- l33Can, l33Any of the reference. -/
import Derived.Test.YtppdelelgkepaaaDoorCanF
namespace Go.Proofs.YtppdelelgkepaaaDoor
open Go.RowKit
set_option linter.unusedVariables false

def canB (f : Bool) (c : CoreT) : Bool := bif f then failT c else resT c
def SAsk (f : Bool) (c : CoreT) : Prop := ∀ (x : Value) (w : World) (lo hi : Nat), CRep w lo hi x c → hi ≤ w.heap.size → Calls Tryd.prog 14 #[x, .bool f] w fun e w' => e = .returned (.bool (canB f c)) ∧ Below w.heap.size w w'
def CanSOk (f : Bool) (c : CoreT) : Prop := ∀ (x : Value) (w : World) (lo hi : Nat), c.WK → CRep w lo hi x c → hi ≤ w.heap.size →
  Calls Tryd.prog 14 #[x, .bool f] w fun e w' => e = .returned (.bool (canB f c)) ∧ Below w.heap.size w w'
theorem CanSOk.ask {f : Bool} {c : CoreT} (h : CanSOk f c) (hw : c.WK) : SAsk f c := fun x w lo hi => h x w lo hi hw
def SOk (c : CoreT) : Prop := CanSOk true c ∧ CanSOk false c

set_option maxRecDepth 100000 in
set_option maxHeartbeats 1000000 in
theorem spec_l33Any (f : Bool) (l : List CoreT) (H : ∀ c ∈ l, SAsk f c) (v : Value) (w : World) (lo hi : Nat) (h : KRep w lo hi v l) (hhi : hi ≤ w.heap.size) :
    Calls Tryd.prog 24 #[v, .bool f] w fun e w' => e = .returned (.bool (l.any (canB f))) ∧ Below w.heap.size w w' := by
  obtain ⟨A, c, rfl, hc1, hc2⟩ := h.shape
  unfold maxLen at hc2
  have HH := Lib.hid H
  clear H
  go_enter Tryd.func24, Tryd.ntmps24
  go_wp2_with fail
  go_loopw [5] (fun i wr => ∃ k : Nat, k ≤ l.length ∧ i = .int .i64 k ∧ Hid ((l.take k).any (canB f) = false) ∧ Below w.heap.size w wr) (fun i _ => l.length - (intOf i).toNat)
  case atStart => exact ⟨0, Nat.zero_le _, rfl, by simp [Hid], Below.refl _ _⟩
  case round =>
    obtain ⟨k, hk, rfl, hno, hb⟩ := hrel
    obtain ⟨wo, rfl⟩ : ∃ wo : World, wo = wr := ⟨_, rfl⟩
    have hz := hb.size
    by_cases hlt : k < l.length
    · obtain ⟨g, off, kd, B, d, rfl, hg1, hg2, hkd, hmem, hrep, c0, c1, c2, c3, c4, c5⟩ := (h.below hb hhi).kid hlt
      have HS := Lib.hid (HH.out kd hmem)
      cases hq : canB f kd with
      | true =>
        have HF : Hid (l.any (canB f) = true) := List.any_eq_true.2 ⟨kd, hmem, hq⟩
        have HQ := Lib.hid hq
        clear hkd hq hno
        go_wp2_with fail
        refine (HS.out _ _ _ _ hrep (by omega)).mono ?_
        rw [HQ.out]
        rintro e w1 ⟨rfl, hb1⟩
        go_wp2_with fail
        go_ret
        exact ⟨ret_bool HF.out.symm, hb.trans (hb1.mono hz)⟩
      | false =>
        have HN : Hid ((l.take (k + 1)).any (canB f) = false) := by show _ = _; rw [any_take_snoc hkd, hno.out, hq]; rfl
        have HQ := Lib.hid hq
        clear hkd hq hno
        go_wp2_with fail
        refine (HS.out _ _ _ _ hrep (by omega)).mono ?_
        rw [HQ.out]
        rintro e w1 ⟨rfl, hb1⟩
        have hb2 := hb.trans (hb1.mono hz)
        clear c0 c1 c2 c3 c4 c5 hrep hb1
        go_wp2_with fail
        go_roundw
        case rel => exact ⟨k + 1, by omega, by go_num, HN, hb2⟩
        case measure => simp [intOf]; omega
    · obtain rfl : k = l.length := by omega
      rw [List.take_length] at hno
      go_wp2_with fail
      go_ret
      exact ⟨ret_bool hno.out.symm, hb⟩
theorem any_true (l : List CoreT) : l.any (canB true) = l.any failT := rfl
theorem any_false (l : List CoreT) : l.any (canB false) = l.any resT := rfl
set_option maxRecDepth 100000 in
set_option maxHeartbeats 4000000 in
theorem spec_f_12 (c : CoreT) (H : ∀ x ∈ c.kids, SOk x) (k : c.kind = 12) : CanSOk true c := by
  intro x w lo hi hwk h hhi
  obtain ⟨A, cap, rfl, hk, hc1, hc2⟩ := h.form
  unfold maxLen at hc2
  have HV := Lib.hid ((fail_yes (c := c) (by omega) : failT c = _))
  have e11 : (c.kind == 11) = false := by simp; omega
  have e12 : (c.kind == 12) = true := by simp [k]
  clear k
  go_enter Tryd.func14, Tryd.ntmps14
  go_wp2_with fail
  go_ret
  exact ⟨ret_bool HV.out.symm, (Below.refl _ _).alloc (Nat.le_refl _) _⟩
set_option maxRecDepth 100000 in
set_option maxHeartbeats 4000000 in
theorem spec_f_27 (c : CoreT) (H : ∀ x ∈ c.kids, SOk x) (k : c.kind = 27) : CanSOk true c := by
  intro x w lo hi hwk h hhi
  obtain ⟨A, cap, rfl, hk, hc1, hc2⟩ := h.form
  unfold maxLen at hc2
  have HV := Lib.hid ((fail_yes (c := c) (by omega) : failT c = _))
  have e11 : (c.kind == 11) = false := by simp; omega
  have e12 : (c.kind == 12) = false := by simp; omega
  have e27 : (c.kind == 27) = true := by simp [k]
  clear k
  go_enter Tryd.func14, Tryd.ntmps14
  go_wp2_with fail
  go_ret
  exact ⟨ret_bool HV.out.symm, (Below.refl _ _).alloc (Nat.le_refl _) _⟩
set_option maxRecDepth 100000 in
set_option maxHeartbeats 4000000 in
theorem spec_f_15 (c : CoreT) (H : ∀ x ∈ c.kids, SOk x) (k : c.kind = 15) : CanSOk true c := by
  intro x w lo hi hwk h hhi
  obtain ⟨A, cap, rfl, hk, hc1, hc2⟩ := h.form
  unfold maxLen at hc2
  have HV := Lib.hid ((fail_yes (c := c) (by omega) : failT c = _))
  have e11 : (c.kind == 11) = false := by simp; omega
  have e12 : (c.kind == 12) = false := by simp; omega
  have e27 : (c.kind == 27) = false := by simp; omega
  have e13 : (c.kind == 13) = false := by simp; omega
  have e14 : (c.kind == 14) = false := by simp; omega
  have e15 : (c.kind == 15) = true := by simp [k]
  clear k
  go_enter Tryd.func14, Tryd.ntmps14
  go_wp2_with fail
  go_ret
  exact ⟨ret_bool HV.out.symm, (Below.refl _ _).alloc (Nat.le_refl _) _⟩
set_option maxRecDepth 100000 in
set_option maxHeartbeats 4000000 in
theorem spec_f_18 (c : CoreT) (H : ∀ x ∈ c.kids, SOk x) (k : c.kind = 18) : CanSOk true c := by
  intro x w lo hi hwk h hhi
  obtain ⟨A, cap, rfl, hk, hc1, hc2⟩ := h.form
  unfold maxLen at hc2
  have HV := Lib.hid ((fail_yes (c := c) (by omega) : failT c = _))
  have e11 : (c.kind == 11) = false := by simp; omega
  have e12 : (c.kind == 12) = false := by simp; omega
  have e27 : (c.kind == 27) = false := by simp; omega
  have e13 : (c.kind == 13) = false := by simp; omega
  have e14 : (c.kind == 14) = false := by simp; omega
  have e15 : (c.kind == 15) = false := by simp; omega
  have e16 : (c.kind == 16) = false := by simp; omega
  have e17 : (c.kind == 17) = false := by simp; omega
  have e18 : (c.kind == 18) = true := by simp [k]
  clear k
  go_enter Tryd.func14, Tryd.ntmps14
  go_wp2_with fail
  go_ret
  exact ⟨ret_bool HV.out.symm, (Below.refl _ _).alloc (Nat.le_refl _) _⟩
set_option maxRecDepth 100000 in
set_option maxHeartbeats 4000000 in
theorem spec_f_19 (c : CoreT) (H : ∀ x ∈ c.kids, SOk x) (k : c.kind = 19) : CanSOk true c := by
  intro x w lo hi hwk h hhi
  obtain ⟨A, cap, rfl, hk, hc1, hc2⟩ := h.form
  unfold maxLen at hc2
  have HV := Lib.hid ((fail_yes (c := c) (by omega) : failT c = _))
  have e11 : (c.kind == 11) = false := by simp; omega
  have e12 : (c.kind == 12) = false := by simp; omega
  have e27 : (c.kind == 27) = false := by simp; omega
  have e13 : (c.kind == 13) = false := by simp; omega
  have e14 : (c.kind == 14) = false := by simp; omega
  have e15 : (c.kind == 15) = false := by simp; omega
  have e16 : (c.kind == 16) = false := by simp; omega
  have e17 : (c.kind == 17) = false := by simp; omega
  have e18 : (c.kind == 18) = false := by simp; omega
  have e19 : (c.kind == 19) = true := by simp [k]
  clear k
  go_enter Tryd.func14, Tryd.ntmps14
  go_wp2_with fail
  go_ret
  exact ⟨ret_bool HV.out.symm, (Below.refl _ _).alloc (Nat.le_refl _) _⟩
set_option maxRecDepth 100000 in
set_option maxHeartbeats 4000000 in
theorem spec_f_25 (c : CoreT) (H : ∀ x ∈ c.kids, SOk x) (k : c.kind = 25) : CanSOk true c := by
  intro x w lo hi hwk h hhi
  obtain ⟨A, cap, rfl, hk, hc1, hc2⟩ := h.form
  unfold maxLen at hc2
  have HV := Lib.hid ((fail_yes (c := c) (by omega) : failT c = _))
  have e11 : (c.kind == 11) = false := by simp; omega
  have e12 : (c.kind == 12) = false := by simp; omega
  have e27 : (c.kind == 27) = false := by simp; omega
  have e13 : (c.kind == 13) = false := by simp; omega
  have e14 : (c.kind == 14) = false := by simp; omega
  have e15 : (c.kind == 15) = false := by simp; omega
  have e16 : (c.kind == 16) = false := by simp; omega
  have e17 : (c.kind == 17) = false := by simp; omega
  have e18 : (c.kind == 18) = false := by simp; omega
  have e19 : (c.kind == 19) = false := by simp; omega
  have e22 : (c.kind == 22) = false := by simp; omega
  have e25 : (c.kind == 25) = true := by simp [k]
  clear k
  go_enter Tryd.func14, Tryd.ntmps14
  go_wp2_with fail
  go_ret
  exact ⟨ret_bool HV.out.symm, (Below.refl _ _).alloc (Nat.le_refl _) _⟩
set_option maxRecDepth 100000 in
set_option maxHeartbeats 4000000 in
theorem spec_f_28 (c : CoreT) (H : ∀ x ∈ c.kids, SOk x) (k : c.kind = 28) : CanSOk true c := by
  intro x w lo hi hwk h hhi
  obtain ⟨A, cap, rfl, hk, hc1, hc2⟩ := h.form
  unfold maxLen at hc2
  have HV := Lib.hid ((fail_yes (c := c) (by omega) : failT c = _))
  have e11 : (c.kind == 11) = false := by simp; omega
  have e12 : (c.kind == 12) = false := by simp; omega
  have e27 : (c.kind == 27) = false := by simp; omega
  have e13 : (c.kind == 13) = false := by simp; omega
  have e14 : (c.kind == 14) = false := by simp; omega
  have e15 : (c.kind == 15) = false := by simp; omega
  have e16 : (c.kind == 16) = false := by simp; omega
  have e17 : (c.kind == 17) = false := by simp; omega
  have e18 : (c.kind == 18) = false := by simp; omega
  have e19 : (c.kind == 19) = false := by simp; omega
  have e22 : (c.kind == 22) = false := by simp; omega
  have e25 : (c.kind == 25) = false := by simp; omega
  have e28 : (c.kind == 28) = true := by simp [k]
  clear k
  go_enter Tryd.func14, Tryd.ntmps14
  go_wp2_with fail
  go_ret
  exact ⟨ret_bool HV.out.symm, (Below.refl _ _).alloc (Nat.le_refl _) _⟩
set_option maxRecDepth 100000 in
set_option maxHeartbeats 4000000 in
theorem spec_f_14 (c : CoreT) (H : ∀ x ∈ c.kids, SOk x) (k : c.kind = 14) : CanSOk true c := by
  intro x w lo hi hwk h hhi
  obtain ⟨A, cap, rfl, hk, hc1, hc2⟩ := h.form
  unfold maxLen at hc2
  have hlo := hwk.lo
  rw [(kids_14 (op := c.op) k).1] at hlo
  obtain ⟨g, off, hA⟩ := hk.base (show 0 < c.kids.length by omega)
  subst hA
  obtain ⟨a, hka⟩ : ∃ y, c.kids[0]? = some y := ⟨_, List.getElem?_eq_getElem (by omega)⟩
  have hma := List.mem_of_getElem? hka
  have hla : (0 : Int) < (c.kids.length : Int) := by omega
  have HV := Lib.hid (fail_14 k hka)
  have Ia := Lib.hid ((H a hma).1.ask (hwk.kids a hma))
  clear H
  have e11 : (c.kind == 11) = false := by simp; omega
  have e12 : (c.kind == 12) = false := by simp; omega
  have e27 : (c.kind == 27) = false := by simp; omega
  have e13 : (c.kind == 13) = false := by simp; omega
  have e14 : (c.kind == 14) = true := by simp [k]
  clear k
  obtain ⟨Ba, da, hra, q0, q1, q2, q3, q4, q5⟩ := (hk.alloc hhi (.cells #[.int .i64 c.kind, .int .i64 c.op, .int .i64 c.number, .int .i64 c.line, .string c.text, .slice (some ⟨g, off, none⟩) c.kids.length cap] 29)).again hka
  simp only [Nat.zero_mul, Nat.add_zero] at q0 q1 q2 q3 q4 q5
  go_enter Tryd.func14, Tryd.ntmps14
  go_wp2_with fail
  refine (Ia.out _ _ _ _ hra (by simp; omega)).mono ?_; rintro e1 wa ⟨rfl, hba⟩
  clear q0 q1 q2 q3 q4 q5
  go_wp2_with fail
  go_ret
  exact ⟨ret_bool HV.out.symm, ((Below.refl _ _).alloc (Nat.le_refl _) _).trans (hba.mono (by simp))⟩
set_option maxRecDepth 100000 in
set_option maxHeartbeats 4000000 in
theorem spec_f_13 (c : CoreT) (H : ∀ x ∈ c.kids, SOk x) (k : c.kind = 13) : CanSOk true c := by
  intro x w lo hi hwk h hhi
  obtain ⟨A, cap, rfl, hk, hc1, hc2⟩ := h.form
  unfold maxLen at hc2
  have hlo := hwk.lo
  rw [(kids_13 (op := c.op) k).1] at hlo
  obtain ⟨g, off, hA⟩ := hk.base (show 0 < c.kids.length by omega)
  subst hA
  obtain ⟨a, hka⟩ : ∃ y, c.kids[0]? = some y := ⟨_, List.getElem?_eq_getElem (by omega)⟩
  have hma := List.mem_of_getElem? hka
  have hla : (0 : Int) < (c.kids.length : Int) := by omega
  obtain ⟨b, hkb⟩ : ∃ y, c.kids[1]? = some y := ⟨_, List.getElem?_eq_getElem (by omega)⟩
  have hmb := List.mem_of_getElem? hkb
  have hlb : (1 : Int) < (c.kids.length : Int) := by omega
  have HV := Lib.hid (fail_13 k hka hkb)
  have Ia := Lib.hid ((H a hma).1.ask (hwk.kids a hma))
  have Ib := Lib.hid ((H b hmb).1.ask (hwk.kids b hmb))
  clear H
  have e11 : (c.kind == 11) = false := by simp; omega
  have e12 : (c.kind == 12) = false := by simp; omega
  have e27 : (c.kind == 27) = false := by simp; omega
  have e13 : (c.kind == 13) = true := by simp [k]
  clear k
  obtain ⟨Ba, da, hra, q0, q1, q2, q3, q4, q5⟩ := (hk.alloc hhi (.cells #[.int .i64 c.kind, .int .i64 c.op, .int .i64 c.number, .int .i64 c.line, .string c.text, .slice (some ⟨g, off, none⟩) c.kids.length cap] 29)).again hka
  simp only [Nat.zero_mul, Nat.add_zero] at q0 q1 q2 q3 q4 q5
  go_enter Tryd.func14, Tryd.ntmps14
  go_wp2_with fail
  cases hqa : failT a with
  | true =>
    have HX := HV.out
    rw [hqa] at HX
    clear HV
    have HV := Lib.hid HX
    have HQa := Lib.hid hqa
    clear hqa HX
    refine (Ia.out _ _ _ _ hra (by simp; omega)).mono ?_; rw [show canB true a = true from HQa.out]; rintro e1 wa ⟨rfl, hba⟩
    clear q0 q1 q2 q3 q4 q5
    have hBa : Below w.heap.size w wa := ((Below.refl _ _).alloc (Nat.le_refl _) _).trans (hba.mono (by simp))
    obtain ⟨Bb, db, hrb, q0, q1, q2, q3, q4, q5⟩ := (hk.below hBa hhi).again hkb
    simp only [show 1 * 6 = 6 from rfl] at q0 q1 q2 q3 q4 q5
    go_wp2_with fail
    refine (Ib.out _ _ _ _ hrb (Nat.le_trans hhi hBa.size)).mono ?_; rintro e1 wb ⟨rfl, hbb⟩
    clear q0 q1 q2 q3 q4 q5
    go_wp2_with fail
    go_ret
    exact ⟨ret_bool HV.out.symm, hBa.trans (hbb.mono hBa.size)⟩
  | false =>
    have HX := HV.out
    rw [hqa] at HX
    clear HV
    have HV := Lib.hid HX
    have HQa := Lib.hid hqa
    clear hqa HX
    refine (Ia.out _ _ _ _ hra (by simp; omega)).mono ?_; rw [show canB true a = false from HQa.out]; rintro e1 wa ⟨rfl, hba⟩
    clear q0 q1 q2 q3 q4 q5
    have hBa : Below w.heap.size w wa := ((Below.refl _ _).alloc (Nat.le_refl _) _).trans (hba.mono (by simp))
    go_wp2_with fail
    go_ret
    exact ⟨ret_bool HV.out.symm, hBa⟩
set_option maxRecDepth 100000 in
set_option maxHeartbeats 4000000 in
theorem spec_f_17 (c : CoreT) (H : ∀ x ∈ c.kids, SOk x) (k : c.kind = 17) : CanSOk true c := by
  intro x w lo hi hwk h hhi
  obtain ⟨A, cap, rfl, hk, hc1, hc2⟩ := h.form
  unfold maxLen at hc2
  have hlo := hwk.lo
  rw [(kids_17 (op := c.op) k).1] at hlo
  obtain ⟨g, off, hA⟩ := hk.base (show 0 < c.kids.length by omega)
  subst hA
  obtain ⟨a, hka⟩ : ∃ y, c.kids[0]? = some y := ⟨_, List.getElem?_eq_getElem (by omega)⟩
  have hma := List.mem_of_getElem? hka
  have hla : (0 : Int) < (c.kids.length : Int) := by omega
  obtain ⟨b, hkb⟩ : ∃ y, c.kids[1]? = some y := ⟨_, List.getElem?_eq_getElem (by omega)⟩
  have hmb := List.mem_of_getElem? hkb
  have hlb : (1 : Int) < (c.kids.length : Int) := by omega
  obtain ⟨e, hke⟩ : ∃ y, c.kids[2]? = some y := ⟨_, List.getElem?_eq_getElem (by omega)⟩
  have hme := List.mem_of_getElem? hke
  have hle : (2 : Int) < (c.kids.length : Int) := by omega
  have HV := Lib.hid (fail_17 k hka hkb hke)
  have Ia := Lib.hid ((H a hma).1.ask (hwk.kids a hma))
  have Ib := Lib.hid ((H b hmb).1.ask (hwk.kids b hmb))
  have Ie := Lib.hid ((H e hme).1.ask (hwk.kids e hme))
  clear H
  have e11 : (c.kind == 11) = false := by simp; omega
  have e12 : (c.kind == 12) = false := by simp; omega
  have e27 : (c.kind == 27) = false := by simp; omega
  have e13 : (c.kind == 13) = false := by simp; omega
  have e14 : (c.kind == 14) = false := by simp; omega
  have e15 : (c.kind == 15) = false := by simp; omega
  have e16 : (c.kind == 16) = false := by simp; omega
  have e17 : (c.kind == 17) = true := by simp [k]
  clear k
  obtain ⟨Bb, db, hrb, q0, q1, q2, q3, q4, q5⟩ := (hk.alloc hhi (.cells #[.int .i64 c.kind, .int .i64 c.op, .int .i64 c.number, .int .i64 c.line, .string c.text, .slice (some ⟨g, off, none⟩) c.kids.length cap] 29)).again hkb
  simp only [show 1 * 6 = 6 from rfl] at q0 q1 q2 q3 q4 q5
  go_enter Tryd.func14, Tryd.ntmps14
  go_wp2_with fail
  cases hqb : failT b with
  | true =>
    have HX := HV.out
    rw [hqb] at HX
    clear HV
    have HV := Lib.hid HX
    have HQb := Lib.hid hqb
    clear hqb HX
    refine (Ib.out _ _ _ _ hrb (by simp; omega)).mono ?_; rw [show canB true b = true from HQb.out]; rintro e1 wb ⟨rfl, hbb⟩
    clear q0 q1 q2 q3 q4 q5
    have hBb : Below w.heap.size w wb := ((Below.refl _ _).alloc (Nat.le_refl _) _).trans (hbb.mono (by simp))
    go_wp2_with fail
    go_ret
    exact ⟨ret_bool HV.out.symm, hBb⟩
  | false =>
    have HX := HV.out
    rw [hqb] at HX
    clear HV
    have HV := Lib.hid HX
    have HQb := Lib.hid hqb
    clear hqb HX
    refine (Ib.out _ _ _ _ hrb (by simp; omega)).mono ?_; rw [show canB true b = false from HQb.out]; rintro e1 wb ⟨rfl, hbb⟩
    clear q0 q1 q2 q3 q4 q5
    have hBb : Below w.heap.size w wb := ((Below.refl _ _).alloc (Nat.le_refl _) _).trans (hbb.mono (by simp))
    obtain ⟨Ba, da, hra, q0, q1, q2, q3, q4, q5⟩ := (hk.below hBb hhi).again hka
    simp only [Nat.zero_mul, Nat.add_zero] at q0 q1 q2 q3 q4 q5
    go_wp2_with fail
    cases hqa : failT a with
    | true =>
      have HX := HV.out
      rw [hqa] at HX
      clear HV
      have HV := Lib.hid HX
      have HQa := Lib.hid hqa
      clear hqa HX
      refine (Ia.out _ _ _ _ hra (Nat.le_trans hhi hBb.size)).mono ?_; rw [show canB true a = true from HQa.out]; rintro e1 wa ⟨rfl, hba⟩
      clear q0 q1 q2 q3 q4 q5
      have hBa : Below w.heap.size w wa := hBb.trans (hba.mono hBb.size)
      obtain ⟨Be, de, hre, q0, q1, q2, q3, q4, q5⟩ := (hk.below hBa hhi).again hke
      simp only [show 2 * 6 = 12 from rfl] at q0 q1 q2 q3 q4 q5
      go_wp2_with fail
      refine (Ie.out _ _ _ _ hre (Nat.le_trans hhi hBa.size)).mono ?_; rintro e1 we ⟨rfl, hbe⟩
      clear q0 q1 q2 q3 q4 q5
      go_wp2_with fail
      go_ret
      exact ⟨ret_bool HV.out.symm, hBa.trans (hbe.mono hBa.size)⟩
    | false =>
      have HX := HV.out
      rw [hqa] at HX
      clear HV
      have HV := Lib.hid HX
      have HQa := Lib.hid hqa
      clear hqa HX
      refine (Ia.out _ _ _ _ hra (Nat.le_trans hhi hBb.size)).mono ?_; rw [show canB true a = false from HQa.out]; rintro e1 wa ⟨rfl, hba⟩
      clear q0 q1 q2 q3 q4 q5
      have hBa : Below w.heap.size w wa := hBb.trans (hba.mono hBb.size)
      go_wp2_with fail
      go_ret
      exact ⟨ret_bool HV.out.symm, hBa⟩
set_option maxRecDepth 100000 in
set_option maxHeartbeats 4000000 in
theorem spec_f_16 (c : CoreT) (H : ∀ x ∈ c.kids, SOk x) (k : c.kind = 16) : CanSOk true c := by
  intro x w lo hi hwk h hhi
  obtain ⟨A, cap, rfl, hk, hc1, hc2⟩ := h.form
  unfold maxLen at hc2
  have hlo := hwk.lo
  rw [(kids_16 (op := c.op) k).1] at hlo
  obtain ⟨g, off, hA⟩ := hk.base (show 0 < c.kids.length by omega)
  subst hA
  obtain ⟨n, hn⟩ : ∃ n : Nat, n = c.kids.length - 1 := ⟨_, rfl⟩
  obtain ⟨a, hka⟩ : ∃ y, c.kids[n]? = some y := ⟨_, List.getElem?_eq_getElem (by omega)⟩
  have hma := List.mem_of_getElem? hka
  have HV := Lib.hid (fail_16 k (by rw [← hn]; exact hka))
  have Ia := Lib.hid ((H a hma).1.ask (hwk.kids a hma))
  have hidx : (c.kids.length : Int) - 1 = (n : Int) := by omega
  have hlt : (n : Int) < (c.kids.length : Int) := by omega
  clear H hn hlo
  have e11 : (c.kind == 11) = false := by simp; omega
  have e12 : (c.kind == 12) = false := by simp; omega
  have e27 : (c.kind == 27) = false := by simp; omega
  have e13 : (c.kind == 13) = false := by simp; omega
  have e14 : (c.kind == 14) = false := by simp; omega
  have e15 : (c.kind == 15) = false := by simp; omega
  have e16 : (c.kind == 16) = true := by simp [k]
  clear k
  obtain ⟨Ba, da, hra, q0, q1, q2, q3, q4, q5⟩ := (hk.alloc hhi (.cells #[.int .i64 c.kind, .int .i64 c.op, .int .i64 c.number, .int .i64 c.line, .string c.text, .slice (some ⟨g, off, none⟩) c.kids.length cap] 29)).again hka
  go_enter Tryd.func14, Tryd.ntmps14
  go_wp2_with fail
  refine (Ia.out _ _ _ _ hra (by simp; omega)).mono ?_; rintro e1 wa ⟨rfl, hba⟩
  clear q0 q1 q2 q3 q4 q5
  go_wp2_with fail
  go_ret
  exact ⟨ret_bool HV.out.symm, ((Below.refl _ _).alloc (Nat.le_refl _) _).trans (hba.mono (by simp))⟩
set_option maxRecDepth 100000 in
set_option maxHeartbeats 4000000 in
theorem spec_f_22 (c : CoreT) (H : ∀ x ∈ c.kids, SOk x) (k : c.kind = 22) : CanSOk true c := by
  intro x w lo hi hwk h hhi
  obtain ⟨A, cap, rfl, hk, hc1, hc2⟩ := h.form
  unfold maxLen at hc2
  have HV := Lib.hid (fail_22 k)
  have HC := Lib.hid (spec_l33Any true c.kids (fun y hy => (H y hy).1.ask (hwk.kids y hy)))
  clear H
  have e11 : (c.kind == 11) = false := by simp; omega
  have e12 : (c.kind == 12) = false := by simp; omega
  have e27 : (c.kind == 27) = false := by simp; omega
  have e13 : (c.kind == 13) = false := by simp; omega
  have e14 : (c.kind == 14) = false := by simp; omega
  have e15 : (c.kind == 15) = false := by simp; omega
  have e16 : (c.kind == 16) = false := by simp; omega
  have e17 : (c.kind == 17) = false := by simp; omega
  have e18 : (c.kind == 18) = false := by simp; omega
  have e19 : (c.kind == 19) = false := by simp; omega
  have e22 : (c.kind == 22) = true := by simp [k]
  clear k
  go_enter Tryd.func14, Tryd.ntmps14
  go_wp2_with fail
  refine (HC.out _ _ _ _ (hk.alloc hhi _) (by simp; omega)).mono ?_; rintro e1 w1 ⟨rfl, hb1⟩
  go_wp2_with fail
  go_ret
  exact ⟨ret_bool HV.out.symm, ((Below.refl _ _).alloc (Nat.le_refl _) _).trans (hb1.mono (by simp))⟩
set_option maxRecDepth 100000 in
set_option maxHeartbeats 4000000 in
theorem spec_f_no (c : CoreT) (H : ∀ x ∈ c.kids, SOk x) (k : ¬ (c.kind = 11 ∨ c.kind = 12 ∨ c.kind = 13 ∨ c.kind = 14 ∨ c.kind = 15 ∨ c.kind = 16 ∨ c.kind = 17 ∨ c.kind = 18 ∨ c.kind = 19 ∨ c.kind = 22 ∨ c.kind = 25 ∨ c.kind = 27 ∨ c.kind = 28)) : CanSOk true c := by
  intro x w lo hi hwk h hhi
  obtain ⟨A, cap, rfl, hk, hc1, hc2⟩ := h.form
  unfold maxLen at hc2
  have HV := Lib.hid ((fail_no (c := c) (by omega) : failT c = _))
  have e11 : (c.kind == 11) = false := by simp; omega
  have e12 : (c.kind == 12) = false := by simp; omega
  have e27 : (c.kind == 27) = false := by simp; omega
  have e13 : (c.kind == 13) = false := by simp; omega
  have e14 : (c.kind == 14) = false := by simp; omega
  have e15 : (c.kind == 15) = false := by simp; omega
  have e16 : (c.kind == 16) = false := by simp; omega
  have e17 : (c.kind == 17) = false := by simp; omega
  have e18 : (c.kind == 18) = false := by simp; omega
  have e19 : (c.kind == 19) = false := by simp; omega
  have e22 : (c.kind == 22) = false := by simp; omega
  have e25 : (c.kind == 25) = false := by simp; omega
  have e28 : (c.kind == 28) = false := by simp; omega
  clear k
  go_enter Tryd.func14, Tryd.ntmps14
  go_wp2_with fail
  go_ret
  exact ⟨ret_bool HV.out.symm, (Below.refl _ _).alloc (Nat.le_refl _) _⟩
set_option maxRecDepth 100000 in
set_option maxHeartbeats 4000000 in
theorem spec_f_11 (c : CoreT) (H : ∀ x ∈ c.kids, SOk x) (k : c.kind = 11) : CanSOk true c := by
  intro x w lo hi hwk h hhi
  obtain ⟨A, cap, rfl, hk, hc1, hc2⟩ := h.form
  unfold maxLen at hc2
  have HC := Lib.hid (spec_l33Any true c.kids (fun y hy => (H y hy).1.ask (hwk.kids y hy)))
  have HV := Lib.hid (fail_11 k)
  have HO := Lib.hid (fun ho => one_of hwk k ho)
  clear H
  have e11 : (c.kind == 11) = true := by simp [k]
  clear k
  cases hs : sureT c with
  | true =>
    have HX := HV.out
    rw [hs] at HX
    clear HV
    have HV := Lib.hid HX
    have HS := Lib.hid hs
    clear hs HX
    go_enter Tryd.func14, Tryd.ntmps14
    go_wp2_with fail
    refine (spec_l33Sure _ c _ lo hi (h.alloc hhi _) (by simp; omega) HO.out).mono ?_; rw [HS.out]; rintro e1 w1 ⟨rfl, hb1⟩
    have hB1 : Below w.heap.size w w1 := ((Below.refl _ _).alloc (Nat.le_refl _) _).trans (hb1.mono (by simp))
    go_wp2_with fail
    refine (HC.out _ _ _ _ (hk.below hB1 hhi) (Nat.le_trans hhi hB1.size)).mono ?_; rintro e2 w2 ⟨rfl, hb2⟩
    go_wp2_with fail
    go_ret
    exact ⟨ret_bool (HV.out.trans (by rw [any_true, Bool.not_true, Bool.or_false])).symm, hB1.trans (hb2.mono hB1.size)⟩
  | false =>
    have HX := HV.out
    rw [hs] at HX
    clear HV
    have HV := Lib.hid HX
    have HS := Lib.hid hs
    clear hs HX
    go_enter Tryd.func14, Tryd.ntmps14
    go_wp2_with fail
    refine (spec_l33Sure _ c _ lo hi (h.alloc hhi _) (by simp; omega) HO.out).mono ?_; rw [HS.out]; rintro e1 w1 ⟨rfl, hb1⟩
    have hB1 : Below w.heap.size w w1 := ((Below.refl _ _).alloc (Nat.le_refl _) _).trans (hb1.mono (by simp))
    go_wp2_with fail
    go_ret
    exact ⟨ret_bool (HV.out.trans (by simp)).symm, hB1⟩
theorem spec_f_of (c : CoreT) (H : ∀ x ∈ c.kids, SOk x) : CanSOk true c := by
  by_cases k11 : c.kind = 11
  · exact spec_f_11 c H k11
  by_cases k12 : c.kind = 12
  · exact spec_f_12 c H k12
  by_cases k13 : c.kind = 13
  · exact spec_f_13 c H k13
  by_cases k14 : c.kind = 14
  · exact spec_f_14 c H k14
  by_cases k15 : c.kind = 15
  · exact spec_f_15 c H k15
  by_cases k16 : c.kind = 16
  · exact spec_f_16 c H k16
  by_cases k17 : c.kind = 17
  · exact spec_f_17 c H k17
  by_cases k18 : c.kind = 18
  · exact spec_f_18 c H k18
  by_cases k19 : c.kind = 19
  · exact spec_f_19 c H k19
  by_cases k22 : c.kind = 22
  · exact spec_f_22 c H k22
  by_cases k25 : c.kind = 25
  · exact spec_f_25 c H k25
  by_cases k27 : c.kind = 27
  · exact spec_f_27 c H k27
  by_cases k28 : c.kind = 28
  · exact spec_f_28 c H k28
  exact spec_f_no c H (by omega)
set_option maxRecDepth 100000 in
set_option maxHeartbeats 4000000 in
theorem spec_r_12 (c : CoreT) (H : ∀ x ∈ c.kids, SOk x) (k : c.kind = 12) : CanSOk false c := by
  intro x w lo hi hwk h hhi
  obtain ⟨A, cap, rfl, hk, hc1, hc2⟩ := h.form
  unfold maxLen at hc2
  have HV := Lib.hid ((res_yes (c := c) (by omega) : resT c = _))
  have e11 : (c.kind == 11) = false := by simp; omega
  have e12 : (c.kind == 12) = true := by simp [k]
  clear k
  go_enter Tryd.func14, Tryd.ntmps14
  go_wp2_with fail
  go_ret
  exact ⟨ret_bool HV.out.symm, (Below.refl _ _).alloc (Nat.le_refl _) _⟩
set_option maxRecDepth 100000 in
set_option maxHeartbeats 4000000 in
theorem spec_r_13 (c : CoreT) (H : ∀ x ∈ c.kids, SOk x) (k : c.kind = 13) : CanSOk false c := by
  intro x w lo hi hwk h hhi
  obtain ⟨A, cap, rfl, hk, hc1, hc2⟩ := h.form
  unfold maxLen at hc2
  have HV := Lib.hid ((res_yes (c := c) (by omega) : resT c = _))
  have e11 : (c.kind == 11) = false := by simp; omega
  have e12 : (c.kind == 12) = false := by simp; omega
  have e27 : (c.kind == 27) = false := by simp; omega
  have e13 : (c.kind == 13) = true := by simp [k]
  clear k
  go_enter Tryd.func14, Tryd.ntmps14
  go_wp2_with fail
  go_ret
  exact ⟨ret_bool HV.out.symm, (Below.refl _ _).alloc (Nat.le_refl _) _⟩
set_option maxRecDepth 100000 in
set_option maxHeartbeats 4000000 in
theorem spec_r_14 (c : CoreT) (H : ∀ x ∈ c.kids, SOk x) (k : c.kind = 14) : CanSOk false c := by
  intro x w lo hi hwk h hhi
  obtain ⟨A, cap, rfl, hk, hc1, hc2⟩ := h.form
  unfold maxLen at hc2
  have HV := Lib.hid ((res_yes (c := c) (by omega) : resT c = _))
  have e11 : (c.kind == 11) = false := by simp; omega
  have e12 : (c.kind == 12) = false := by simp; omega
  have e27 : (c.kind == 27) = false := by simp; omega
  have e13 : (c.kind == 13) = false := by simp; omega
  have e14 : (c.kind == 14) = true := by simp [k]
  clear k
  go_enter Tryd.func14, Tryd.ntmps14
  go_wp2_with fail
  go_ret
  exact ⟨ret_bool HV.out.symm, (Below.refl _ _).alloc (Nat.le_refl _) _⟩
set_option maxRecDepth 100000 in
set_option maxHeartbeats 4000000 in
theorem spec_r_25 (c : CoreT) (H : ∀ x ∈ c.kids, SOk x) (k : c.kind = 25) : CanSOk false c := by
  intro x w lo hi hwk h hhi
  obtain ⟨A, cap, rfl, hk, hc1, hc2⟩ := h.form
  unfold maxLen at hc2
  have HV := Lib.hid ((res_no (c := c) (by omega) : resT c = _))
  have e11 : (c.kind == 11) = false := by simp; omega
  have e12 : (c.kind == 12) = false := by simp; omega
  have e27 : (c.kind == 27) = false := by simp; omega
  have e13 : (c.kind == 13) = false := by simp; omega
  have e14 : (c.kind == 14) = false := by simp; omega
  have e15 : (c.kind == 15) = false := by simp; omega
  have e16 : (c.kind == 16) = false := by simp; omega
  have e17 : (c.kind == 17) = false := by simp; omega
  have e18 : (c.kind == 18) = false := by simp; omega
  have e19 : (c.kind == 19) = false := by simp; omega
  have e22 : (c.kind == 22) = false := by simp; omega
  have e25 : (c.kind == 25) = true := by simp [k]
  clear k
  go_enter Tryd.func14, Tryd.ntmps14
  go_wp2_with fail
  go_ret
  exact ⟨ret_bool HV.out.symm, (Below.refl _ _).alloc (Nat.le_refl _) _⟩
set_option maxRecDepth 100000 in
set_option maxHeartbeats 4000000 in
theorem spec_r_28 (c : CoreT) (H : ∀ x ∈ c.kids, SOk x) (k : c.kind = 28) : CanSOk false c := by
  intro x w lo hi hwk h hhi
  obtain ⟨A, cap, rfl, hk, hc1, hc2⟩ := h.form
  unfold maxLen at hc2
  have HV := Lib.hid ((res_no (c := c) (by omega) : resT c = _))
  have e11 : (c.kind == 11) = false := by simp; omega
  have e12 : (c.kind == 12) = false := by simp; omega
  have e27 : (c.kind == 27) = false := by simp; omega
  have e13 : (c.kind == 13) = false := by simp; omega
  have e14 : (c.kind == 14) = false := by simp; omega
  have e15 : (c.kind == 15) = false := by simp; omega
  have e16 : (c.kind == 16) = false := by simp; omega
  have e17 : (c.kind == 17) = false := by simp; omega
  have e18 : (c.kind == 18) = false := by simp; omega
  have e19 : (c.kind == 19) = false := by simp; omega
  have e22 : (c.kind == 22) = false := by simp; omega
  have e25 : (c.kind == 25) = false := by simp; omega
  have e28 : (c.kind == 28) = true := by simp [k]
  clear k
  go_enter Tryd.func14, Tryd.ntmps14
  go_wp2_with fail
  go_ret
  exact ⟨ret_bool HV.out.symm, (Below.refl _ _).alloc (Nat.le_refl _) _⟩
set_option maxRecDepth 100000 in
set_option maxHeartbeats 4000000 in
theorem spec_r_27 (c : CoreT) (H : ∀ x ∈ c.kids, SOk x) (k : c.kind = 27) : CanSOk false c := by
  intro x w lo hi hwk h hhi
  obtain ⟨A, cap, rfl, hk, hc1, hc2⟩ := h.form
  unfold maxLen at hc2
  have hlo := hwk.lo
  rw [(kids_27 (op := c.op) k).1] at hlo
  obtain ⟨g, off, hA⟩ := hk.base (show 0 < c.kids.length by omega)
  subst hA
  obtain ⟨a, hka⟩ : ∃ y, c.kids[0]? = some y := ⟨_, List.getElem?_eq_getElem (by omega)⟩
  have hma := List.mem_of_getElem? hka
  have hla : (0 : Int) < (c.kids.length : Int) := by omega
  have HV := Lib.hid (res_27 k hka)
  have Ia := Lib.hid ((H a hma).2.ask (hwk.kids a hma))
  clear H
  have e11 : (c.kind == 11) = false := by simp; omega
  have e12 : (c.kind == 12) = false := by simp; omega
  have e27 : (c.kind == 27) = true := by simp [k]
  clear k
  obtain ⟨Ba, da, hra, q0, q1, q2, q3, q4, q5⟩ := (hk.alloc hhi (.cells #[.int .i64 c.kind, .int .i64 c.op, .int .i64 c.number, .int .i64 c.line, .string c.text, .slice (some ⟨g, off, none⟩) c.kids.length cap] 29)).again hka
  simp only [Nat.zero_mul, Nat.add_zero] at q0 q1 q2 q3 q4 q5
  go_enter Tryd.func14, Tryd.ntmps14
  go_wp2_with fail
  refine (Ia.out _ _ _ _ hra (by simp; omega)).mono ?_; rintro e1 wa ⟨rfl, hba⟩
  clear q0 q1 q2 q3 q4 q5
  go_wp2_with fail
  go_ret
  exact ⟨ret_bool HV.out.symm, ((Below.refl _ _).alloc (Nat.le_refl _) _).trans (hba.mono (by simp))⟩
set_option maxRecDepth 100000 in
set_option maxHeartbeats 4000000 in
theorem spec_r_17 (c : CoreT) (H : ∀ x ∈ c.kids, SOk x) (k : c.kind = 17) : CanSOk false c := by
  intro x w lo hi hwk h hhi
  obtain ⟨A, cap, rfl, hk, hc1, hc2⟩ := h.form
  unfold maxLen at hc2
  have hlo := hwk.lo
  rw [(kids_17 (op := c.op) k).1] at hlo
  obtain ⟨g, off, hA⟩ := hk.base (show 0 < c.kids.length by omega)
  subst hA
  obtain ⟨a, hka⟩ : ∃ y, c.kids[0]? = some y := ⟨_, List.getElem?_eq_getElem (by omega)⟩
  have hma := List.mem_of_getElem? hka
  have hla : (0 : Int) < (c.kids.length : Int) := by omega
  obtain ⟨b, hkb⟩ : ∃ y, c.kids[1]? = some y := ⟨_, List.getElem?_eq_getElem (by omega)⟩
  have hmb := List.mem_of_getElem? hkb
  have hlb : (1 : Int) < (c.kids.length : Int) := by omega
  obtain ⟨e, hke⟩ : ∃ y, c.kids[2]? = some y := ⟨_, List.getElem?_eq_getElem (by omega)⟩
  have hme := List.mem_of_getElem? hke
  have hle : (2 : Int) < (c.kids.length : Int) := by omega
  have HV := Lib.hid (res_17 k hka hkb hke)
  have Ia := Lib.hid ((H a hma).1.ask (hwk.kids a hma))
  have Ib := Lib.hid ((H b hmb).2.ask (hwk.kids b hmb))
  have Ie := Lib.hid ((H e hme).2.ask (hwk.kids e hme))
  clear H
  have e11 : (c.kind == 11) = false := by simp; omega
  have e12 : (c.kind == 12) = false := by simp; omega
  have e27 : (c.kind == 27) = false := by simp; omega
  have e13 : (c.kind == 13) = false := by simp; omega
  have e14 : (c.kind == 14) = false := by simp; omega
  have e15 : (c.kind == 15) = false := by simp; omega
  have e16 : (c.kind == 16) = false := by simp; omega
  have e17 : (c.kind == 17) = true := by simp [k]
  clear k
  obtain ⟨Bb, db, hrb, q0, q1, q2, q3, q4, q5⟩ := (hk.alloc hhi (.cells #[.int .i64 c.kind, .int .i64 c.op, .int .i64 c.number, .int .i64 c.line, .string c.text, .slice (some ⟨g, off, none⟩) c.kids.length cap] 29)).again hkb
  simp only [show 1 * 6 = 6 from rfl] at q0 q1 q2 q3 q4 q5
  go_enter Tryd.func14, Tryd.ntmps14
  go_wp2_with fail
  cases hqb : resT b with
  | true =>
    have HX := HV.out
    rw [hqb] at HX
    clear HV
    have HV := Lib.hid HX
    have HQb := Lib.hid hqb
    clear hqb HX
    refine (Ib.out _ _ _ _ hrb (by simp; omega)).mono ?_; rw [show canB false b = true from HQb.out]; rintro e1 wb ⟨rfl, hbb⟩
    clear q0 q1 q2 q3 q4 q5
    have hBb : Below w.heap.size w wb := ((Below.refl _ _).alloc (Nat.le_refl _) _).trans (hbb.mono (by simp))
    go_wp2_with fail
    go_ret
    exact ⟨ret_bool HV.out.symm, hBb⟩
  | false =>
    have HX := HV.out
    rw [hqb] at HX
    clear HV
    have HV := Lib.hid HX
    have HQb := Lib.hid hqb
    clear hqb HX
    refine (Ib.out _ _ _ _ hrb (by simp; omega)).mono ?_; rw [show canB false b = false from HQb.out]; rintro e1 wb ⟨rfl, hbb⟩
    clear q0 q1 q2 q3 q4 q5
    have hBb : Below w.heap.size w wb := ((Below.refl _ _).alloc (Nat.le_refl _) _).trans (hbb.mono (by simp))
    obtain ⟨Ba, da, hra, q0, q1, q2, q3, q4, q5⟩ := (hk.below hBb hhi).again hka
    simp only [Nat.zero_mul, Nat.add_zero] at q0 q1 q2 q3 q4 q5
    go_wp2_with fail
    cases hqa : failT a with
    | true =>
      have HX := HV.out
      rw [hqa] at HX
      clear HV
      have HV := Lib.hid HX
      have HQa := Lib.hid hqa
      clear hqa HX
      refine (Ia.out _ _ _ _ hra (Nat.le_trans hhi hBb.size)).mono ?_; rw [show canB true a = true from HQa.out]; rintro e1 wa ⟨rfl, hba⟩
      clear q0 q1 q2 q3 q4 q5
      have hBa : Below w.heap.size w wa := hBb.trans (hba.mono hBb.size)
      obtain ⟨Be, de, hre, q0, q1, q2, q3, q4, q5⟩ := (hk.below hBa hhi).again hke
      simp only [show 2 * 6 = 12 from rfl] at q0 q1 q2 q3 q4 q5
      go_wp2_with fail
      refine (Ie.out _ _ _ _ hre (Nat.le_trans hhi hBa.size)).mono ?_; rintro e1 we ⟨rfl, hbe⟩
      clear q0 q1 q2 q3 q4 q5
      go_wp2_with fail
      go_ret
      exact ⟨ret_bool HV.out.symm, hBa.trans (hbe.mono hBa.size)⟩
    | false =>
      have HX := HV.out
      rw [hqa] at HX
      clear HV
      have HV := Lib.hid HX
      have HQa := Lib.hid hqa
      clear hqa HX
      refine (Ia.out _ _ _ _ hra (Nat.le_trans hhi hBb.size)).mono ?_; rw [show canB true a = false from HQa.out]; rintro e1 wa ⟨rfl, hba⟩
      clear q0 q1 q2 q3 q4 q5
      have hBa : Below w.heap.size w wa := hBb.trans (hba.mono hBb.size)
      go_wp2_with fail
      go_ret
      exact ⟨ret_bool HV.out.symm, hBa⟩
set_option maxRecDepth 100000 in
set_option maxHeartbeats 4000000 in
theorem spec_r_18 (c : CoreT) (H : ∀ x ∈ c.kids, SOk x) (k : c.kind = 18) : CanSOk false c := by
  intro x w lo hi hwk h hhi
  obtain ⟨A, cap, rfl, hk, hc1, hc2⟩ := h.form
  unfold maxLen at hc2
  have hlo := hwk.lo
  rw [(kids_18 (op := c.op) k).1] at hlo
  obtain ⟨g, off, hA⟩ := hk.base (show 0 < c.kids.length by omega)
  subst hA
  obtain ⟨b, hkb⟩ : ∃ y, c.kids[1]? = some y := ⟨_, List.getElem?_eq_getElem (by omega)⟩
  have hmb := List.mem_of_getElem? hkb
  have hlb : (1 : Int) < (c.kids.length : Int) := by omega
  have HV := Lib.hid (res_18 (by omega) hkb)
  have Ib := Lib.hid (spec_l33Breaks b)
  clear H
  have e11 : (c.kind == 11) = false := by simp; omega
  have e12 : (c.kind == 12) = false := by simp; omega
  have e27 : (c.kind == 27) = false := by simp; omega
  have e13 : (c.kind == 13) = false := by simp; omega
  have e14 : (c.kind == 14) = false := by simp; omega
  have e15 : (c.kind == 15) = false := by simp; omega
  have e16 : (c.kind == 16) = false := by simp; omega
  have e17 : (c.kind == 17) = false := by simp; omega
  have e18 : (c.kind == 18) = true := by simp [k]
  clear k
  obtain ⟨Bb, db, hrb, q0, q1, q2, q3, q4, q5⟩ := (hk.alloc hhi (.cells #[.int .i64 c.kind, .int .i64 c.op, .int .i64 c.number, .int .i64 c.line, .string c.text, .slice (some ⟨g, off, none⟩) c.kids.length cap] 29)).again hkb
  simp only [show 1 * 6 = 6 from rfl] at q0 q1 q2 q3 q4 q5
  go_enter Tryd.func14, Tryd.ntmps14
  go_wp2_with fail
  refine (Ib.out _ _ _ _ hrb (by simp; omega)).mono ?_; rintro e1 wb ⟨rfl, hbb⟩
  clear q0 q1 q2 q3 q4 q5
  go_wp2_with fail
  go_ret
  exact ⟨ret_bool HV.out.symm, ((Below.refl _ _).alloc (Nat.le_refl _) _).trans (hbb.mono (by simp))⟩
set_option maxRecDepth 100000 in
set_option maxHeartbeats 4000000 in
theorem spec_r_19 (c : CoreT) (H : ∀ x ∈ c.kids, SOk x) (k : c.kind = 19) : CanSOk false c := by
  intro x w lo hi hwk h hhi
  obtain ⟨A, cap, rfl, hk, hc1, hc2⟩ := h.form
  unfold maxLen at hc2
  have hlo := hwk.lo
  rw [(kids_19 (op := c.op) k).1] at hlo
  obtain ⟨g, off, hA⟩ := hk.base (show 0 < c.kids.length by omega)
  subst hA
  obtain ⟨b, hkb⟩ : ∃ y, c.kids[1]? = some y := ⟨_, List.getElem?_eq_getElem (by omega)⟩
  have hmb := List.mem_of_getElem? hkb
  have hlb : (1 : Int) < (c.kids.length : Int) := by omega
  have HV := Lib.hid (res_18 (by omega) hkb)
  have Ib := Lib.hid (spec_l33Breaks b)
  clear H
  have e11 : (c.kind == 11) = false := by simp; omega
  have e12 : (c.kind == 12) = false := by simp; omega
  have e27 : (c.kind == 27) = false := by simp; omega
  have e13 : (c.kind == 13) = false := by simp; omega
  have e14 : (c.kind == 14) = false := by simp; omega
  have e15 : (c.kind == 15) = false := by simp; omega
  have e16 : (c.kind == 16) = false := by simp; omega
  have e17 : (c.kind == 17) = false := by simp; omega
  have e18 : (c.kind == 18) = false := by simp; omega
  have e19 : (c.kind == 19) = true := by simp [k]
  clear k
  obtain ⟨Bb, db, hrb, q0, q1, q2, q3, q4, q5⟩ := (hk.alloc hhi (.cells #[.int .i64 c.kind, .int .i64 c.op, .int .i64 c.number, .int .i64 c.line, .string c.text, .slice (some ⟨g, off, none⟩) c.kids.length cap] 29)).again hkb
  simp only [show 1 * 6 = 6 from rfl] at q0 q1 q2 q3 q4 q5
  go_enter Tryd.func14, Tryd.ntmps14
  go_wp2_with fail
  refine (Ib.out _ _ _ _ hrb (by simp; omega)).mono ?_; rintro e1 wb ⟨rfl, hbb⟩
  clear q0 q1 q2 q3 q4 q5
  go_wp2_with fail
  go_ret
  exact ⟨ret_bool HV.out.symm, ((Below.refl _ _).alloc (Nat.le_refl _) _).trans (hbb.mono (by simp))⟩
set_option maxRecDepth 100000 in
set_option maxHeartbeats 4000000 in
theorem spec_r_15 (c : CoreT) (H : ∀ x ∈ c.kids, SOk x) (k : c.kind = 15) : CanSOk false c := by
  intro x w lo hi hwk h hhi
  obtain ⟨A, cap, rfl, hk, hc1, hc2⟩ := h.form
  unfold maxLen at hc2
  have hlo := hwk.lo
  rw [(kids_15 (op := c.op) k).1] at hlo
  obtain ⟨g, off, hA⟩ := hk.base (show 0 < c.kids.length by omega)
  subst hA
  obtain ⟨b, hkb⟩ : ∃ y, c.kids[1]? = some y := ⟨_, List.getElem?_eq_getElem (by omega)⟩
  have hmb := List.mem_of_getElem? hkb
  have hlb : (1 : Int) < (c.kids.length : Int) := by omega
  have HV := Lib.hid (res_15 k hkb)
  clear H
  have e11 : (c.kind == 11) = false := by simp; omega
  have e12 : (c.kind == 12) = false := by simp; omega
  have e27 : (c.kind == 27) = false := by simp; omega
  have e13 : (c.kind == 13) = false := by simp; omega
  have e14 : (c.kind == 14) = false := by simp; omega
  have e15 : (c.kind == 15) = true := by simp [k]
  clear k
  obtain ⟨Bb, db, hrb, q0, q1, q2, q3, q4, q5⟩ := (hk.alloc hhi (.cells #[.int .i64 c.kind, .int .i64 c.op, .int .i64 c.number, .int .i64 c.line, .string c.text, .slice (some ⟨g, off, none⟩) c.kids.length cap] 29)).again hkb
  simp only [show 1 * 6 = 6 from rfl] at q0 q1 q2 q3 q4 q5
  by_cases v1 : b.kind = 1
  · have y1 : (b.kind != 1) = false := by simp [v1]
    by_cases n1 : b.number = 1
    · have z1 : (b.number != 1) = false := by simp [n1]
      have HX : Hid (resT c = false) := by show _ = _; rw [HV.out, decide_eq_true v1, decide_eq_true n1]; rfl
      clear v1 n1
      go_enter Tryd.func14, Tryd.ntmps14
      go_wp2_with fail
      go_ret
      exact ⟨ret_bool HX.out.symm, (Below.refl _ _).alloc (Nat.le_refl _) _⟩
    · have z1 : (b.number != 1) = true := by simpa using n1
      have HX : Hid (resT c = true) := by show _ = _; rw [HV.out, decide_eq_true v1, decide_eq_false n1]; rfl
      clear v1 n1
      go_enter Tryd.func14, Tryd.ntmps14
      go_wp2_with fail
      go_ret
      exact ⟨ret_bool HX.out.symm, (Below.refl _ _).alloc (Nat.le_refl _) _⟩
  · have y1 : (b.kind != 1) = true := by simpa using v1
    have HX : Hid (resT c = true) := by show _ = _; rw [HV.out, decide_eq_false v1]; rfl
    clear v1
    go_enter Tryd.func14, Tryd.ntmps14
    go_wp2_with fail
    go_ret
    exact ⟨ret_bool HX.out.symm, (Below.refl _ _).alloc (Nat.le_refl _) _⟩
set_option maxRecDepth 100000 in
set_option maxHeartbeats 4000000 in
theorem spec_r_16 (c : CoreT) (H : ∀ x ∈ c.kids, SOk x) (k : c.kind = 16) : CanSOk false c := by
  intro x w lo hi hwk h hhi
  obtain ⟨A, cap, rfl, hk, hc1, hc2⟩ := h.form
  unfold maxLen at hc2
  have hlo := hwk.lo
  rw [(kids_16 (op := c.op) k).1] at hlo
  obtain ⟨g, off, hA⟩ := hk.base (show 0 < c.kids.length by omega)
  subst hA
  obtain ⟨n, hn⟩ : ∃ n : Nat, n = c.kids.length - 1 := ⟨_, rfl⟩
  obtain ⟨a, hka⟩ : ∃ y, c.kids[n]? = some y := ⟨_, List.getElem?_eq_getElem (by omega)⟩
  have hma := List.mem_of_getElem? hka
  have HV := Lib.hid (res_16 k (by rw [← hn]; exact hka))
  have Ia := Lib.hid ((H a hma).2.ask (hwk.kids a hma))
  have hidx : (c.kids.length : Int) - 1 = (n : Int) := by omega
  have hlt : (n : Int) < (c.kids.length : Int) := by omega
  clear H hn hlo
  have e11 : (c.kind == 11) = false := by simp; omega
  have e12 : (c.kind == 12) = false := by simp; omega
  have e27 : (c.kind == 27) = false := by simp; omega
  have e13 : (c.kind == 13) = false := by simp; omega
  have e14 : (c.kind == 14) = false := by simp; omega
  have e15 : (c.kind == 15) = false := by simp; omega
  have e16 : (c.kind == 16) = true := by simp [k]
  clear k
  obtain ⟨Ba, da, hra, q0, q1, q2, q3, q4, q5⟩ := (hk.alloc hhi (.cells #[.int .i64 c.kind, .int .i64 c.op, .int .i64 c.number, .int .i64 c.line, .string c.text, .slice (some ⟨g, off, none⟩) c.kids.length cap] 29)).again hka
  go_enter Tryd.func14, Tryd.ntmps14
  go_wp2_with fail
  refine (Ia.out _ _ _ _ hra (by simp; omega)).mono ?_; rintro e1 wa ⟨rfl, hba⟩
  clear q0 q1 q2 q3 q4 q5
  go_wp2_with fail
  go_ret
  exact ⟨ret_bool HV.out.symm, ((Below.refl _ _).alloc (Nat.le_refl _) _).trans (hba.mono (by simp))⟩
set_option maxRecDepth 100000 in
set_option maxHeartbeats 4000000 in
theorem spec_r_22 (c : CoreT) (H : ∀ x ∈ c.kids, SOk x) (k : c.kind = 22) : CanSOk false c := by
  intro x w lo hi hwk h hhi
  obtain ⟨A, cap, rfl, hk, hc1, hc2⟩ := h.form
  unfold maxLen at hc2
  have HV := Lib.hid (res_22 k)
  have HC := Lib.hid (spec_l33Any false c.kids (fun y hy => (H y hy).2.ask (hwk.kids y hy)))
  clear H
  have e11 : (c.kind == 11) = false := by simp; omega
  have e12 : (c.kind == 12) = false := by simp; omega
  have e27 : (c.kind == 27) = false := by simp; omega
  have e13 : (c.kind == 13) = false := by simp; omega
  have e14 : (c.kind == 14) = false := by simp; omega
  have e15 : (c.kind == 15) = false := by simp; omega
  have e16 : (c.kind == 16) = false := by simp; omega
  have e17 : (c.kind == 17) = false := by simp; omega
  have e18 : (c.kind == 18) = false := by simp; omega
  have e19 : (c.kind == 19) = false := by simp; omega
  have e22 : (c.kind == 22) = true := by simp [k]
  clear k
  go_enter Tryd.func14, Tryd.ntmps14
  go_wp2_with fail
  refine (HC.out _ _ _ _ (hk.alloc hhi _) (by simp; omega)).mono ?_; rintro e1 w1 ⟨rfl, hb1⟩
  go_wp2_with fail
  go_ret
  exact ⟨ret_bool HV.out.symm, ((Below.refl _ _).alloc (Nat.le_refl _) _).trans (hb1.mono (by simp))⟩
set_option maxRecDepth 100000 in
set_option maxHeartbeats 4000000 in
theorem spec_r_no (c : CoreT) (H : ∀ x ∈ c.kids, SOk x) (k : ¬ (c.kind = 11 ∨ c.kind = 12 ∨ c.kind = 13 ∨ c.kind = 14 ∨ c.kind = 15 ∨ c.kind = 16 ∨ c.kind = 17 ∨ c.kind = 18 ∨ c.kind = 19 ∨ c.kind = 22 ∨ c.kind = 25 ∨ c.kind = 27 ∨ c.kind = 28)) : CanSOk false c := by
  intro x w lo hi hwk h hhi
  obtain ⟨A, cap, rfl, hk, hc1, hc2⟩ := h.form
  unfold maxLen at hc2
  have HV := Lib.hid ((res_no (c := c) (by omega) : resT c = _))
  have e11 : (c.kind == 11) = false := by simp; omega
  have e12 : (c.kind == 12) = false := by simp; omega
  have e27 : (c.kind == 27) = false := by simp; omega
  have e13 : (c.kind == 13) = false := by simp; omega
  have e14 : (c.kind == 14) = false := by simp; omega
  have e15 : (c.kind == 15) = false := by simp; omega
  have e16 : (c.kind == 16) = false := by simp; omega
  have e17 : (c.kind == 17) = false := by simp; omega
  have e18 : (c.kind == 18) = false := by simp; omega
  have e19 : (c.kind == 19) = false := by simp; omega
  have e22 : (c.kind == 22) = false := by simp; omega
  have e25 : (c.kind == 25) = false := by simp; omega
  have e28 : (c.kind == 28) = false := by simp; omega
  clear k
  go_enter Tryd.func14, Tryd.ntmps14
  go_wp2_with fail
  go_ret
  exact ⟨ret_bool HV.out.symm, (Below.refl _ _).alloc (Nat.le_refl _) _⟩
set_option maxRecDepth 100000 in
set_option maxHeartbeats 4000000 in
theorem spec_r_11 (c : CoreT) (H : ∀ x ∈ c.kids, SOk x) (k : c.kind = 11) : CanSOk false c := by
  intro x w lo hi hwk h hhi
  obtain ⟨A, cap, rfl, hk, hc1, hc2⟩ := h.form
  unfold maxLen at hc2
  have HC := Lib.hid (spec_l33Any false c.kids (fun y hy => (H y hy).2.ask (hwk.kids y hy)))
  have HV := Lib.hid (res_11 k)
  have HO := Lib.hid (fun ho => one_of hwk k ho)
  clear H
  have e11 : (c.kind == 11) = true := by simp [k]
  clear k
  cases hs : resOp c.op with
  | true =>
    have HX := HV.out
    rw [hs] at HX
    clear HV
    have HV := Lib.hid HX
    have HS := Lib.hid hs
    clear hs HX
    go_enter Tryd.func14, Tryd.ntmps14
    go_wp2_with fail
    refine (spec_l33Resumes c.op _).mono ?_; rw [HS.out]; rintro e1 w1 ⟨rfl, rfl⟩
    have hB1 : Below w.heap.size w (w.alloc (.cells #[.int .i64 c.kind, .int .i64 c.op, .int .i64 c.number, .int .i64 c.line, .string c.text, .slice A c.kids.length cap] 29)) := (Below.refl _ _).alloc (Nat.le_refl _) _
    go_wp2_with fail
    go_ret
    exact ⟨ret_bool (HV.out.trans (by simp)).symm, hB1⟩
  | false =>
    have HX := HV.out
    rw [hs] at HX
    clear HV
    have HV := Lib.hid HX
    have HS := Lib.hid hs
    clear hs HX
    go_enter Tryd.func14, Tryd.ntmps14
    go_wp2_with fail
    refine (spec_l33Resumes c.op _).mono ?_; rw [HS.out]; rintro e1 w1 ⟨rfl, rfl⟩
    have hB1 : Below w.heap.size w (w.alloc (.cells #[.int .i64 c.kind, .int .i64 c.op, .int .i64 c.number, .int .i64 c.line, .string c.text, .slice A c.kids.length cap] 29)) := (Below.refl _ _).alloc (Nat.le_refl _) _
    go_wp2_with fail
    refine (HC.out _ _ _ _ (hk.below hB1 hhi) (Nat.le_trans hhi hB1.size)).mono ?_; rintro e2 w2 ⟨rfl, hb2⟩
    go_wp2_with fail
    go_ret
    exact ⟨ret_bool (HV.out.trans (by rw [any_false, Bool.or_false])).symm, hB1.trans (hb2.mono hB1.size)⟩
theorem spec_r_of (c : CoreT) (H : ∀ x ∈ c.kids, SOk x) : CanSOk false c := by
  by_cases k11 : c.kind = 11
  · exact spec_r_11 c H k11
  by_cases k12 : c.kind = 12
  · exact spec_r_12 c H k12
  by_cases k13 : c.kind = 13
  · exact spec_r_13 c H k13
  by_cases k14 : c.kind = 14
  · exact spec_r_14 c H k14
  by_cases k15 : c.kind = 15
  · exact spec_r_15 c H k15
  by_cases k16 : c.kind = 16
  · exact spec_r_16 c H k16
  by_cases k17 : c.kind = 17
  · exact spec_r_17 c H k17
  by_cases k18 : c.kind = 18
  · exact spec_r_18 c H k18
  by_cases k19 : c.kind = 19
  · exact spec_r_19 c H k19
  by_cases k22 : c.kind = 22
  · exact spec_r_22 c H k22
  by_cases k25 : c.kind = 25
  · exact spec_r_25 c H k25
  by_cases k27 : c.kind = 27
  · exact spec_r_27 c H k27
  by_cases k28 : c.kind = 28
  · exact spec_r_28 c H k28
  exact spec_r_no c H (by omega)
theorem spec_l33Can (c : CoreT) : SOk c := CoreT.ind (fun c H => ⟨spec_f_of c H, spec_r_of c H⟩) c
end Go.Proofs.YtppdelelgkepaaaDoor
