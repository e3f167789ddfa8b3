/- canFail of the program. -/
import Derived.Test.YtppdelelgkepaaaDoorCanT
namespace Go.Proofs.YtppdelelgkepaaaDoor
open Go.RowKit
set_option linter.unusedVariables false

/-- the function F answers q at trees like c, if they have their kids -/
def CanOk (F : Nat) (q : CoreT → Bool) (c : CoreT) : Prop := ∀ (x : Value) (w : World) (lo hi : Nat), c.WK → CRep w lo hi x c → hi ≤ w.heap.size →
  Calls Tryd.prog F #[x] w fun e w' => e = .returned (.bool (q c)) ∧ Below w.heap.size w w'
theorem CanOk.ask {F : Nat} {q : CoreT → Bool} {c : CoreT} (h : CanOk F q c) (hw : c.WK) : AskOk F q c := fun x w lo hi => h x w lo hi hw
theorem KRep.base {w : World} {lo hi : Nat} {A : Option Addr} {cap : Nat} {l : List CoreT} (h : KRep w lo hi (.slice A l.length cap) l) (hn : 0 < l.length) : ∃ g off, A = some ⟨g, off, none⟩ := by
  obtain ⟨g, off, c, B, d, hA, -⟩ := h.kid hn; exact ⟨g, off, hA⟩
theorem KRep.again {w : World} {lo hi g off cap j : Nat} {l : List CoreT} {c : CoreT} (h : KRep w lo hi (.slice (some ⟨g, off, none⟩) l.length cap) l) (hc : l[j]? = some c) :
    ∃ B d, CRep w lo hi (.agg #[.int .i64 c.kind, .int .i64 c.op, .int .i64 c.number, .int .i64 c.line, .string c.text, .slice B c.kids.length d]) c ∧
      w.cell? ⟨g, off + j * 6, none⟩ = some (.int .i64 c.kind) ∧ w.cell? ⟨g, off + j * 6 + 1, none⟩ = some (.int .i64 c.op) ∧ w.cell? ⟨g, off + j * 6 + 2, none⟩ = some (.int .i64 c.number) ∧ w.cell? ⟨g, off + j * 6 + 3, none⟩ = some (.int .i64 c.line) ∧ w.cell? ⟨g, off + j * 6 + 4, none⟩ = some (.string c.text) ∧ w.cell? ⟨g, off + j * 6 + 5, none⟩ = some (.slice B c.kids.length d) := by
  obtain ⟨g', off', c', B, d, hA, -, -, hc', -, hr, h0, h1, h2, h3, h4, h5⟩ := h.kid (List.getElem?_eq_some_iff.1 hc).1
  injection hA with hA
  injection hA with e1 e2 _
  subst e1 e2
  obtain rfl : c' = c := Option.some.inj (hc'.symm.trans hc)
  exact ⟨B, d, hr, h0, h1, h2, h3, h4, h5⟩

set_option maxRecDepth 100000 in
set_option maxHeartbeats 4000000 in
theorem canFail_28 (c : CoreT) (H : ∀ x ∈ c.kids, CanOk 17 failT x) (k : c.kind = 28) : CanOk 17 failT c := by
  intro x w lo hi hwk h hhi
  obtain ⟨A, cap, rfl, hk, hc1, hc2⟩ := h.form
  unfold maxLen at hc2
  have HV := Lib.hid (fail_yes (c := c) (by omega))
  have e28 : (c.kind == 28) = true := by simp [k]
  clear k
  go_enter Tryd.func17, Tryd.ntmps17
  go_wp2_with fail
  go_ret
  exact ⟨ret_bool HV.out.symm, (Below.refl _ _).alloc (Nat.le_refl _) _⟩
set_option maxRecDepth 100000 in
set_option maxHeartbeats 4000000 in
theorem canFail_25 (c : CoreT) (H : ∀ x ∈ c.kids, CanOk 17 failT x) (k : c.kind = 25) : CanOk 17 failT c := by
  intro x w lo hi hwk h hhi
  obtain ⟨A, cap, rfl, hk, hc1, hc2⟩ := h.form
  unfold maxLen at hc2
  have HV := Lib.hid (fail_yes (c := c) (by omega))
  have e28 : (c.kind == 28) = false := by simp; omega
  have e25 : (c.kind == 25) = true := by simp [k]
  clear k
  go_enter Tryd.func17, Tryd.ntmps17
  go_wp2_with fail
  go_ret
  exact ⟨ret_bool HV.out.symm, (Below.refl _ _).alloc (Nat.le_refl _) _⟩
set_option maxRecDepth 100000 in
set_option maxHeartbeats 4000000 in
theorem canFail_12 (c : CoreT) (H : ∀ x ∈ c.kids, CanOk 17 failT x) (k : c.kind = 12) : CanOk 17 failT c := by
  intro x w lo hi hwk h hhi
  obtain ⟨A, cap, rfl, hk, hc1, hc2⟩ := h.form
  unfold maxLen at hc2
  have HV := Lib.hid (fail_yes (c := c) (by omega))
  have e28 : (c.kind == 28) = false := by simp; omega
  have e25 : (c.kind == 25) = false := by simp; omega
  have e12 : (c.kind == 12) = true := by simp [k]
  clear k
  go_enter Tryd.func17, Tryd.ntmps17
  go_wp2_with fail
  go_ret
  exact ⟨ret_bool HV.out.symm, (Below.refl _ _).alloc (Nat.le_refl _) _⟩
set_option maxRecDepth 100000 in
set_option maxHeartbeats 4000000 in
theorem canFail_27 (c : CoreT) (H : ∀ x ∈ c.kids, CanOk 17 failT x) (k : c.kind = 27) : CanOk 17 failT c := by
  intro x w lo hi hwk h hhi
  obtain ⟨A, cap, rfl, hk, hc1, hc2⟩ := h.form
  unfold maxLen at hc2
  have HV := Lib.hid (fail_yes (c := c) (by omega))
  have e28 : (c.kind == 28) = false := by simp; omega
  have e25 : (c.kind == 25) = false := by simp; omega
  have e12 : (c.kind == 12) = false := by simp; omega
  have e27 : (c.kind == 27) = true := by simp [k]
  clear k
  go_enter Tryd.func17, Tryd.ntmps17
  go_wp2_with fail
  go_ret
  exact ⟨ret_bool HV.out.symm, (Below.refl _ _).alloc (Nat.le_refl _) _⟩
set_option maxRecDepth 100000 in
set_option maxHeartbeats 4000000 in
theorem canFail_15 (c : CoreT) (H : ∀ x ∈ c.kids, CanOk 17 failT x) (k : c.kind = 15) : CanOk 17 failT c := by
  intro x w lo hi hwk h hhi
  obtain ⟨A, cap, rfl, hk, hc1, hc2⟩ := h.form
  unfold maxLen at hc2
  have HV := Lib.hid (fail_yes (c := c) (by omega))
  have e28 : (c.kind == 28) = false := by simp; omega
  have e25 : (c.kind == 25) = false := by simp; omega
  have e12 : (c.kind == 12) = false := by simp; omega
  have e27 : (c.kind == 27) = false := by simp; omega
  have e15 : (c.kind == 15) = true := by simp [k]
  clear k
  go_enter Tryd.func17, Tryd.ntmps17
  go_wp2_with fail
  go_ret
  exact ⟨ret_bool HV.out.symm, (Below.refl _ _).alloc (Nat.le_refl _) _⟩
set_option maxRecDepth 100000 in
set_option maxHeartbeats 4000000 in
theorem canFail_18 (c : CoreT) (H : ∀ x ∈ c.kids, CanOk 17 failT x) (k : c.kind = 18) : CanOk 17 failT c := by
  intro x w lo hi hwk h hhi
  obtain ⟨A, cap, rfl, hk, hc1, hc2⟩ := h.form
  unfold maxLen at hc2
  have HV := Lib.hid (fail_yes (c := c) (by omega))
  have e28 : (c.kind == 28) = false := by simp; omega
  have e25 : (c.kind == 25) = false := by simp; omega
  have e12 : (c.kind == 12) = false := by simp; omega
  have e27 : (c.kind == 27) = false := by simp; omega
  have e15 : (c.kind == 15) = false := by simp; omega
  have e18 : (c.kind == 18) = true := by simp [k]
  clear k
  go_enter Tryd.func17, Tryd.ntmps17
  go_wp2_with fail
  go_ret
  exact ⟨ret_bool HV.out.symm, (Below.refl _ _).alloc (Nat.le_refl _) _⟩
set_option maxRecDepth 100000 in
set_option maxHeartbeats 4000000 in
theorem canFail_19 (c : CoreT) (H : ∀ x ∈ c.kids, CanOk 17 failT x) (k : c.kind = 19) : CanOk 17 failT c := by
  intro x w lo hi hwk h hhi
  obtain ⟨A, cap, rfl, hk, hc1, hc2⟩ := h.form
  unfold maxLen at hc2
  have HV := Lib.hid (fail_yes (c := c) (by omega))
  have e28 : (c.kind == 28) = false := by simp; omega
  have e25 : (c.kind == 25) = false := by simp; omega
  have e12 : (c.kind == 12) = false := by simp; omega
  have e27 : (c.kind == 27) = false := by simp; omega
  have e15 : (c.kind == 15) = false := by simp; omega
  have e18 : (c.kind == 18) = false := by simp; omega
  have e19 : (c.kind == 19) = true := by simp [k]
  clear k
  go_enter Tryd.func17, Tryd.ntmps17
  go_wp2_with fail
  go_ret
  exact ⟨ret_bool HV.out.symm, (Below.refl _ _).alloc (Nat.le_refl _) _⟩
set_option maxRecDepth 100000 in
set_option maxHeartbeats 4000000 in
theorem canFail_14 (c : CoreT) (H : ∀ x ∈ c.kids, CanOk 17 failT x) (k : c.kind = 14) : CanOk 17 failT c := by
  intro x w lo hi hwk h hhi
  obtain ⟨A, cap, rfl, hk, hc1, hc2⟩ := h.form
  unfold maxLen at hc2
  have hlo := hwk.lo
  rw [(kids_14 (op := c.op) k).1] at hlo
  obtain ⟨g, off, hA⟩ := hk.base (show 0 < c.kids.length by omega)
  subst hA
  obtain ⟨a, hka⟩ : ∃ y, c.kids[0]? = some y := ⟨_, List.getElem?_eq_getElem (by omega)⟩
  have hma := List.mem_of_getElem? hka
  have hla : (0 : Int) < (c.kids.length : Int) := by omega
  have HV := Lib.hid (fail_14 k hka)
  have Ia := Lib.hid ((H a hma).ask (hwk.kids a hma))
  clear H
  have e28 : (c.kind == 28) = false := by simp; omega
  have e25 : (c.kind == 25) = false := by simp; omega
  have e12 : (c.kind == 12) = false := by simp; omega
  have e27 : (c.kind == 27) = false := by simp; omega
  have e15 : (c.kind == 15) = false := by simp; omega
  have e18 : (c.kind == 18) = false := by simp; omega
  have e19 : (c.kind == 19) = false := by simp; omega
  have e11 : (c.kind == 11) = false := by simp; omega
  have e13 : (c.kind == 13) = false := by simp; omega
  have e14 : (c.kind == 14) = true := by simp [k]
  clear k
  obtain ⟨Ba, da, hra, q0, q1, q2, q3, q4, q5⟩ := (hk.alloc hhi (.cells #[.int .i64 c.kind, .int .i64 c.op, .int .i64 c.number, .int .i64 c.line, .string c.text, .slice (some ⟨g, off, none⟩) c.kids.length cap] 29)).again hka
  simp only [Nat.zero_mul, Nat.add_zero] at q0 q1 q2 q3 q4 q5
  go_enter Tryd.func17, Tryd.ntmps17
  go_wp2_with fail
  refine (Ia.out _ _ _ _ hra (by simp; omega)).mono ?_; rintro e1 wa ⟨rfl, hba⟩
  clear q0 q1 q2 q3 q4 q5
  go_wp2_with fail
  go_ret
  exact ⟨ret_bool HV.out.symm, ((Below.refl _ _).alloc (Nat.le_refl _) _).trans (hba.mono (by simp))⟩
set_option maxRecDepth 100000 in
set_option maxHeartbeats 4000000 in
theorem canFail_13 (c : CoreT) (H : ∀ x ∈ c.kids, CanOk 17 failT x) (k : c.kind = 13) : CanOk 17 failT c := by
  intro x w lo hi hwk h hhi
  obtain ⟨A, cap, rfl, hk, hc1, hc2⟩ := h.form
  unfold maxLen at hc2
  have hlo := hwk.lo
  rw [(kids_13 (op := c.op) k).1] at hlo
  obtain ⟨g, off, hA⟩ := hk.base (show 0 < c.kids.length by omega)
  subst hA
  obtain ⟨a, hka⟩ : ∃ y, c.kids[0]? = some y := ⟨_, List.getElem?_eq_getElem (by omega)⟩
  have hma := List.mem_of_getElem? hka
  have hla : (0 : Int) < (c.kids.length : Int) := by omega
  obtain ⟨b, hkb⟩ : ∃ y, c.kids[1]? = some y := ⟨_, List.getElem?_eq_getElem (by omega)⟩
  have hmb := List.mem_of_getElem? hkb
  have hlb : (1 : Int) < (c.kids.length : Int) := by omega
  have HV := Lib.hid (fail_13 k hka hkb)
  have Ia := Lib.hid ((H a hma).ask (hwk.kids a hma))
  have Ib := Lib.hid ((H b hmb).ask (hwk.kids b hmb))
  clear H
  have e28 : (c.kind == 28) = false := by simp; omega
  have e25 : (c.kind == 25) = false := by simp; omega
  have e12 : (c.kind == 12) = false := by simp; omega
  have e27 : (c.kind == 27) = false := by simp; omega
  have e15 : (c.kind == 15) = false := by simp; omega
  have e18 : (c.kind == 18) = false := by simp; omega
  have e19 : (c.kind == 19) = false := by simp; omega
  have e11 : (c.kind == 11) = false := by simp; omega
  have e13 : (c.kind == 13) = true := by simp [k]
  clear k
  obtain ⟨Ba, da, hra, q0, q1, q2, q3, q4, q5⟩ := (hk.alloc hhi (.cells #[.int .i64 c.kind, .int .i64 c.op, .int .i64 c.number, .int .i64 c.line, .string c.text, .slice (some ⟨g, off, none⟩) c.kids.length cap] 29)).again hka
  simp only [Nat.zero_mul, Nat.add_zero] at q0 q1 q2 q3 q4 q5
  go_enter Tryd.func17, Tryd.ntmps17
  go_wp2_with fail
  cases hqa : failT a with
  | true =>
    have HX := HV.out
    rw [hqa] at HX
    clear HV
    have HV := Lib.hid HX
    have HQa := Lib.hid hqa
    clear hqa HX
    refine (Ia.out _ _ _ _ hra (by simp; omega)).mono ?_; rw [HQa.out]; rintro e1 wa ⟨rfl, hba⟩
    clear q0 q1 q2 q3 q4 q5
    have hBa : Below w.heap.size w wa := ((Below.refl _ _).alloc (Nat.le_refl _) _).trans (hba.mono (by simp))
    obtain ⟨Bb, db, hrb, q0, q1, q2, q3, q4, q5⟩ := (hk.below hBa hhi).again hkb
    simp only [show 1 * 6 = 6 from rfl] at q0 q1 q2 q3 q4 q5
    go_wp2_with fail
    refine (Ib.out _ _ _ _ hrb (Nat.le_trans hhi hBa.size)).mono ?_; rintro e1 wb ⟨rfl, hbb⟩
    clear q0 q1 q2 q3 q4 q5
    go_wp2_with fail
    go_ret
    exact ⟨ret_bool HV.out.symm, hBa.trans (hbb.mono hBa.size)⟩
  | false =>
    have HX := HV.out
    rw [hqa] at HX
    clear HV
    have HV := Lib.hid HX
    have HQa := Lib.hid hqa
    clear hqa HX
    refine (Ia.out _ _ _ _ hra (by simp; omega)).mono ?_; rw [HQa.out]; rintro e1 wa ⟨rfl, hba⟩
    clear q0 q1 q2 q3 q4 q5
    have hBa : Below w.heap.size w wa := ((Below.refl _ _).alloc (Nat.le_refl _) _).trans (hba.mono (by simp))
    go_wp2_with fail
    go_ret
    exact ⟨ret_bool HV.out.symm, hBa⟩
set_option maxRecDepth 100000 in
set_option maxHeartbeats 4000000 in
theorem canFail_17 (c : CoreT) (H : ∀ x ∈ c.kids, CanOk 17 failT x) (k : c.kind = 17) : CanOk 17 failT c := by
  intro x w lo hi hwk h hhi
  obtain ⟨A, cap, rfl, hk, hc1, hc2⟩ := h.form
  unfold maxLen at hc2
  have hlo := hwk.lo
  rw [(kids_17 (op := c.op) k).1] at hlo
  obtain ⟨g, off, hA⟩ := hk.base (show 0 < c.kids.length by omega)
  subst hA
  obtain ⟨a, hka⟩ : ∃ y, c.kids[0]? = some y := ⟨_, List.getElem?_eq_getElem (by omega)⟩
  have hma := List.mem_of_getElem? hka
  have hla : (0 : Int) < (c.kids.length : Int) := by omega
  obtain ⟨b, hkb⟩ : ∃ y, c.kids[1]? = some y := ⟨_, List.getElem?_eq_getElem (by omega)⟩
  have hmb := List.mem_of_getElem? hkb
  have hlb : (1 : Int) < (c.kids.length : Int) := by omega
  obtain ⟨e, hke⟩ : ∃ y, c.kids[2]? = some y := ⟨_, List.getElem?_eq_getElem (by omega)⟩
  have hme := List.mem_of_getElem? hke
  have hle : (2 : Int) < (c.kids.length : Int) := by omega
  have HV := Lib.hid (fail_17 k hka hkb hke)
  have Ia := Lib.hid ((H a hma).ask (hwk.kids a hma))
  have Ib := Lib.hid ((H b hmb).ask (hwk.kids b hmb))
  have Ie := Lib.hid ((H e hme).ask (hwk.kids e hme))
  clear H
  have e28 : (c.kind == 28) = false := by simp; omega
  have e25 : (c.kind == 25) = false := by simp; omega
  have e12 : (c.kind == 12) = false := by simp; omega
  have e27 : (c.kind == 27) = false := by simp; omega
  have e15 : (c.kind == 15) = false := by simp; omega
  have e18 : (c.kind == 18) = false := by simp; omega
  have e19 : (c.kind == 19) = false := by simp; omega
  have e11 : (c.kind == 11) = false := by simp; omega
  have e13 : (c.kind == 13) = false := by simp; omega
  have e14 : (c.kind == 14) = false := by simp; omega
  have e16 : (c.kind == 16) = false := by simp; omega
  have e17 : (c.kind == 17) = true := by simp [k]
  clear k
  obtain ⟨Bb, db, hrb, q0, q1, q2, q3, q4, q5⟩ := (hk.alloc hhi (.cells #[.int .i64 c.kind, .int .i64 c.op, .int .i64 c.number, .int .i64 c.line, .string c.text, .slice (some ⟨g, off, none⟩) c.kids.length cap] 29)).again hkb
  simp only [show 1 * 6 = 6 from rfl] at q0 q1 q2 q3 q4 q5
  go_enter Tryd.func17, Tryd.ntmps17
  go_wp2_with fail
  cases hqb : failT b with
  | true =>
    have HX := HV.out
    rw [hqb] at HX
    clear HV
    have HV := Lib.hid HX
    have HQb := Lib.hid hqb
    clear hqb HX
    refine (Ib.out _ _ _ _ hrb (by simp; omega)).mono ?_; rw [HQb.out]; rintro e1 wb ⟨rfl, hbb⟩
    clear q0 q1 q2 q3 q4 q5
    have hBb : Below w.heap.size w wb := ((Below.refl _ _).alloc (Nat.le_refl _) _).trans (hbb.mono (by simp))
    go_wp2_with fail
    go_ret
    exact ⟨ret_bool HV.out.symm, hBb⟩
  | false =>
    have HX := HV.out
    rw [hqb] at HX
    clear HV
    have HV := Lib.hid HX
    have HQb := Lib.hid hqb
    clear hqb HX
    refine (Ib.out _ _ _ _ hrb (by simp; omega)).mono ?_; rw [HQb.out]; rintro e1 wb ⟨rfl, hbb⟩
    clear q0 q1 q2 q3 q4 q5
    have hBb : Below w.heap.size w wb := ((Below.refl _ _).alloc (Nat.le_refl _) _).trans (hbb.mono (by simp))
    obtain ⟨Ba, da, hra, q0, q1, q2, q3, q4, q5⟩ := (hk.below hBb hhi).again hka
    simp only [Nat.zero_mul, Nat.add_zero] at q0 q1 q2 q3 q4 q5
    go_wp2_with fail
    cases hqa : failT a with
    | true =>
      have HX := HV.out
      rw [hqa] at HX
      clear HV
      have HV := Lib.hid HX
      have HQa := Lib.hid hqa
      clear hqa HX
      refine (Ia.out _ _ _ _ hra (Nat.le_trans hhi hBb.size)).mono ?_; rw [HQa.out]; rintro e1 wa ⟨rfl, hba⟩
      clear q0 q1 q2 q3 q4 q5
      have hBa : Below w.heap.size w wa := hBb.trans (hba.mono hBb.size)
      obtain ⟨Be, de, hre, q0, q1, q2, q3, q4, q5⟩ := (hk.below hBa hhi).again hke
      simp only [show 2 * 6 = 12 from rfl] at q0 q1 q2 q3 q4 q5
      go_wp2_with fail
      refine (Ie.out _ _ _ _ hre (Nat.le_trans hhi hBa.size)).mono ?_; rintro e1 we ⟨rfl, hbe⟩
      clear q0 q1 q2 q3 q4 q5
      go_wp2_with fail
      go_ret
      exact ⟨ret_bool HV.out.symm, hBa.trans (hbe.mono hBa.size)⟩
    | false =>
      have HX := HV.out
      rw [hqa] at HX
      clear HV
      have HV := Lib.hid HX
      have HQa := Lib.hid hqa
      clear hqa HX
      refine (Ia.out _ _ _ _ hra (Nat.le_trans hhi hBb.size)).mono ?_; rw [HQa.out]; rintro e1 wa ⟨rfl, hba⟩
      clear q0 q1 q2 q3 q4 q5
      have hBa : Below w.heap.size w wa := hBb.trans (hba.mono hBb.size)
      go_wp2_with fail
      go_ret
      exact ⟨ret_bool HV.out.symm, hBa⟩
set_option maxRecDepth 100000 in
set_option maxHeartbeats 4000000 in
theorem canFail_16 (c : CoreT) (H : ∀ x ∈ c.kids, CanOk 17 failT x) (k : c.kind = 16) : CanOk 17 failT c := by
  intro x w lo hi hwk h hhi
  obtain ⟨A, cap, rfl, hk, hc1, hc2⟩ := h.form
  unfold maxLen at hc2
  have hlo := hwk.lo
  rw [(kids_16 (op := c.op) k).1] at hlo
  obtain ⟨g, off, hA⟩ := hk.base (show 0 < c.kids.length by omega)
  subst hA
  obtain ⟨n, hn⟩ : ∃ n : Nat, n = c.kids.length - 1 := ⟨_, rfl⟩
  obtain ⟨a, hka⟩ : ∃ y, c.kids[n]? = some y := ⟨_, List.getElem?_eq_getElem (by omega)⟩
  have hma := List.mem_of_getElem? hka
  have HV := Lib.hid (fail_16 k (by rw [← hn]; exact hka))
  have Ia := Lib.hid ((H a hma).ask (hwk.kids a hma))
  have hidx : (c.kids.length : Int) - 1 = (n : Int) := by omega
  have hlt : (n : Int) < (c.kids.length : Int) := by omega
  clear H hn hlo
  have e28 : (c.kind == 28) = false := by simp; omega
  have e25 : (c.kind == 25) = false := by simp; omega
  have e12 : (c.kind == 12) = false := by simp; omega
  have e27 : (c.kind == 27) = false := by simp; omega
  have e15 : (c.kind == 15) = false := by simp; omega
  have e18 : (c.kind == 18) = false := by simp; omega
  have e19 : (c.kind == 19) = false := by simp; omega
  have e11 : (c.kind == 11) = false := by simp; omega
  have e13 : (c.kind == 13) = false := by simp; omega
  have e14 : (c.kind == 14) = false := by simp; omega
  have e16 : (c.kind == 16) = true := by simp [k]
  clear k
  obtain ⟨Ba, da, hra, q0, q1, q2, q3, q4, q5⟩ := (hk.alloc hhi (.cells #[.int .i64 c.kind, .int .i64 c.op, .int .i64 c.number, .int .i64 c.line, .string c.text, .slice (some ⟨g, off, none⟩) c.kids.length cap] 29)).again hka
  go_enter Tryd.func17, Tryd.ntmps17
  go_wp2_with fail
  refine (Ia.out _ _ _ _ hra (by simp; omega)).mono ?_; rintro e1 wa ⟨rfl, hba⟩
  clear q0 q1 q2 q3 q4 q5
  go_wp2_with fail
  go_ret
  exact ⟨ret_bool HV.out.symm, ((Below.refl _ _).alloc (Nat.le_refl _) _).trans (hba.mono (by simp))⟩
set_option maxRecDepth 100000 in
set_option maxHeartbeats 4000000 in
theorem canFail_no (c : CoreT) (H : ∀ x ∈ c.kids, CanOk 17 failT x) (k : ¬ (c.kind = 11 ∨ c.kind = 12 ∨ c.kind = 13 ∨ c.kind = 14 ∨ c.kind = 15 ∨ c.kind = 16 ∨ c.kind = 17 ∨ c.kind = 18 ∨ c.kind = 19 ∨ c.kind = 22 ∨ c.kind = 25 ∨ c.kind = 27 ∨ c.kind = 28)) : CanOk 17 failT c := by
  intro x w lo hi hwk h hhi
  obtain ⟨A, cap, rfl, hk, hc1, hc2⟩ := h.form
  unfold maxLen at hc2
  have HV := Lib.hid (fail_no k)
  have e28 : (c.kind == 28) = false := by simp; omega
  have e25 : (c.kind == 25) = false := by simp; omega
  have e12 : (c.kind == 12) = false := by simp; omega
  have e27 : (c.kind == 27) = false := by simp; omega
  have e15 : (c.kind == 15) = false := by simp; omega
  have e18 : (c.kind == 18) = false := by simp; omega
  have e19 : (c.kind == 19) = false := by simp; omega
  have e11 : (c.kind == 11) = false := by simp; omega
  have e13 : (c.kind == 13) = false := by simp; omega
  have e14 : (c.kind == 14) = false := by simp; omega
  have e16 : (c.kind == 16) = false := by simp; omega
  have e17 : (c.kind == 17) = false := by simp; omega
  have e22 : (c.kind == 22) = false := by simp; omega
  clear k
  go_enter Tryd.func17, Tryd.ntmps17
  go_wp2_with fail
  go_ret
  exact ⟨ret_bool HV.out.symm, (Below.refl _ _).alloc (Nat.le_refl _) _⟩
set_option maxRecDepth 100000 in
set_option maxHeartbeats 4000000 in
theorem canFail_22 (c : CoreT) (H : ∀ x ∈ c.kids, CanOk 17 failT x) (k : c.kind = 22) : CanOk 17 failT c := by
  intro x w lo hi hwk h hhi
  obtain ⟨A, cap, rfl, hk, hc1, hc2⟩ := h.form
  unfold maxLen at hc2
  have hlo := hwk.lo
  rw [(kids_22 (op := c.op) k).1] at hlo
  obtain ⟨g, off, hA⟩ := hk.base (show 0 < c.kids.length by omega)
  subst hA
  obtain ⟨a, hka⟩ : ∃ y, c.kids[0]? = some y := ⟨_, List.getElem?_eq_getElem (by omega)⟩
  have hma := List.mem_of_getElem? hka
  have hla : (0 : Int) < (c.kids.length : Int) := by omega
  obtain ⟨b, hkb⟩ : ∃ y, c.kids[1]? = some y := ⟨_, List.getElem?_eq_getElem (by omega)⟩
  have hmb := List.mem_of_getElem? hkb
  have hlb : (1 : Int) < (c.kids.length : Int) := by omega
  have HV := Lib.hid (fail_22w hwk k hka hkb)
  have Ia := Lib.hid ((H a hma).ask (hwk.kids a hma))
  have Ib := Lib.hid ((H b hmb).ask (hwk.kids b hmb))
  clear H
  have e28 : (c.kind == 28) = false := by simp; omega
  have e25 : (c.kind == 25) = false := by simp; omega
  have e12 : (c.kind == 12) = false := by simp; omega
  have e27 : (c.kind == 27) = false := by simp; omega
  have e15 : (c.kind == 15) = false := by simp; omega
  have e18 : (c.kind == 18) = false := by simp; omega
  have e19 : (c.kind == 19) = false := by simp; omega
  have e11 : (c.kind == 11) = false := by simp; omega
  have e13 : (c.kind == 13) = false := by simp; omega
  have e14 : (c.kind == 14) = false := by simp; omega
  have e16 : (c.kind == 16) = false := by simp; omega
  have e17 : (c.kind == 17) = false := by simp; omega
  have e22 : (c.kind == 22) = true := by simp [k]
  clear k
  obtain ⟨Ba, da, hra, q0, q1, q2, q3, q4, q5⟩ := (hk.alloc hhi (.cells #[.int .i64 c.kind, .int .i64 c.op, .int .i64 c.number, .int .i64 c.line, .string c.text, .slice (some ⟨g, off, none⟩) c.kids.length cap] 29)).again hka
  simp only [Nat.zero_mul, Nat.add_zero] at q0 q1 q2 q3 q4 q5
  go_enter Tryd.func17, Tryd.ntmps17
  go_wp2_with fail
  cases hqa : failT a with
  | true =>
    have HX := HV.out
    rw [hqa] at HX
    clear HV
    have HV := Lib.hid HX
    have HQa := Lib.hid hqa
    clear hqa HX
    refine (Ia.out _ _ _ _ hra (by simp; omega)).mono ?_; rw [HQa.out]; rintro e1 wa ⟨rfl, hba⟩
    clear q0 q1 q2 q3 q4 q5
    have hBa : Below w.heap.size w wa := ((Below.refl _ _).alloc (Nat.le_refl _) _).trans (hba.mono (by simp))
    go_wp2_with fail
    go_ret
    exact ⟨ret_bool HV.out.symm, hBa⟩
  | false =>
    have HX := HV.out
    rw [hqa] at HX
    clear HV
    have HV := Lib.hid HX
    have HQa := Lib.hid hqa
    clear hqa HX
    refine (Ia.out _ _ _ _ hra (by simp; omega)).mono ?_; rw [HQa.out]; rintro e1 wa ⟨rfl, hba⟩
    clear q0 q1 q2 q3 q4 q5
    have hBa : Below w.heap.size w wa := ((Below.refl _ _).alloc (Nat.le_refl _) _).trans (hba.mono (by simp))
    obtain ⟨Bb, db, hrb, q0, q1, q2, q3, q4, q5⟩ := (hk.below hBa hhi).again hkb
    simp only [show 1 * 6 = 6 from rfl] at q0 q1 q2 q3 q4 q5
    go_wp2_with fail
    refine (Ib.out _ _ _ _ hrb (Nat.le_trans hhi hBa.size)).mono ?_; rintro e1 wb ⟨rfl, hbb⟩
    clear q0 q1 q2 q3 q4 q5
    go_wp2_with fail
    go_ret
    exact ⟨ret_bool HV.out.symm, hBa.trans (hbb.mono hBa.size)⟩
set_option maxRecDepth 100000 in
set_option maxHeartbeats 4000000 in
theorem canFail_11 (c : CoreT) (H : ∀ x ∈ c.kids, CanOk 17 failT x) (k : c.kind = 11) : CanOk 17 failT c := by
  intro x w lo hi hwk h hhi
  obtain ⟨A, cap, rfl, hk, hc1, hc2⟩ := h.form
  unfold maxLen at hc2
  have HC := Lib.hid (containsFunc_canFail failT c.kids (fun y hy => (H y hy).ask (hwk.kids y hy)))
  have HV := Lib.hid (fail_11 k)
  have HO := Lib.hid (fun ho => one_of hwk k ho)
  clear H
  have e28 : (c.kind == 28) = false := by simp; omega
  have e25 : (c.kind == 25) = false := by simp; omega
  have e12 : (c.kind == 12) = false := by simp; omega
  have e27 : (c.kind == 27) = false := by simp; omega
  have e15 : (c.kind == 15) = false := by simp; omega
  have e18 : (c.kind == 18) = false := by simp; omega
  have e19 : (c.kind == 19) = false := by simp; omega
  have e11 : (c.kind == 11) = true := by simp [k]
  clear k
  cases ha : c.kids.any failT with
  | true =>
    have HX := HV.out
    rw [ha] at HX
    clear HV
    have HV := Lib.hid HX
    have HA := Lib.hid ha
    clear ha HX
    go_enter Tryd.func17, Tryd.ntmps17
    go_wp2_with fail
    refine (HC.out _ _ _ _ (hk.alloc hhi _) (by simp; omega)).mono ?_; rw [HA.out]; rintro e1 w1 ⟨rfl, hb1⟩
    go_wp2_with fail
    go_ret
    exact ⟨ret_bool HV.out.symm, ((Below.refl _ _).alloc (Nat.le_refl _) _).trans (hb1.mono (by simp))⟩
  | false =>
    have HX := HV.out
    rw [ha] at HX
    clear HV
    have HV := Lib.hid HX
    have HA := Lib.hid ha
    clear ha HX
    by_cases hs : c.op = 60 ∨ 220 ≤ c.op
    · have hlt := HO.out hs
      obtain ⟨g, off, hA⟩ := hk.base hlt
      subst hA
      obtain ⟨a, hka⟩ : ∃ y, c.kids[0]? = some y := ⟨_, List.getElem?_eq_getElem hlt⟩
      have hla : (0 : Int) < (c.kids.length : Int) := by omega
      have hlb : 0 < c.kids.length := hlt
      have HSV := Lib.hid (sure_var hs hka)
      have HSO := Lib.hid (sureOp_no hs)
      by_cases v5 : a.kind = 5
      · have HR : Hid (failT c = false) := by show _ = _; rw [HV.out, HSV.out, v5]; rfl
        have y5 : (a.kind == 5) = true := by simp [v5]
        by_cases h60 : c.op = 60
        · have b60 : (c.op == 60) = true := by simp [h60]
          clear hs h60 v5
          go_enter Tryd.func17, Tryd.ntmps17
          go_wp2_with fail
          refine (HC.out _ _ _ _ (hk.alloc hhi _) (by simp; omega)).mono ?_; rw [HA.out]; rintro e1 w1 ⟨rfl, hb1⟩
          have hB1 : Below w.heap.size w w1 := ((Below.refl _ _).alloc (Nat.le_refl _) _).trans (hb1.mono (by simp))
          have cb := ((Blk.new w 29 #[.int .i64 c.kind, .int .i64 c.op, .int .i64 c.number, .int .i64 c.line, .string c.text, .slice (some ⟨g, off, none⟩) c.kids.length cap]).later hb1).cell
          obtain ⟨Ba, da, hra, q0, q1, q2, q3, q4, q5⟩ := (hk.below hB1 hhi).again hka
          simp only [Nat.zero_mul, Nat.add_zero] at q0 q1 q2 q3 q4 q5
          go_wp2_with fail
          refine (impl_neverFails c.op _).mono ?_; rw [HSO.out]; rintro e2 w2 ⟨rfl, rfl⟩
          go_wp2_with fail
          go_ret
          exact ⟨ret_bool HR.out.symm, hB1⟩
        · have b60 : (c.op == 60) = false := by simpa using h60
          have b220 : 220 ≤ c.op := by omega
          clear hs h60 v5
          go_enter Tryd.func17, Tryd.ntmps17
          go_wp2_with fail
          refine (HC.out _ _ _ _ (hk.alloc hhi _) (by simp; omega)).mono ?_; rw [HA.out]; rintro e1 w1 ⟨rfl, hb1⟩
          have hB1 : Below w.heap.size w w1 := ((Below.refl _ _).alloc (Nat.le_refl _) _).trans (hb1.mono (by simp))
          have cb := ((Blk.new w 29 #[.int .i64 c.kind, .int .i64 c.op, .int .i64 c.number, .int .i64 c.line, .string c.text, .slice (some ⟨g, off, none⟩) c.kids.length cap]).later hb1).cell
          obtain ⟨Ba, da, hra, q0, q1, q2, q3, q4, q5⟩ := (hk.below hB1 hhi).again hka
          simp only [Nat.zero_mul, Nat.add_zero] at q0 q1 q2 q3 q4 q5
          go_wp2_with fail
          refine (impl_neverFails c.op _).mono ?_; rw [HSO.out]; rintro e2 w2 ⟨rfl, rfl⟩
          go_wp2_with fail
          go_ret
          exact ⟨ret_bool HR.out.symm, hB1⟩
      by_cases v6 : a.kind = 6
      · have HR : Hid (failT c = false) := by show _ = _; rw [HV.out, HSV.out, v6]; rfl
        have y6 : (a.kind == 6) = true := by simp [v6]
        have y5 : (a.kind == 5) = false := by simpa using v5
        by_cases h60 : c.op = 60
        · have b60 : (c.op == 60) = true := by simp [h60]
          clear hs h60 v5 v6
          go_enter Tryd.func17, Tryd.ntmps17
          go_wp2_with fail
          refine (HC.out _ _ _ _ (hk.alloc hhi _) (by simp; omega)).mono ?_; rw [HA.out]; rintro e1 w1 ⟨rfl, hb1⟩
          have hB1 : Below w.heap.size w w1 := ((Below.refl _ _).alloc (Nat.le_refl _) _).trans (hb1.mono (by simp))
          have cb := ((Blk.new w 29 #[.int .i64 c.kind, .int .i64 c.op, .int .i64 c.number, .int .i64 c.line, .string c.text, .slice (some ⟨g, off, none⟩) c.kids.length cap]).later hb1).cell
          obtain ⟨Ba, da, hra, q0, q1, q2, q3, q4, q5⟩ := (hk.below hB1 hhi).again hka
          simp only [Nat.zero_mul, Nat.add_zero] at q0 q1 q2 q3 q4 q5
          go_wp2_with fail
          refine (impl_neverFails c.op _).mono ?_; rw [HSO.out]; rintro e2 w2 ⟨rfl, rfl⟩
          go_wp2_with fail
          go_ret
          exact ⟨ret_bool HR.out.symm, hB1⟩
        · have b60 : (c.op == 60) = false := by simpa using h60
          have b220 : 220 ≤ c.op := by omega
          clear hs h60 v5 v6
          go_enter Tryd.func17, Tryd.ntmps17
          go_wp2_with fail
          refine (HC.out _ _ _ _ (hk.alloc hhi _) (by simp; omega)).mono ?_; rw [HA.out]; rintro e1 w1 ⟨rfl, hb1⟩
          have hB1 : Below w.heap.size w w1 := ((Below.refl _ _).alloc (Nat.le_refl _) _).trans (hb1.mono (by simp))
          have cb := ((Blk.new w 29 #[.int .i64 c.kind, .int .i64 c.op, .int .i64 c.number, .int .i64 c.line, .string c.text, .slice (some ⟨g, off, none⟩) c.kids.length cap]).later hb1).cell
          obtain ⟨Ba, da, hra, q0, q1, q2, q3, q4, q5⟩ := (hk.below hB1 hhi).again hka
          simp only [Nat.zero_mul, Nat.add_zero] at q0 q1 q2 q3 q4 q5
          go_wp2_with fail
          refine (impl_neverFails c.op _).mono ?_; rw [HSO.out]; rintro e2 w2 ⟨rfl, rfl⟩
          go_wp2_with fail
          go_ret
          exact ⟨ret_bool HR.out.symm, hB1⟩
      · have HR : Hid (failT c = true) := by show _ = _; rw [HV.out, HSV.out, decide_eq_false (by omega)]; rfl
        have y5 : (a.kind == 5) = false := by simpa using v5
        have y6 : (a.kind == 6) = false := by simpa using v6
        by_cases h60 : c.op = 60
        · have b60 : (c.op == 60) = true := by simp [h60]
          clear hs h60 v5 v6
          go_enter Tryd.func17, Tryd.ntmps17
          go_wp2_with fail
          refine (HC.out _ _ _ _ (hk.alloc hhi _) (by simp; omega)).mono ?_; rw [HA.out]; rintro e1 w1 ⟨rfl, hb1⟩
          have hB1 : Below w.heap.size w w1 := ((Below.refl _ _).alloc (Nat.le_refl _) _).trans (hb1.mono (by simp))
          have cb := ((Blk.new w 29 #[.int .i64 c.kind, .int .i64 c.op, .int .i64 c.number, .int .i64 c.line, .string c.text, .slice (some ⟨g, off, none⟩) c.kids.length cap]).later hb1).cell
          obtain ⟨Ba, da, hra, q0, q1, q2, q3, q4, q5⟩ := (hk.below hB1 hhi).again hka
          simp only [Nat.zero_mul, Nat.add_zero] at q0 q1 q2 q3 q4 q5
          go_wp2_with fail
          refine (impl_neverFails c.op _).mono ?_; rw [HSO.out]; rintro e2 w2 ⟨rfl, rfl⟩
          go_wp2_with fail
          go_ret
          exact ⟨ret_bool HR.out.symm, hB1⟩
        · have b60 : (c.op == 60) = false := by simpa using h60
          have b220 : 220 ≤ c.op := by omega
          clear hs h60 v5 v6
          go_enter Tryd.func17, Tryd.ntmps17
          go_wp2_with fail
          refine (HC.out _ _ _ _ (hk.alloc hhi _) (by simp; omega)).mono ?_; rw [HA.out]; rintro e1 w1 ⟨rfl, hb1⟩
          have hB1 : Below w.heap.size w w1 := ((Below.refl _ _).alloc (Nat.le_refl _) _).trans (hb1.mono (by simp))
          have cb := ((Blk.new w 29 #[.int .i64 c.kind, .int .i64 c.op, .int .i64 c.number, .int .i64 c.line, .string c.text, .slice (some ⟨g, off, none⟩) c.kids.length cap]).later hb1).cell
          obtain ⟨Ba, da, hra, q0, q1, q2, q3, q4, q5⟩ := (hk.below hB1 hhi).again hka
          simp only [Nat.zero_mul, Nat.add_zero] at q0 q1 q2 q3 q4 q5
          go_wp2_with fail
          refine (impl_neverFails c.op _).mono ?_; rw [HSO.out]; rintro e2 w2 ⟨rfl, rfl⟩
          go_wp2_with fail
          go_ret
          exact ⟨ret_bool HR.out.symm, hB1⟩
    · have HSV := Lib.hid (sure_op hs)
      have b60 : (c.op == 60) = false := by simp; omega
      have b220 : ¬ 220 ≤ c.op := by omega
      have b221 : decide (220 ≤ c.op) = false := decide_eq_false b220
      clear hs
      cases hso : sureOp c.op with
      | true =>
        have HSO := Lib.hid hso
        have HR : Hid (failT c = false) := by show _ = _; rw [HV.out, HSV.out, hso]; rfl
        clear hso
        by_cases hlt : 0 < c.kids.length
        · obtain ⟨g, off, hA⟩ := hk.base hlt
          subst hA
          obtain ⟨a, hka⟩ : ∃ y, c.kids[0]? = some y := ⟨_, List.getElem?_eq_getElem hlt⟩
          have hla : (0 : Int) < (c.kids.length : Int) := by omega
          by_cases v5 : a.kind = 5
          · have y5 : (a.kind == 5) = true := by simp [v5]
            clear v5
            go_enter Tryd.func17, Tryd.ntmps17
            go_wp2_with fail
            refine (HC.out _ _ _ _ (hk.alloc hhi _) (by simp; omega)).mono ?_; rw [HA.out]; rintro e1 w1 ⟨rfl, hb1⟩
            have hB1 : Below w.heap.size w w1 := ((Below.refl _ _).alloc (Nat.le_refl _) _).trans (hb1.mono (by simp))
            have cb := ((Blk.new w 29 #[.int .i64 c.kind, .int .i64 c.op, .int .i64 c.number, .int .i64 c.line, .string c.text, .slice (some ⟨g, off, none⟩) c.kids.length cap]).later hb1).cell
            obtain ⟨Ba, da, hra, q0, q1, q2, q3, q4, q5⟩ := (hk.below hB1 hhi).again hka
            simp only [Nat.zero_mul, Nat.add_zero] at q0 q1 q2 q3 q4 q5
            go_wp2_with fail
            refine (impl_neverFails c.op _).mono ?_; rw [HSO.out]; rintro e2 w2 ⟨rfl, rfl⟩
            go_wp2_with fail
            go_ret
            exact ⟨ret_bool HR.out.symm, hB1⟩
          by_cases v6 : a.kind = 6
          · have y5 : (a.kind == 5) = false := by simpa using v5
            have y6 : (a.kind == 6) = true := by simp [v6]
            clear v5 v6
            go_enter Tryd.func17, Tryd.ntmps17
            go_wp2_with fail
            refine (HC.out _ _ _ _ (hk.alloc hhi _) (by simp; omega)).mono ?_; rw [HA.out]; rintro e1 w1 ⟨rfl, hb1⟩
            have hB1 : Below w.heap.size w w1 := ((Below.refl _ _).alloc (Nat.le_refl _) _).trans (hb1.mono (by simp))
            have cb := ((Blk.new w 29 #[.int .i64 c.kind, .int .i64 c.op, .int .i64 c.number, .int .i64 c.line, .string c.text, .slice (some ⟨g, off, none⟩) c.kids.length cap]).later hb1).cell
            obtain ⟨Ba, da, hra, q0, q1, q2, q3, q4, q5⟩ := (hk.below hB1 hhi).again hka
            simp only [Nat.zero_mul, Nat.add_zero] at q0 q1 q2 q3 q4 q5
            go_wp2_with fail
            refine (impl_neverFails c.op _).mono ?_; rw [HSO.out]; rintro e2 w2 ⟨rfl, rfl⟩
            go_wp2_with fail
            go_ret
            exact ⟨ret_bool HR.out.symm, hB1⟩
          have y5 : (a.kind == 5) = false := by simpa using v5
          have y6 : (a.kind == 6) = false := by simpa using v6
          clear v5 v6
          go_enter Tryd.func17, Tryd.ntmps17
          go_wp2_with fail
          refine (HC.out _ _ _ _ (hk.alloc hhi _) (by simp; omega)).mono ?_; rw [HA.out]; rintro e1 w1 ⟨rfl, hb1⟩
          have hB1 : Below w.heap.size w w1 := ((Below.refl _ _).alloc (Nat.le_refl _) _).trans (hb1.mono (by simp))
          have cb := ((Blk.new w 29 #[.int .i64 c.kind, .int .i64 c.op, .int .i64 c.number, .int .i64 c.line, .string c.text, .slice (some ⟨g, off, none⟩) c.kids.length cap]).later hb1).cell
          obtain ⟨Ba, da, hra, q0, q1, q2, q3, q4, q5⟩ := (hk.below hB1 hhi).again hka
          simp only [Nat.zero_mul, Nat.add_zero] at q0 q1 q2 q3 q4 q5
          go_wp2_with fail
          refine (impl_neverFails c.op _).mono ?_; rw [HSO.out]; rintro e2 w2 ⟨rfl, rfl⟩
          go_wp2_with fail
          go_ret
          exact ⟨ret_bool HR.out.symm, hB1⟩
        · have hla : ¬ (0 : Int) < (c.kids.length : Int) := by omega
          go_enter Tryd.func17, Tryd.ntmps17
          go_wp2_with fail
          refine (HC.out _ _ _ _ (hk.alloc hhi _) (by simp; omega)).mono ?_; rw [HA.out]; rintro e1 w1 ⟨rfl, hb1⟩
          have hB1 : Below w.heap.size w w1 := ((Below.refl _ _).alloc (Nat.le_refl _) _).trans (hb1.mono (by simp))
          have cb := ((Blk.new w 29 #[.int .i64 c.kind, .int .i64 c.op, .int .i64 c.number, .int .i64 c.line, .string c.text, .slice A c.kids.length cap]).later hb1).cell
          go_wp2_with fail
          refine (impl_neverFails c.op _).mono ?_; rw [HSO.out]; rintro e2 w2 ⟨rfl, rfl⟩
          go_wp2_with fail
          go_ret
          exact ⟨ret_bool HR.out.symm, hB1⟩
      | false =>
        have HSO := Lib.hid hso
        have HR : Hid (failT c = true) := by show _ = _; rw [HV.out, HSV.out, hso]; rfl
        clear hso
        by_cases hlt : 0 < c.kids.length
        · obtain ⟨g, off, hA⟩ := hk.base hlt
          subst hA
          obtain ⟨a, hka⟩ : ∃ y, c.kids[0]? = some y := ⟨_, List.getElem?_eq_getElem hlt⟩
          have hla : (0 : Int) < (c.kids.length : Int) := by omega
          by_cases v5 : a.kind = 5
          · have y5 : (a.kind == 5) = true := by simp [v5]
            clear v5
            go_enter Tryd.func17, Tryd.ntmps17
            go_wp2_with fail
            refine (HC.out _ _ _ _ (hk.alloc hhi _) (by simp; omega)).mono ?_; rw [HA.out]; rintro e1 w1 ⟨rfl, hb1⟩
            have hB1 : Below w.heap.size w w1 := ((Below.refl _ _).alloc (Nat.le_refl _) _).trans (hb1.mono (by simp))
            have cb := ((Blk.new w 29 #[.int .i64 c.kind, .int .i64 c.op, .int .i64 c.number, .int .i64 c.line, .string c.text, .slice (some ⟨g, off, none⟩) c.kids.length cap]).later hb1).cell
            obtain ⟨Ba, da, hra, q0, q1, q2, q3, q4, q5⟩ := (hk.below hB1 hhi).again hka
            simp only [Nat.zero_mul, Nat.add_zero] at q0 q1 q2 q3 q4 q5
            go_wp2_with fail
            refine (impl_neverFails c.op _).mono ?_; rw [HSO.out]; rintro e2 w2 ⟨rfl, rfl⟩
            go_wp2_with fail
            go_ret
            exact ⟨ret_bool HR.out.symm, hB1⟩
          by_cases v6 : a.kind = 6
          · have y5 : (a.kind == 5) = false := by simpa using v5
            have y6 : (a.kind == 6) = true := by simp [v6]
            clear v5 v6
            go_enter Tryd.func17, Tryd.ntmps17
            go_wp2_with fail
            refine (HC.out _ _ _ _ (hk.alloc hhi _) (by simp; omega)).mono ?_; rw [HA.out]; rintro e1 w1 ⟨rfl, hb1⟩
            have hB1 : Below w.heap.size w w1 := ((Below.refl _ _).alloc (Nat.le_refl _) _).trans (hb1.mono (by simp))
            have cb := ((Blk.new w 29 #[.int .i64 c.kind, .int .i64 c.op, .int .i64 c.number, .int .i64 c.line, .string c.text, .slice (some ⟨g, off, none⟩) c.kids.length cap]).later hb1).cell
            obtain ⟨Ba, da, hra, q0, q1, q2, q3, q4, q5⟩ := (hk.below hB1 hhi).again hka
            simp only [Nat.zero_mul, Nat.add_zero] at q0 q1 q2 q3 q4 q5
            go_wp2_with fail
            refine (impl_neverFails c.op _).mono ?_; rw [HSO.out]; rintro e2 w2 ⟨rfl, rfl⟩
            go_wp2_with fail
            go_ret
            exact ⟨ret_bool HR.out.symm, hB1⟩
          have y5 : (a.kind == 5) = false := by simpa using v5
          have y6 : (a.kind == 6) = false := by simpa using v6
          clear v5 v6
          go_enter Tryd.func17, Tryd.ntmps17
          go_wp2_with fail
          refine (HC.out _ _ _ _ (hk.alloc hhi _) (by simp; omega)).mono ?_; rw [HA.out]; rintro e1 w1 ⟨rfl, hb1⟩
          have hB1 : Below w.heap.size w w1 := ((Below.refl _ _).alloc (Nat.le_refl _) _).trans (hb1.mono (by simp))
          have cb := ((Blk.new w 29 #[.int .i64 c.kind, .int .i64 c.op, .int .i64 c.number, .int .i64 c.line, .string c.text, .slice (some ⟨g, off, none⟩) c.kids.length cap]).later hb1).cell
          obtain ⟨Ba, da, hra, q0, q1, q2, q3, q4, q5⟩ := (hk.below hB1 hhi).again hka
          simp only [Nat.zero_mul, Nat.add_zero] at q0 q1 q2 q3 q4 q5
          go_wp2_with fail
          refine (impl_neverFails c.op _).mono ?_; rw [HSO.out]; rintro e2 w2 ⟨rfl, rfl⟩
          go_wp2_with fail
          go_ret
          exact ⟨ret_bool HR.out.symm, hB1⟩
        · have hla : ¬ (0 : Int) < (c.kids.length : Int) := by omega
          go_enter Tryd.func17, Tryd.ntmps17
          go_wp2_with fail
          refine (HC.out _ _ _ _ (hk.alloc hhi _) (by simp; omega)).mono ?_; rw [HA.out]; rintro e1 w1 ⟨rfl, hb1⟩
          have hB1 : Below w.heap.size w w1 := ((Below.refl _ _).alloc (Nat.le_refl _) _).trans (hb1.mono (by simp))
          have cb := ((Blk.new w 29 #[.int .i64 c.kind, .int .i64 c.op, .int .i64 c.number, .int .i64 c.line, .string c.text, .slice A c.kids.length cap]).later hb1).cell
          go_wp2_with fail
          refine (impl_neverFails c.op _).mono ?_; rw [HSO.out]; rintro e2 w2 ⟨rfl, rfl⟩
          go_wp2_with fail
          go_ret
          exact ⟨ret_bool HR.out.symm, hB1⟩
theorem canFail_of (c : CoreT) (H : ∀ x ∈ c.kids, CanOk 17 failT x) : CanOk 17 failT c := by
  by_cases k11 : c.kind = 11
  · exact canFail_11 c H k11
  by_cases k12 : c.kind = 12
  · exact canFail_12 c H k12
  by_cases k13 : c.kind = 13
  · exact canFail_13 c H k13
  by_cases k14 : c.kind = 14
  · exact canFail_14 c H k14
  by_cases k15 : c.kind = 15
  · exact canFail_15 c H k15
  by_cases k16 : c.kind = 16
  · exact canFail_16 c H k16
  by_cases k17 : c.kind = 17
  · exact canFail_17 c H k17
  by_cases k18 : c.kind = 18
  · exact canFail_18 c H k18
  by_cases k19 : c.kind = 19
  · exact canFail_19 c H k19
  by_cases k22 : c.kind = 22
  · exact canFail_22 c H k22
  by_cases k25 : c.kind = 25
  · exact canFail_25 c H k25
  by_cases k27 : c.kind = 27
  · exact canFail_27 c H k27
  by_cases k28 : c.kind = 28
  · exact canFail_28 c H k28
  exact canFail_no c H (by omega)
theorem impl_canFail (c : CoreT) : CanOk 17 failT c := CoreT.ind canFail_of c
end Go.Proofs.YtppdelelgkepaaaDoor
