/- slices.ContainsFunc over trees, at a function whose contract is known; hasBreak of the program, l33Breaks of the reference. -/
import Derived.Test.YtppdelelgkepaaaDoorCoreTo
namespace Go.Proofs.YtppdelelgkepaaaDoor
open Go.RowKit

/-- the function F answers q at trees like c -/
def AskOk (F : Nat) (q : CoreT → Bool) (c : CoreT) : Prop := ∀ (x : Value) (w : World) (lo hi : Nat), CRep w lo hi x c → hi ≤ w.heap.size →
  Calls Tryd.prog F #[x] w fun e w' => e = .returned (.bool (q c)) ∧ Below w.heap.size w w'
/-- the first index at which q says yes, or -1 -/
def firstAt (q : CoreT → Bool) (l : List CoreT) : Int := if l.any q then (l.findIdx q : Int) else -1
theorem firstAt_no {q : CoreT → Bool} {l : List CoreT} (h : l.any q = false) : firstAt q l = -1 := by simp [firstAt, h]
theorem firstAt_sign (q : CoreT → Bool) (l : List CoreT) : decide (0 ≤ firstAt q l) = l.any q := by
  unfold firstAt
  split
  · rename_i h; rw [h]; simp
  · rename_i h; rw [Bool.eq_false_iff.2 h]; rfl
theorem any_take_snoc {q : CoreT → Bool} {l : List CoreT} {j : Nat} {c : CoreT} (h : l[j]? = some c) : (l.take (j + 1)).any q = ((l.take j).any q || q c) := by
  rw [take_snoc_of h]; simp
theorem firstAt_yes {q : CoreT → Bool} {l : List CoreT} {k : Nat} {c : CoreT} (h : l[k]? = some c) (hn : (l.take k).any q = false) (hq : q c = true) : firstAt q l = k := by
  obtain ⟨hk, rfl⟩ := List.getElem?_eq_some_iff.1 h
  have ha : l.any q = true := List.any_eq_true.2 ⟨_, List.getElem_mem hk, hq⟩
  rw [firstAt, if_pos ha]
  congr 1
  rw [List.findIdx_eq hk]
  refine ⟨hq, fun j hj => ?_⟩
  have := List.any_eq_false.1 hn (l[j]'(by omega)) (by rw [List.mem_take_iff_getElem]; exact ⟨j, by omega, rfl⟩)
  simpa using this

set_option maxRecDepth 100000 in
set_option maxHeartbeats 1000000 in
theorem indexFunc_hasBreak (q : CoreT → Bool) (l : List CoreT) (H : ∀ c ∈ l, AskOk 32 q c) (v : Value) (w : World) (lo hi : Nat) (h : KRep w lo hi v l) (hhi : hi ≤ w.heap.size) :
    Calls Tryd.prog 42 #[v, .func (.func 32) #[] #[]] w fun e w' => e = .returned (.int .i64 (firstAt q l)) ∧ Below w.heap.size w w' := by
  obtain ⟨A, c, rfl, hc1, hc2⟩ := h.shape
  unfold maxLen at hc2
  have HH := Lib.hid H
  clear H
  go_enter Tryd.func42, Tryd.ntmps42
  go_wp2_with fail
  go_loopw [8] (fun i wr => ∃ k : Nat, k ≤ l.length ∧ i = .int .i64 k ∧ Hid ((l.take k).any q = false) ∧ Below w.heap.size w wr) (fun i _ => l.length - (intOf i).toNat)
  case atStart => exact ⟨0, Nat.zero_le _, rfl, by simp [Hid], Below.refl _ _⟩
  case round =>
    obtain ⟨k, hk, rfl, hno, hb⟩ := hrel
    obtain ⟨wo, rfl⟩ : ∃ wo : World, wo = wr := ⟨_, rfl⟩
    have hz := hb.size
    by_cases hlt : k < l.length
    · obtain ⟨g, off, kd, B, d, rfl, hg1, hg2, hkd, hmem, hrep, c0, c1, c2, c3, c4, c5⟩ := (h.below hb hhi).kid hlt
      have HS := Lib.hid (HH.out kd hmem)
      cases hq : q kd with
      | true =>
        have HF := Lib.hid (firstAt_yes hkd hno.out hq)
        have HQ := Lib.hid hq
        clear hkd hq hno
        go_wp2_with fail
        refine (HS.out _ _ _ _ hrep (by omega)).mono ?_
        rw [HQ.out]
        rintro e w1 ⟨rfl, hb1⟩
        go_wp2_with fail
        go_ret
        exact ⟨ret_int HF.out.symm, hb.trans (hb1.mono hz)⟩
      | false =>
        have HN : Hid ((l.take (k + 1)).any q = false) := by show _ = _; rw [any_take_snoc hkd, hno.out, hq]; rfl
        have HQ := Lib.hid hq
        clear hkd hq hno
        go_wp2_with fail
        refine (HS.out _ _ _ _ hrep (by omega)).mono ?_
        rw [HQ.out]
        rintro e w1 ⟨rfl, hb1⟩
        have hb2 := hb.trans (hb1.mono hz)
        clear c0 c1 c2 c3 c4 c5 hrep hb1
        go_wp2_with fail
        go_roundw
        case rel => exact ⟨k + 1, by omega, by go_num, HN, hb2⟩
        case measure => simp [intOf]; omega
    · obtain rfl : k = l.length := by omega
      rw [List.take_length] at hno
      have HF := Lib.hid (firstAt_no hno.out)
      clear hno
      go_wp2_with fail
      go_ret
      exact ⟨ret_int HF.out.symm, hb⟩
set_option maxRecDepth 100000 in
theorem containsFunc_hasBreak (q : CoreT → Bool) (l : List CoreT) (H : ∀ c ∈ l, AskOk 32 q c) (v : Value) (w : World) (lo hi : Nat) (h : KRep w lo hi v l) (hhi : hi ≤ w.heap.size) :
    Calls Tryd.prog 29 #[v, .func (.func 32) #[] #[]] w fun e w' => e = .returned (.bool (l.any q)) ∧ Below w.heap.size w w' := by
  have HC := Lib.hid (indexFunc_hasBreak q l H v w lo hi h hhi)
  have HS := Lib.hid (firstAt_sign q l)
  obtain ⟨A, c, rfl, hc1, hc2⟩ := h.shape
  clear H h
  generalize firstAt q l = n at *
  go_enter Tryd.func29, Tryd.ntmps29
  go_wp2_with fail
  refine HC.out.mono ?_; rintro e w1 ⟨rfl, hb⟩
  go_wp2_with fail
  go_ret
  exact ⟨ret_bool HS.out, hb⟩

set_option maxRecDepth 100000 in
set_option maxHeartbeats 1000000 in
theorem indexFunc_canFail (q : CoreT → Bool) (l : List CoreT) (H : ∀ c ∈ l, AskOk 17 q c) (v : Value) (w : World) (lo hi : Nat) (h : KRep w lo hi v l) (hhi : hi ≤ w.heap.size) :
    Calls Tryd.prog 42 #[v, .func (.func 17) #[] #[]] w fun e w' => e = .returned (.int .i64 (firstAt q l)) ∧ Below w.heap.size w w' := by
  obtain ⟨A, c, rfl, hc1, hc2⟩ := h.shape
  unfold maxLen at hc2
  have HH := Lib.hid H
  clear H
  go_enter Tryd.func42, Tryd.ntmps42
  go_wp2_with fail
  go_loopw [8] (fun i wr => ∃ k : Nat, k ≤ l.length ∧ i = .int .i64 k ∧ Hid ((l.take k).any q = false) ∧ Below w.heap.size w wr) (fun i _ => l.length - (intOf i).toNat)
  case atStart => exact ⟨0, Nat.zero_le _, rfl, by simp [Hid], Below.refl _ _⟩
  case round =>
    obtain ⟨k, hk, rfl, hno, hb⟩ := hrel
    obtain ⟨wo, rfl⟩ : ∃ wo : World, wo = wr := ⟨_, rfl⟩
    have hz := hb.size
    by_cases hlt : k < l.length
    · obtain ⟨g, off, kd, B, d, rfl, hg1, hg2, hkd, hmem, hrep, c0, c1, c2, c3, c4, c5⟩ := (h.below hb hhi).kid hlt
      have HS := Lib.hid (HH.out kd hmem)
      cases hq : q kd with
      | true =>
        have HF := Lib.hid (firstAt_yes hkd hno.out hq)
        have HQ := Lib.hid hq
        clear hkd hq hno
        go_wp2_with fail
        refine (HS.out _ _ _ _ hrep (by omega)).mono ?_
        rw [HQ.out]
        rintro e w1 ⟨rfl, hb1⟩
        go_wp2_with fail
        go_ret
        exact ⟨ret_int HF.out.symm, hb.trans (hb1.mono hz)⟩
      | false =>
        have HN : Hid ((l.take (k + 1)).any q = false) := by show _ = _; rw [any_take_snoc hkd, hno.out, hq]; rfl
        have HQ := Lib.hid hq
        clear hkd hq hno
        go_wp2_with fail
        refine (HS.out _ _ _ _ hrep (by omega)).mono ?_
        rw [HQ.out]
        rintro e w1 ⟨rfl, hb1⟩
        have hb2 := hb.trans (hb1.mono hz)
        clear c0 c1 c2 c3 c4 c5 hrep hb1
        go_wp2_with fail
        go_roundw
        case rel => exact ⟨k + 1, by omega, by go_num, HN, hb2⟩
        case measure => simp [intOf]; omega
    · obtain rfl : k = l.length := by omega
      rw [List.take_length] at hno
      have HF := Lib.hid (firstAt_no hno.out)
      clear hno
      go_wp2_with fail
      go_ret
      exact ⟨ret_int HF.out.symm, hb⟩
set_option maxRecDepth 100000 in
theorem containsFunc_canFail (q : CoreT → Bool) (l : List CoreT) (H : ∀ c ∈ l, AskOk 17 q c) (v : Value) (w : World) (lo hi : Nat) (h : KRep w lo hi v l) (hhi : hi ≤ w.heap.size) :
    Calls Tryd.prog 29 #[v, .func (.func 17) #[] #[]] w fun e w' => e = .returned (.bool (l.any q)) ∧ Below w.heap.size w w' := by
  have HC := Lib.hid (indexFunc_canFail q l H v w lo hi h hhi)
  have HS := Lib.hid (firstAt_sign q l)
  obtain ⟨A, c, rfl, hc1, hc2⟩ := h.shape
  clear H h
  generalize firstAt q l = n at *
  go_enter Tryd.func29, Tryd.ntmps29
  go_wp2_with fail
  refine HC.out.mono ?_; rintro e w1 ⟨rfl, hb⟩
  go_wp2_with fail
  go_ret
  exact ⟨ret_bool HS.out, hb⟩

set_option maxRecDepth 100000 in
set_option maxHeartbeats 1000000 in
theorem indexFunc_canResume (q : CoreT → Bool) (l : List CoreT) (H : ∀ c ∈ l, AskOk 19 q c) (v : Value) (w : World) (lo hi : Nat) (h : KRep w lo hi v l) (hhi : hi ≤ w.heap.size) :
    Calls Tryd.prog 42 #[v, .func (.func 19) #[] #[]] w fun e w' => e = .returned (.int .i64 (firstAt q l)) ∧ Below w.heap.size w w' := by
  obtain ⟨A, c, rfl, hc1, hc2⟩ := h.shape
  unfold maxLen at hc2
  have HH := Lib.hid H
  clear H
  go_enter Tryd.func42, Tryd.ntmps42
  go_wp2_with fail
  go_loopw [8] (fun i wr => ∃ k : Nat, k ≤ l.length ∧ i = .int .i64 k ∧ Hid ((l.take k).any q = false) ∧ Below w.heap.size w wr) (fun i _ => l.length - (intOf i).toNat)
  case atStart => exact ⟨0, Nat.zero_le _, rfl, by simp [Hid], Below.refl _ _⟩
  case round =>
    obtain ⟨k, hk, rfl, hno, hb⟩ := hrel
    obtain ⟨wo, rfl⟩ : ∃ wo : World, wo = wr := ⟨_, rfl⟩
    have hz := hb.size
    by_cases hlt : k < l.length
    · obtain ⟨g, off, kd, B, d, rfl, hg1, hg2, hkd, hmem, hrep, c0, c1, c2, c3, c4, c5⟩ := (h.below hb hhi).kid hlt
      have HS := Lib.hid (HH.out kd hmem)
      cases hq : q kd with
      | true =>
        have HF := Lib.hid (firstAt_yes hkd hno.out hq)
        have HQ := Lib.hid hq
        clear hkd hq hno
        go_wp2_with fail
        refine (HS.out _ _ _ _ hrep (by omega)).mono ?_
        rw [HQ.out]
        rintro e w1 ⟨rfl, hb1⟩
        go_wp2_with fail
        go_ret
        exact ⟨ret_int HF.out.symm, hb.trans (hb1.mono hz)⟩
      | false =>
        have HN : Hid ((l.take (k + 1)).any q = false) := by show _ = _; rw [any_take_snoc hkd, hno.out, hq]; rfl
        have HQ := Lib.hid hq
        clear hkd hq hno
        go_wp2_with fail
        refine (HS.out _ _ _ _ hrep (by omega)).mono ?_
        rw [HQ.out]
        rintro e w1 ⟨rfl, hb1⟩
        have hb2 := hb.trans (hb1.mono hz)
        clear c0 c1 c2 c3 c4 c5 hrep hb1
        go_wp2_with fail
        go_roundw
        case rel => exact ⟨k + 1, by omega, by go_num, HN, hb2⟩
        case measure => simp [intOf]; omega
    · obtain rfl : k = l.length := by omega
      rw [List.take_length] at hno
      have HF := Lib.hid (firstAt_no hno.out)
      clear hno
      go_wp2_with fail
      go_ret
      exact ⟨ret_int HF.out.symm, hb⟩
set_option maxRecDepth 100000 in
theorem containsFunc_canResume (q : CoreT → Bool) (l : List CoreT) (H : ∀ c ∈ l, AskOk 19 q c) (v : Value) (w : World) (lo hi : Nat) (h : KRep w lo hi v l) (hhi : hi ≤ w.heap.size) :
    Calls Tryd.prog 29 #[v, .func (.func 19) #[] #[]] w fun e w' => e = .returned (.bool (l.any q)) ∧ Below w.heap.size w w' := by
  have HC := Lib.hid (indexFunc_canResume q l H v w lo hi h hhi)
  have HS := Lib.hid (firstAt_sign q l)
  obtain ⟨A, c, rfl, hc1, hc2⟩ := h.shape
  clear H h
  generalize firstAt q l = n at *
  go_enter Tryd.func29, Tryd.ntmps29
  go_wp2_with fail
  refine HC.out.mono ?_; rintro e w1 ⟨rfl, hb⟩
  go_wp2_with fail
  go_ret
  exact ⟨ret_bool HS.out, hb⟩

mutual
def CoreT.brk : CoreT → Bool
  | .mk k _ _ _ _ kids => k == 20 || brkL kids
def brkL : List CoreT → Bool
  | [] => false
  | c :: cs => c.brk || brkL cs
end
theorem brkL_any (l : List CoreT) : brkL l = l.any CoreT.brk := by
  induction l with
  | nil => simp [brkL]
  | cons c l ih => simp [brkL, ih]
theorem CoreT.brk_eq (c : CoreT) : c.brk = (c.kind == 20 || c.kids.any CoreT.brk) := by cases c; simp only [CoreT.brk, CoreT.kind, CoreT.kids, brkL_any]
set_option maxRecDepth 100000 in
theorem impl_hasBreak_of (c : CoreT) (H : ∀ x ∈ c.kids, AskOk 32 CoreT.brk x) : AskOk 32 CoreT.brk c := by
  intro x w lo hi h hhi
  obtain ⟨A, cap, rfl, hk, -, -⟩ := h.form
  have HC := Lib.hid (containsFunc_hasBreak _ c.kids H)
  have HB := Lib.hid c.brk_eq
  clear H h
  by_cases h20 : c.kind = 20
  · have b : (c.kind == 20) = true := beq_iff_eq.2 h20
    have HT : Hid (c.brk = true) := by show _ = _; rw [HB.out, b]; rfl
    clear h20
    go_enter Tryd.func32, Tryd.ntmps32
    go_wp2_with fail
    go_ret
    exact ⟨ret_bool HT.out.symm, (Below.refl _ _).alloc (Nat.le_refl _) _⟩
  · have b : (c.kind == 20) = false := beq_eq_false_iff_ne.2 h20
    have HT : Hid (c.brk = c.kids.any CoreT.brk) := by show _ = _; rw [HB.out, b]; rfl
    clear h20
    go_enter Tryd.func32, Tryd.ntmps32
    go_wp2_with fail
    refine (HC.out _ _ _ _ (hk.alloc hhi _) (by simp; omega)).mono ?_; rintro e w1 ⟨rfl, hb1⟩
    go_wp2_with fail
    go_ret
    exact ⟨ret_bool HT.out.symm, ((Below.refl _ _).alloc (Nat.le_refl _) _).trans (hb1.mono (by simp))⟩
theorem impl_hasBreak (c : CoreT) : AskOk 32 CoreT.brk c := CoreT.ind impl_hasBreak_of c
end Go.Proofs.YtppdelelgkepaaaDoor
