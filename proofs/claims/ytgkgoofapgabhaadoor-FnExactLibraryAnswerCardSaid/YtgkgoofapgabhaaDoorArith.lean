/- ArithmeticOf: the plain functions of the reader of sums, terms and factors, and the methods of the program's calculator. -/
import Derived.Test.YtgkgoofapgabhaaDoorProg
import Derived.Test.YtgkgoofapgabhaaDoorIntText
import Derived.Test.YtgkgoofapgabhaaDoorQueens
namespace Go.Proofs.YtgkgoofapgabhaaDoor
open Go.RowKit

def digEnd (s : ByteArray) : Nat → Nat → Nat
  | 0, i => i
  | f + 1, i => if i < s.size ∧ 48 ≤ byteAt s i ∧ byteAt s i ≤ 57 then digEnd s f (i + 1) else i
def digTo (s : ByteArray) (i : Nat) : Nat := digEnd s (s.size - i) i
def factorW (sumW : Nat → Option (Int × Nat)) (s : ByteArray) (i : Nat) : Option (Int × Nat) :=
  if i < s.size ∧ byteAt s i = 40 then
    match sumW (i + 1) with
    | some (v, a) => if a < s.size ∧ byteAt s a = 41 then some (v, a + 1) else none
    | none => none
  else match integerOfText (s.extract i (digTo s i)) with
    | some v => some (v, digTo s i)
    | none => none
def termLoop (fac : Nat → Option (Int × Nat)) (s : ByteArray) : Nat → Int → Nat → Option (Int × Nat)
  | 0, v, a => some (v, a)
  | k + 1, v, a => if a < s.size ∧ byteAt s a = 42 then
      match fac (a + 1) with
      | none => some (v, a)
      | some (x, n) => if (v * x).natAbs ≤ 999999999999 then termLoop fac s k (v * x) n else none
    else some (v, a)
def termW (fac : Nat → Option (Int × Nat)) (s : ByteArray) (i : Nat) : Option (Int × Nat) :=
  match fac i with
  | none => none
  | some (v, a) => termLoop fac s (s.size + 1) v a
def addB (minus : Bool) (v x : Int) : Int := if minus then v - x else v + x
def sumLoop (ter : Nat → Option (Int × Nat)) (s : ByteArray) : Nat → Int → Nat → Option (Int × Nat)
  | 0, v, a => some (v, a)
  | k + 1, v, a => if a < s.size ∧ (byteAt s a = 43 ∨ byteAt s a = 45) then
      match ter (a + 1) with
      | none => some (v, a)
      | some (x, n) => if (addB (byteAt s a == 45) v x).natAbs ≤ 999999999999 then sumLoop ter s k (addB (byteAt s a == 45) v x) n else none
    else some (v, a)
def sumW (ter : Nat → Option (Int × Nat)) (s : ByteArray) (i : Nat) : Option (Int × Nat) :=
  match ter i with
  | none => none
  | some (v, a) => sumLoop ter s (s.size + 1) v a
def sumF (s : ByteArray) : Nat → Nat → Option (Int × Nat)
  | 0, _ => none
  | f + 1, i => sumW (termW (factorW (sumF s f) s) s) s i
def arithmeticOf (s : ByteArray) : Option Int :=
  if 12 < s.size then none else match sumF s (s.size + 1) 0 with
    | some (v, a) => if a = s.size then some v else none
    | none => none

/-- what a reader from i on hands back lies in the text and is a number of the language -/
def GoodR (s : ByteArray) (i : Nat) (r : Option (Int × Nat)) : Prop := ∀ v a, r = some (v, a) → i ≤ a ∧ a ≤ s.size ∧ v.natAbs ≤ 999999999999

theorem digEnd_bd (s : ByteArray) : ∀ f i, i + f ≤ s.size → i ≤ digEnd s f i ∧ digEnd s f i ≤ i + f := by
  intro f
  induction f with
  | zero => intro i _; simp [digEnd]
  | succ f ih =>
    intro i h
    rw [digEnd]
    split
    · have := ih (i + 1) (by omega); omega
    · omega
theorem digTo_bd (s : ByteArray) (i : Nat) (h : i ≤ s.size) : i ≤ digTo s i ∧ digTo s i ≤ s.size := by
  have := digEnd_bd s (s.size - i) i (by omega)
  unfold digTo; omega
theorem digVal_bd (s : ByteArray) : ∀ f i acc n j, digVal s f i acc = some n → 0 ≤ acc → acc < 10 ^ j → 0 ≤ n ∧ n < 10 ^ (j + f) := by
  intro f
  induction f with
  | zero => intro i acc n j h h0 h1; simp [digVal] at h; subst h; exact ⟨h0, h1⟩
  | succ f ih =>
    intro i acc n j h h0 h1
    rw [digVal] at h
    split at h
    · have hp := pow10_succ j
      have := ih _ _ _ (j + 1) h (by omega) (by rw [hp]; omega)
      rw [show j + (f + 1) = j + 1 + f by omega]; exact this
    · cases h
theorem intRest_bd {s : ByteArray} {z b : Nat} {m : Bool} {n : Int} (h : intRest s z b m = some n) : n.natAbs ≤ 999999999999 := by
  rw [intRest] at h
  split at h
  · cases h
  · rename_i hc
    cases hd : digVal s (z - b) b 0 with
    | none => rw [hd] at h; cases h
    | some k =>
      rw [hd] at h
      have hb := digVal_bd s _ _ _ _ 0 hd (by omega) (by decide)
      have hp := pow10 (0 + (z - b)) (by omega)
      simp at h
      split at h <;> omega
theorem integerOfText_bd {s : ByteArray} {n : Int} (h : integerOfText s = some n) : n.natAbs ≤ 999999999999 := by
  unfold integerOfText at h
  dsimp only at h
  split at h
  · exact intRest_bd h
  · split at h <;> exact intRest_bd h
theorem factorW_good {sw : Nat → Option (Int × Nat)} {s : ByteArray} {i : Nat} (hi : i ≤ s.size) (h : i < s.size → GoodR s (i + 1) (sw (i + 1))) : GoodR s i (factorW sw s i) := by
  intro v a hv
  rw [factorW] at hv
  split at hv
  · rename_i hlt
    split at hv
    · rename_i heq
      split at hv
      · injection hv with hv; injection hv with e1 e2
        have := h hlt.1 _ _ heq
        subst e1 e2
        omega
      · cases hv
    · cases hv
  · split at hv
    · rename_i heq
      injection hv with hv; injection hv with e1 e2
      subst e1 e2
      have := digTo_bd s i hi
      exact ⟨this.1, this.2, integerOfText_bd heq⟩
    · cases hv
theorem termLoop_good {fac : Nat → Option (Int × Nat)} {s : ByteArray} (h : ∀ i, i ≤ s.size → GoodR s i (fac i)) (i : Nat) : ∀ k v a, i ≤ a → a ≤ s.size → v.natAbs ≤ 999999999999 → GoodR s i (termLoop fac s k v a) := by
  intro k
  induction k with
  | zero => intro v a h1 h2 h3 x b hx; simp [termLoop] at hx; obtain ⟨rfl, rfl⟩ := hx; exact ⟨h1, h2, h3⟩
  | succ k ih =>
    intro v a h1 h2 h3 x b hx
    rw [termLoop] at hx
    split at hx
    · rename_i hc
      split at hx
      · injection hx with hx; injection hx with e1 e2; subst e1 e2; exact ⟨h1, h2, h3⟩
      · rename_i y n heq
        have hg := h (a + 1) (by omega) _ _ heq
        split at hx
        · exact ih _ _ (by omega) (by omega) (by assumption) _ _ hx
        · cases hx
    · injection hx with hx; injection hx with e1 e2; subst e1 e2; exact ⟨h1, h2, h3⟩
theorem termW_good {fac : Nat → Option (Int × Nat)} {s : ByteArray} (h : ∀ i, i ≤ s.size → GoodR s i (fac i)) (i : Nat) (hi : i ≤ s.size) : GoodR s i (termW fac s i) := by
  intro v a hv
  rw [termW] at hv
  split at hv
  · cases hv
  · rename_i heq
    have := h i hi _ _ heq
    exact termLoop_good h i _ _ _ this.1 this.2.1 this.2.2 _ _ hv
theorem sumLoop_good {ter : Nat → Option (Int × Nat)} {s : ByteArray} (h : ∀ i, i ≤ s.size → GoodR s i (ter i)) (i : Nat) : ∀ k v a, i ≤ a → a ≤ s.size → v.natAbs ≤ 999999999999 → GoodR s i (sumLoop ter s k v a) := by
  intro k
  induction k with
  | zero => intro v a h1 h2 h3 x b hx; simp [sumLoop] at hx; obtain ⟨rfl, rfl⟩ := hx; exact ⟨h1, h2, h3⟩
  | succ k ih =>
    intro v a h1 h2 h3 x b hx
    rw [sumLoop] at hx
    split at hx
    · rename_i hc
      split at hx
      · injection hx with hx; injection hx with e1 e2; subst e1 e2; exact ⟨h1, h2, h3⟩
      · rename_i y n heq
        have hg := h (a + 1) (by omega) _ _ heq
        split at hx
        · exact ih _ _ (by omega) (by omega) (by assumption) _ _ hx
        · cases hx
    · injection hx with hx; injection hx with e1 e2; subst e1 e2; exact ⟨h1, h2, h3⟩
theorem sumW_good {ter : Nat → Option (Int × Nat)} {s : ByteArray} (h : ∀ i, i ≤ s.size → GoodR s i (ter i)) (i : Nat) (hi : i ≤ s.size) : GoodR s i (sumW ter s i) := by
  intro v a hv
  rw [sumW] at hv
  split at hv
  · cases hv
  · rename_i heq
    have := h i hi _ _ heq
    exact sumLoop_good h i _ _ _ this.1 this.2.1 this.2.2 _ _ hv
theorem sumF_good (s : ByteArray) : ∀ f i, i ≤ s.size → GoodR s i (sumF s f i) := by
  intro f
  induction f with
  | zero => intro i _ v a h; simp [sumF] at h
  | succ f ih =>
    intro i hi
    exact sumW_good (fun j hj => termW_good (fun k hk => factorW_good hk (fun hlt => ih (k + 1) (by omega))) j hj) i hi
theorem facF_good (s : ByteArray) (f i : Nat) (hi : i ≤ s.size) : GoodR s i (factorW (sumF s f) s i) := factorW_good hi fun _ => sumF_good s f (i + 1) (by omega)
theorem terF_good (s : ByteArray) (f i : Nat) (hi : i ≤ s.size) : GoodR s i (termW (factorW (sumF s f) s) s i) := termW_good (fun j hj => facF_good s f j hj) i hi

theorem digEnd_yes {s : ByteArray} {i k : Nat} (h : digTo s i = digEnd s (s.size - k) k) (hk : k < s.size) (h1 : 48 ≤ byteAt s k) (h2 : byteAt s k ≤ 57) : digTo s i = digEnd s (s.size - (k + 1)) (k + 1) := by
  rw [h, show s.size - k = (s.size - (k + 1)) + 1 by omega, digEnd, if_pos ⟨hk, h1, h2⟩]
theorem digEnd_no {s : ByteArray} {i k : Nat} (h : digTo s i = digEnd s (s.size - k) k) (hb : ¬ (k < s.size ∧ 48 ≤ byteAt s k ∧ byteAt s k ≤ 57)) : digTo s i = k := by
  rw [h]
  cases hz : s.size - k with
  | zero => rfl
  | succ n => rw [digEnd, if_neg hb]

/-- the reference's answers -/
def specR : Option (Int × Nat) → Value
  | some (v, a) => .tuple #[.int .i64 v, .int .i64 a]
  | none => .tuple #[.int .i64 0, .int .i64 (-1)]
theorem spec_none {r : Option (Int × Nat)} (h : r = none) : Ending.returned (.tuple #[.int .i64 0, .int .i64 (-1)]) = .returned (specR r) := by rw [h]; rfl
theorem spec_some {r : Option (Int × Nat)} {v : Int} {a : Nat} {b : Int} (h : r = some (v, a)) (hb : b = a) : Ending.returned (.tuple #[.int .i64 v, .int .i64 b]) = .returned (specR r) := by rw [h, hb]; rfl

theorem spec_l15Abs (x : Int) (w : World) (h0 : -1000000000000000000 ≤ x) (h1 : x ≤ 1000000000000000000) :
    Calls Tryd.prog 125 #[.int .i64 x] w fun e w' => e = .returned (.int .i64 (x.natAbs : Int)) ∧ w = w' := by
  by_cases hx : x < 0
  · go_enter Tryd.func125, Tryd.ntmps125
    go_wp2
    go_ret
    exact ⟨ret_int (by omega), rfl⟩
  · go_enter Tryd.func125, Tryd.ntmps125
    go_wp2
    go_ret
    exact ⟨ret_int (by omega), rfl⟩

/-- a result in range and no fault, or the fault 203 -/
def compR (n : Int) : Value := if n.natAbs ≤ 999999999999 then .tuple #[.int .i64 n, .int .i64 0] else .tuple #[.int .i64 0, .int .i64 203]
theorem comp_yes {n m : Int} (h : m.natAbs ≤ 999999999999) (e : n = m) : Ending.returned (.tuple #[.int .i64 n, .int .i64 0]) = .returned (compR m) := by rw [compR, if_pos h, e]
theorem comp_no {m : Int} (h : ¬ m.natAbs ≤ 999999999999) : Ending.returned (.tuple #[.int .i64 0, .int .i64 203]) = .returned (compR m) := by rw [compR, if_neg h]

set_option maxRecDepth 100000 in
theorem spec_compute_add (a b : Int) (w : World) (ha : a.natAbs ≤ 999999999999) (hb : b.natAbs ≤ 999999999999) :
    Calls Tryd.prog 102 #[.int .i64 20, .int .i64 a, .int .i64 b] w fun e w' => e = .returned (compR (a + b)) ∧ w = w' := by
  have a0 : -999999999999 ≤ a := by omega
  have a1 : a ≤ 999999999999 := by omega
  have b0 : -999999999999 ≤ b := by omega
  have b1 : b ≤ 999999999999 := by omega
  by_cases h1 : a + b ≤ 999999999999
  · by_cases h2 : -999999999999 ≤ a + b
    · go_enter Tryd.func102, Tryd.ntmps102
      go_wp2_with fail
      go_ret2
      exact ⟨comp_yes (by omega) rfl, rfl⟩
    · go_enter Tryd.func102, Tryd.ntmps102
      go_wp2_with fail
      go_ret2
      exact ⟨comp_no (by omega), rfl⟩
  · go_enter Tryd.func102, Tryd.ntmps102
    go_wp2_with fail
    go_ret2
    exact ⟨comp_no (by omega), rfl⟩

set_option maxRecDepth 100000 in
theorem spec_compute_sub (a b : Int) (w : World) (ha : a.natAbs ≤ 999999999999) (hb : b.natAbs ≤ 999999999999) :
    Calls Tryd.prog 102 #[.int .i64 21, .int .i64 a, .int .i64 b] w fun e w' => e = .returned (compR (a - b)) ∧ w = w' := by
  have a0 : -999999999999 ≤ a := by omega
  have a1 : a ≤ 999999999999 := by omega
  have b0 : -999999999999 ≤ b := by omega
  have b1 : b ≤ 999999999999 := by omega
  by_cases h1 : a - b ≤ 999999999999
  · by_cases h2 : -999999999999 ≤ a - b
    · go_enter Tryd.func102, Tryd.ntmps102
      go_wp2_with fail
      go_ret2
      exact ⟨comp_yes (by omega) rfl, rfl⟩
    · go_enter Tryd.func102, Tryd.ntmps102
      go_wp2_with fail
      go_ret2
      exact ⟨comp_no (by omega), rfl⟩
  · go_enter Tryd.func102, Tryd.ntmps102
    go_wp2_with fail
    go_ret2
    exact ⟨comp_no (by omega), rfl⟩

theorem mul_small {a b : Int} (ha0 : a ≠ 0) : ((a * b).natAbs ≤ 999999999999) ↔ ¬ ((999999999999 : Int) / (a.natAbs : Int) < (b.natAbs : Int)) := by
  have hp : 0 < a.natAbs := by omega
  rw [Int.natAbs_mul]
  have h1 : ((999999999999 : Int) / (a.natAbs : Int)) = ((999999999999 / a.natAbs : Nat) : Int) := by simp
  rw [h1]
  have h2 := Nat.le_div_iff_mul_le hp (x := b.natAbs) (y := 999999999999)
  rw [Nat.mul_comm] at h2
  omega

set_option maxRecDepth 100000 in
set_option maxHeartbeats 1000000 in
theorem spec_compute_mul (a b : Int) (w : World) (ha : a.natAbs ≤ 999999999999) (hb : b.natAbs ≤ 999999999999) :
    Calls Tryd.prog 102 #[.int .i64 22, .int .i64 a, .int .i64 b] w fun e w' => e = .returned (compR (a * b)) ∧ w = w' := by
  have a0 : -999999999999 ≤ a := by omega
  have a1 : a ≤ 999999999999 := by omega
  have b0 : -999999999999 ≤ b := by omega
  have b1 : b ≤ 999999999999 := by omega
  by_cases hz : a = 0
  · subst hz
    go_enter Tryd.func102, Tryd.ntmps102
    go_wp2_with fail
    go_ret2
    exact ⟨comp_yes (by simp) (by simp), rfl⟩
  · have hm := mul_small (b := b) hz
    have hzb : (a != 0) = true := by simpa using hz
    have hp : 0 < a.natAbs := by omega
    by_cases hc : (999999999999 : Int) / (a.natAbs : Int) < (b.natAbs : Int)
    · have hN : ¬ (a * b).natAbs ≤ 999999999999 := fun h => hm.1 h hc
      clear hm
      go_enter Tryd.func102, Tryd.ntmps102
      go_wp2_with fail
      refine (spec_l15Abs b _ (by omega) (by omega)).mono ?_; rintro e w' ⟨rfl, rfl⟩
      go_wp2_with fail
      refine (spec_l15Abs a _ (by omega) (by omega)).mono ?_; rintro e w' ⟨rfl, rfl⟩
      go_wp2_with fail
      go_ret2
      exact ⟨comp_no hN, rfl⟩
    · have hN : (a * b).natAbs ≤ 999999999999 := hm.2 hc
      have n0 : -999999999999 ≤ a * b := by omega
      have n1 : a * b ≤ 999999999999 := by omega
      clear hm
      go_enter Tryd.func102, Tryd.ntmps102
      go_wp2_with fail
      refine (spec_l15Abs b _ (by omega) (by omega)).mono ?_; rintro e w' ⟨rfl, rfl⟩
      go_wp2_with fail
      refine (spec_l15Abs a _ (by omega) (by omega)).mono ?_; rintro e w' ⟨rfl, rfl⟩
      go_wp2_with fail
      go_ret2
      exact ⟨comp_yes hN rfl, rfl⟩
end Go.Proofs.YtgkgoofapgabhaaDoor
