/- ArithmeticOf of the reference: l36Factor, l36Term, l36Sum. -/
import Derived.Test.YtgkgoofapgabhaaDoorProg
import Derived.Test.YtgkgoofapgabhaaDoorArith
namespace Go.Proofs.YtgkgoofapgabhaaDoor
open Go.RowKit

def SpecAt (F : Nat) (s : ByteArray) (r : Nat → Option (Int × Nat)) (i : Nat) : Prop :=
  ∀ w, Calls Tryd.prog F #[.string s, .int .i64 i] w fun e w' => e = .returned (specR (r i)) ∧ w = w'

theorem fac_open_some {sw : Nat → Option (Int × Nat)} {s : ByteArray} {i : Nat} {v : Int} {a : Nat} (h1 : i < s.size) (h2 : byteAt s i = 40) (h : sw (i + 1) = some (v, a)) :
    factorW sw s i = if a < s.size ∧ byteAt s a = 41 then some (v, a + 1) else none := by rw [factorW, if_pos ⟨h1, h2⟩, h]
theorem fac_open_none {sw : Nat → Option (Int × Nat)} {s : ByteArray} {i : Nat} (h1 : i < s.size) (h2 : byteAt s i = 40) (h : sw (i + 1) = none) : factorW sw s i = none := by rw [factorW, if_pos ⟨h1, h2⟩, h]
theorem fac_digs_some {sw : Nat → Option (Int × Nat)} {s : ByteArray} {i : Nat} (h : ¬ (i < s.size ∧ byteAt s i = 40)) {v : Int} (hr : integerOfText (s.extract i (digTo s i)) = some v) :
    factorW sw s i = some (v, digTo s i) := by rw [factorW, if_neg h, hr]
theorem fac_digs_none {sw : Nat → Option (Int × Nat)} {s : ByteArray} {i : Nat} (h : ¬ (i < s.size ∧ byteAt s i = 40)) (hr : integerOfText (s.extract i (digTo s i)) = none) :
    factorW sw s i = none := by rw [factorW, if_neg h, hr]

set_option maxRecDepth 100000 in
set_option maxHeartbeats 4000000 in
theorem spec_factor_of (s : ByteArray) (hs : s.size ≤ 12) (f : Nat) (hsum : ∀ i, i ≤ s.size → s.size - i < f → SpecAt 77 s (sumF s f) i) (i : Nat) (hi : i ≤ s.size) (hf : s.size - i < f + 1) :
    SpecAt 124 s (factorW (sumF s f) s) i := by
  intro w
  have Hsum := Lib.hid hsum
  clear hsum
  by_cases hp : i < s.size ∧ byteAt s i = 40
  · obtain ⟨h1, h2⟩ := hp
    have h40 : (s[i].toNat : Int) = 40 := by rw [← byteAt_eq s i h1, h2]; rfl
    have hgood := sumF_good s f (i + 1) (by omega)
    cases hr : sumF s f (i + 1) with
    | none =>
      have HF := Lib.hid (fac_open_none h1 h2 hr)
      have Hr := Lib.hid hr
      clear hr hgood h2
      go_enter Tryd.func124, Tryd.ntmps124
      go_wp2_with fail
      refine (Hsum.out (i + 1) (by omega) (by omega) _).mono ?_
      rw [Hr.out]
      rintro e w' ⟨rfl, rfl⟩
      unfold specR
      go_wp2_with fail
      go_ret2
      exact ⟨spec_none HF.out, rfl⟩
    | some va =>
      obtain ⟨v, a⟩ := va
      obtain ⟨g1, g2, g3⟩ := hgood v a hr
      have HF := Lib.hid (fac_open_some h1 h2 hr)
      have Hr := Lib.hid hr
      clear hr h2
      by_cases h3 : a < s.size
      · have hby := byteAt_eq s a h3
        by_cases h41 : (s[a].toNat : Int) = 41
        · rw [if_pos ⟨h3, by omega⟩] at HF
          clear hby
          go_enter Tryd.func124, Tryd.ntmps124
          go_wp2_with fail
          refine (Hsum.out (i + 1) (by omega) (by omega) _).mono ?_
          rw [Hr.out]
          rintro e w' ⟨rfl, rfl⟩
          unfold specR
          go_wp2_with fail
          go_ret2
          exact ⟨spec_some HF.out (by omega), rfl⟩
        · rw [if_neg (by omega)] at HF
          have hb41 : ((s[a].toNat : Int) != 41) = true := by simpa using h41
          clear hby
          go_enter Tryd.func124, Tryd.ntmps124
          go_wp2_with fail
          refine (Hsum.out (i + 1) (by omega) (by omega) _).mono ?_
          rw [Hr.out]
          rintro e w' ⟨rfl, rfl⟩
          unfold specR
          go_wp2_with fail
          go_ret2
          exact ⟨spec_none HF.out, rfl⟩
      · rw [if_neg (by omega)] at HF
        go_enter Tryd.func124, Tryd.ntmps124
        go_wp2_with fail
        refine (Hsum.out (i + 1) (by omega) (by omega) _).mono ?_
        rw [Hr.out]
        rintro e w' ⟨rfl, rfl⟩
        unfold specR
        go_wp2_with fail
        go_ret2
        exact ⟨spec_none HF.out, rfl⟩
  · have hdb := digTo_bd s i hi
    by_cases hi2 : i < s.size
    · have h40 : ¬ (s[i].toNat : Int) = 40 := by have := byteAt_eq s i hi2; omega
      have hb40 : ((s[i].toNat : Int) == 40) = false := beq_eq_false_iff_ne.2 h40
      have Hp := Lib.hid hp
      clear hp
      go_enter Tryd.func124, Tryd.ntmps124
      go_upto_block 0 with fail
      go_cut [8] (fun v wx => v = .int .i64 (digTo s i) ∧ wx = w)
      case first =>
        go_wp2_with fail
        go_loop [8] (fun n => ∃ k : Nat, i ≤ k ∧ k ≤ s.size ∧ n = .int .i64 k ∧ Hid (digTo s i = digEnd s (s.size - k) k)) (fun n => s.size - (intOf n).toNat)
        case atStart => exact ⟨i, Nat.le_refl _, hi, rfl, rfl⟩
        case round =>
          obtain ⟨k, hik, hk, rfl, hd⟩ := hrel
          by_cases hlt : k < s.size
          · have hby2 := byteAt_eq s k hlt
            by_cases h48 : 48 ≤ s[k].toNat
            · by_cases h57 : s[k].toNat ≤ 57
              · have H := Lib.hid (digEnd_yes hd.out hlt (by omega) (by omega))
                clear hd hby2
                go_wp2_with fail
                go_round
                case rel => exact ⟨k + 1, by omega, by omega, by go_num, H.out⟩
                case measure => simp [intOf]; omega
              · have H := Lib.hid (digEnd_no hd.out (by omega))
                clear hd hby2
                go_wp2_with fail
                go_meet
                exact ⟨by rw [H.out], rfl⟩
            · have H := Lib.hid (digEnd_no hd.out (by omega))
              clear hd hby2
              go_wp2_with fail
              go_meet
              exact ⟨by rw [H.out], rfl⟩
          · have H := Lib.hid (digEnd_no hd.out (by omega))
            clear hd
            go_wp2_with fail
            go_meet
            exact ⟨by rw [H.out], rfl⟩
      case rest =>
        obtain ⟨rfl, rfl⟩ := hcut
        have e1 : (s.extract i (digTo s i)).size ≤ 9223372036854775807 := by simp; omega
        cases hr : integerOfText (s.extract i (digTo s i)) with
        | none =>
          have HF := Lib.hid (fac_digs_none (sw := sumF s f) Hp.out hr)
          have Hr := Lib.hid hr
          clear hr
          go_wp2_with fail
          refine (spec_IntegerOfText _ _ e1).mono ?_
          rw [Hr.out]
          rintro e w' ⟨rfl, rfl⟩
          unfold pairOf
          go_wp2_with fail
          go_ret2
          exact ⟨spec_none HF.out, rfl⟩
        | some v =>
          have HF := Lib.hid (fac_digs_some (sw := sumF s f) Hp.out hr)
          have Hr := Lib.hid hr
          clear hr
          go_wp2_with fail
          refine (spec_IntegerOfText _ _ e1).mono ?_
          rw [Hr.out]
          rintro e w' ⟨rfl, rfl⟩
          unfold pairOf
          go_wp2_with fail
          go_ret2
          exact ⟨spec_some HF.out rfl, rfl⟩
    · have Hp := Lib.hid hp
      clear hp
      go_enter Tryd.func124, Tryd.ntmps124
      go_upto_block 0 with fail
      go_cut [8] (fun v wx => v = .int .i64 (digTo s i) ∧ wx = w)
      case first =>
        go_wp2_with fail
        go_loop [8] (fun n => ∃ k : Nat, i ≤ k ∧ k ≤ s.size ∧ n = .int .i64 k ∧ Hid (digTo s i = digEnd s (s.size - k) k)) (fun n => s.size - (intOf n).toNat)
        case atStart => exact ⟨i, Nat.le_refl _, hi, rfl, rfl⟩
        case round =>
          obtain ⟨k, hik, hk, rfl, hd⟩ := hrel
          by_cases hlt : k < s.size
          · exfalso; omega
          · have H := Lib.hid (digEnd_no hd.out (by omega))
            clear hd
            go_wp2_with fail
            go_meet
            exact ⟨by rw [H.out], rfl⟩
      case rest =>
        obtain ⟨rfl, rfl⟩ := hcut
        have e1 : (s.extract i (digTo s i)).size ≤ 9223372036854775807 := by simp; omega
        cases hr : integerOfText (s.extract i (digTo s i)) with
        | none =>
          have HF := Lib.hid (fac_digs_none (sw := sumF s f) Hp.out hr)
          have Hr := Lib.hid hr
          clear hr
          go_wp2_with fail
          refine (spec_IntegerOfText _ _ e1).mono ?_
          rw [Hr.out]
          rintro e w' ⟨rfl, rfl⟩
          unfold pairOf
          go_wp2_with fail
          go_ret2
          exact ⟨spec_none HF.out, rfl⟩
        | some v =>
          have HF := Lib.hid (fac_digs_some (sw := sumF s f) Hp.out hr)
          have Hr := Lib.hid hr
          clear hr
          go_wp2_with fail
          refine (spec_IntegerOfText _ _ e1).mono ?_
          rw [Hr.out]
          rintro e w' ⟨rfl, rfl⟩
          unfold pairOf
          go_wp2_with fail
          go_ret2
          exact ⟨spec_some HF.out rfl, rfl⟩

theorem ter_none {fac : Nat → Option (Int × Nat)} {s : ByteArray} {i : Nat} (h : fac i = none) : termW fac s i = none := by rw [termW, h]
theorem ter_some {fac : Nat → Option (Int × Nat)} {s : ByteArray} {i : Nat} {v : Int} {a : Nat} (h : fac i = some (v, a)) : termW fac s i = termLoop fac s (s.size + 1) v a := by rw [termW, h]
section
variable {fac : Nat → Option (Int × Nat)} {s : ByteArray} {r : Option (Int × Nat)} {k a : Nat} {v : Int} (h : r = termLoop fac s k v a) (hk : s.size + 1 ≤ k + a)
include h
theorem tl_end (hc : ¬ (a < s.size ∧ byteAt s a = 42)) : r = some (v, a) := by
  rw [h]; cases k with
  | zero => rfl
  | succ k => rw [termLoop, if_neg hc]
include hk
theorem tl_none (h1 : a < s.size) (h2 : byteAt s a = 42) (h3 : fac (a + 1) = none) : r = some (v, a) := by
  obtain ⟨j, rfl⟩ : ∃ j, k = j + 1 := ⟨k - 1, by omega⟩
  rw [h, termLoop, if_pos ⟨h1, h2⟩, h3]
theorem tl_some {x : Int} {n : Nat} (h1 : a < s.size) (h2 : byteAt s a = 42) (h3 : fac (a + 1) = some (x, n)) (h4 : (v * x).natAbs ≤ 999999999999) : r = termLoop fac s (k - 1) (v * x) n := by
  obtain ⟨j, rfl⟩ : ∃ j, k = j + 1 := ⟨k - 1, by omega⟩
  rw [h, termLoop, if_pos ⟨h1, h2⟩, h3]
  simp [h4]
theorem tl_over {x : Int} {n : Nat} (h1 : a < s.size) (h2 : byteAt s a = 42) (h3 : fac (a + 1) = some (x, n)) (h4 : ¬ (v * x).natAbs ≤ 999999999999) : r = none := by
  obtain ⟨j, rfl⟩ : ∃ j, k = j + 1 := ⟨k - 1, by omega⟩
  rw [h, termLoop, if_pos ⟨h1, h2⟩, h3]
  simp only [if_neg h4]
end

set_option maxRecDepth 100000 in
set_option maxHeartbeats 4000000 in
theorem spec_term_of (s : ByteArray) (hs : s.size ≤ 12) (f : Nat) (fac : Nat → Option (Int × Nat)) (hgood : ∀ i, i ≤ s.size → GoodR s i (fac i)) (hfac : ∀ i, i ≤ s.size → s.size - i < f → SpecAt 124 s fac i) (i : Nat) (hi : i ≤ s.size) (hf : s.size - i < f) :
    SpecAt 101 s (termW fac s) i := by
  intro w
  have Hfac := Lib.hid hfac
  have Hgood := Lib.hid hgood
  clear hfac hgood
  cases hr : fac i with
  | none =>
    have HT := Lib.hid (ter_none (s := s) hr)
    have Hr := Lib.hid hr
    clear hr
    go_enter Tryd.func101, Tryd.ntmps101
    go_wp2_with fail
    refine (Hfac.out i hi hf _).mono ?_
    rw [Hr.out]
    rintro e w' ⟨rfl, rfl⟩
    unfold specR
    go_wp2_with fail
    go_loop [6, 7] (fun v a => v = .int .i64 0 ∧ a = .int .i64 (-1)) (fun _ _ => 0)
    case atStart => exact ⟨rfl, rfl⟩
    case round =>
      obtain ⟨rfl, rfl⟩ := hrel
      go_wp2_with fail
      go_ret2
      exact ⟨spec_none HT.out, rfl⟩
  | some va =>
    obtain ⟨v, a⟩ := va
    obtain ⟨g1, g2, g3⟩ := Hgood.out i hi v a hr
    have HT := Lib.hid (ter_some (s := s) hr)
    have Hr := Lib.hid hr
    clear hr
    go_enter Tryd.func101, Tryd.ntmps101
    go_wp2_with fail
    refine (Hfac.out i hi hf _).mono ?_
    rw [Hr.out]
    rintro e w' ⟨rfl, rfl⟩
    unfold specR
    go_wp2_with fail
    go_loop [6, 7] (fun v' a' => ∃ (k : Nat) (v : Int) (a : Nat), s.size + 1 ≤ k + a ∧ i ≤ a ∧ a ≤ s.size ∧ v.natAbs ≤ 999999999999 ∧ v' = .int .i64 v ∧ a' = .int .i64 a ∧ Hid (termW fac s i = termLoop fac s k v a)) (fun _ a => s.size - (intOf a).toNat)
    case atStart => exact ⟨s.size + 1, v, a, by omega, g1, g2, g3, rfl, rfl, HT.out⟩
    case round =>
      clear g1 g2 g3 HT Hr
      obtain ⟨k, v, a, hk, h1, h2, h3, rfl, rfl, hT⟩ := hrel
      by_cases hlt : a < s.size
      · have hby := byteAt_eq s a hlt
        by_cases h42 : (s[a].toNat : Int) = 42
        · have hB : byteAt s a = 42 := by omega
          clear hby
          cases hr : fac (a + 1) with
          | none =>
            have HT := Lib.hid (tl_none hT.out hk hlt hB hr)
            have Hr := Lib.hid hr
            clear hr hT
            go_wp2_with fail
            refine (Hfac.out (a + 1) (by omega) (by omega) _).mono ?_
            rw [Hr.out]
            rintro e w' ⟨rfl, rfl⟩
            unfold specR
            go_wp2_with fail
            go_ret2
            exact ⟨spec_some HT.out rfl, rfl⟩
          | some xn =>
            obtain ⟨x, n⟩ := xn
            obtain ⟨q1, q2, q3⟩ := Hgood.out (a + 1) (by omega) x n hr
            by_cases hm : (v * x).natAbs ≤ 999999999999
            · have HT := Lib.hid (tl_some hT.out hk hlt hB hr hm)
              have Hr := Lib.hid hr
              clear hr hT
              go_wp2_with fail
              refine (Hfac.out (a + 1) (by omega) (by omega) _).mono ?_
              rw [Hr.out]
              rintro e w' ⟨rfl, rfl⟩
              unfold specR
              go_wp2_with fail
              refine (spec_compute_mul v x _ h3 q3).mono ?_
              rw [compR, if_pos hm]
              rintro e w' ⟨rfl, rfl⟩
              go_wp2_with fail
              go_round
              case rel => exact ⟨k - 1, v * x, n, by omega, by omega, by omega, hm, rfl, rfl, HT.out⟩
              case measure => simp [intOf]; omega
            · have HT := Lib.hid (tl_over hT.out hk hlt hB hr hm)
              have Hr := Lib.hid hr
              clear hr hT
              go_wp2_with fail
              refine (Hfac.out (a + 1) (by omega) (by omega) _).mono ?_
              rw [Hr.out]
              rintro e w' ⟨rfl, rfl⟩
              unfold specR
              go_wp2_with fail
              refine (spec_compute_mul v x _ h3 q3).mono ?_
              rw [compR, if_neg hm]
              rintro e w' ⟨rfl, rfl⟩
              go_wp2_with fail
              go_ret2
              exact ⟨spec_none HT.out, rfl⟩
        · have HT := Lib.hid (tl_end hT.out (by omega))
          clear hT hby
          go_wp2_with fail
          go_ret2
          exact ⟨spec_some HT.out rfl, rfl⟩
      · have HT := Lib.hid (tl_end hT.out (by omega))
        clear hT
        go_wp2_with fail
        go_ret2
        exact ⟨spec_some HT.out rfl, rfl⟩

theorem sum_none {ter : Nat → Option (Int × Nat)} {s : ByteArray} {i : Nat} (h : ter i = none) : sumW ter s i = none := by rw [sumW, h]
theorem sum_some {ter : Nat → Option (Int × Nat)} {s : ByteArray} {i : Nat} {v : Int} {a : Nat} (h : ter i = some (v, a)) : sumW ter s i = sumLoop ter s (s.size + 1) v a := by rw [sumW, h]
section
variable {ter : Nat → Option (Int × Nat)} {s : ByteArray} {r : Option (Int × Nat)} {k a : Nat} {v : Int} {minus : Bool} (h : r = sumLoop ter s k v a) (hk : s.size + 1 ≤ k + a)
include h
theorem sl_end (hc : ¬ (a < s.size ∧ (byteAt s a = 43 ∨ byteAt s a = 45))) : r = some (v, a) := by
  rw [h]; cases k with
  | zero => rfl
  | succ k => rw [sumLoop, if_neg hc]
include hk
theorem sl_none (h1 : a < s.size) (h2 : byteAt s a = if minus then 45 else 43) (h3 : ter (a + 1) = none) : r = some (v, a) := by
  obtain ⟨j, rfl⟩ : ∃ j, k = j + 1 := ⟨k - 1, by omega⟩
  rw [h, sumLoop, if_pos ⟨h1, by cases minus <;> simp_all⟩, h3]
theorem sl_some {x : Int} {n : Nat} (h1 : a < s.size) (h2 : byteAt s a = if minus then 45 else 43) (h3 : ter (a + 1) = some (x, n)) (h4 : (addB minus v x).natAbs ≤ 999999999999) : r = sumLoop ter s (k - 1) (addB minus v x) n := by
  obtain ⟨j, rfl⟩ : ∃ j, k = j + 1 := ⟨k - 1, by omega⟩
  have hb : (byteAt s a == 45) = minus := by cases minus <;> simp_all
  rw [h, sumLoop, if_pos ⟨h1, by cases minus <;> simp_all⟩, h3, hb]
  simp [h4]
theorem sl_over {x : Int} {n : Nat} (h1 : a < s.size) (h2 : byteAt s a = if minus then 45 else 43) (h3 : ter (a + 1) = some (x, n)) (h4 : ¬ (addB minus v x).natAbs ≤ 999999999999) : r = none := by
  obtain ⟨j, rfl⟩ : ∃ j, k = j + 1 := ⟨k - 1, by omega⟩
  have hb : (byteAt s a == 45) = minus := by cases minus <;> simp_all
  rw [h, sumLoop, if_pos ⟨h1, by cases minus <;> simp_all⟩, h3, hb]
  simp only [if_neg h4]
end

set_option maxRecDepth 100000 in
set_option maxHeartbeats 4000000 in
theorem spec_sum_of (s : ByteArray) (hs : s.size ≤ 12) (f : Nat) (ter : Nat → Option (Int × Nat)) (hgood : ∀ i, i ≤ s.size → GoodR s i (ter i)) (hter : ∀ i, i ≤ s.size → s.size - i < f → SpecAt 101 s ter i) (i : Nat) (hi : i ≤ s.size) (hf : s.size - i < f) :
    SpecAt 77 s (sumW ter s) i := by
  intro w
  have Hter := Lib.hid hter
  have Hgood := Lib.hid hgood
  clear hter hgood
  cases hr : ter i with
  | none =>
    have HT := Lib.hid (sum_none (s := s) hr)
    have Hr := Lib.hid hr
    clear hr
    go_enter Tryd.func77, Tryd.ntmps77
    go_wp2_with fail
    refine (Hter.out i hi hf _).mono ?_
    rw [Hr.out]
    rintro e w' ⟨rfl, rfl⟩
    unfold specR
    go_wp2_with fail
    go_loop [6, 7] (fun v a => v = .int .i64 0 ∧ a = .int .i64 (-1)) (fun _ _ => 0)
    case atStart => exact ⟨rfl, rfl⟩
    case round =>
      obtain ⟨rfl, rfl⟩ := hrel
      go_wp2_with fail
      go_ret2
      exact ⟨spec_none HT.out, rfl⟩
  | some va =>
    obtain ⟨v, a⟩ := va
    obtain ⟨g1, g2, g3⟩ := Hgood.out i hi v a hr
    have HT := Lib.hid (sum_some (s := s) hr)
    have Hr := Lib.hid hr
    clear hr
    go_enter Tryd.func77, Tryd.ntmps77
    go_wp2_with fail
    refine (Hter.out i hi hf _).mono ?_
    rw [Hr.out]
    rintro e w' ⟨rfl, rfl⟩
    unfold specR
    go_wp2_with fail
    go_loop [6, 7] (fun v' a' => ∃ (k : Nat) (v : Int) (a : Nat), s.size + 1 ≤ k + a ∧ i ≤ a ∧ a ≤ s.size ∧ v.natAbs ≤ 999999999999 ∧ v' = .int .i64 v ∧ a' = .int .i64 a ∧ Hid (sumW ter s i = sumLoop ter s k v a)) (fun _ a => s.size - (intOf a).toNat)
    case atStart => exact ⟨s.size + 1, v, a, by omega, g1, g2, g3, rfl, rfl, HT.out⟩
    case round =>
      clear g1 g2 g3 HT Hr
      obtain ⟨k, v, a, hk, h1, h2, h3, rfl, rfl, hT⟩ := hrel
      by_cases hlt : a < s.size
      · have hby := byteAt_eq s a hlt
        by_cases hop : (s[a].toNat : Int) = 43 ∨ (s[a].toNat : Int) = 45
        · obtain ⟨minus, hB, hC⟩ : ∃ minus : Bool, (byteAt s a = if minus then 45 else 43) ∧ ((s[a].toNat : Int) = if minus then 45 else 43) := by
            rcases hop with h | h
            · exact ⟨false, by simp; omega, by simpa using h⟩
            · exact ⟨true, by simp; omega, by simpa using h⟩
          clear hby hop
          cases hr : ter (a + 1) with
          | none =>
            have HT := Lib.hid (sl_none hT.out hk hlt hB hr)
            have Hr := Lib.hid hr
            clear hr hT hB
            cases minus
            all_goals
              simp only [Bool.false_eq_true, if_false, if_true] at hC
              go_wp2_with fail
              refine (Hter.out (a + 1) (by omega) (by omega) _).mono ?_
              rw [Hr.out]
              rintro e w' ⟨rfl, rfl⟩
              unfold specR
              go_wp2_with fail
              go_ret2
              exact ⟨spec_some HT.out rfl, rfl⟩
          | some xn =>
            obtain ⟨x, n⟩ := xn
            obtain ⟨q1, q2, q3⟩ := Hgood.out (a + 1) (by omega) x n hr
            by_cases hm : (addB minus v x).natAbs ≤ 999999999999
            · have HT := Lib.hid (sl_some hT.out hk hlt hB hr hm)
              have Hr := Lib.hid hr
              clear hr hT hB
              cases minus
              · simp only [Bool.false_eq_true, if_false] at hC
                go_wp2_with fail
                refine (Hter.out (a + 1) (by omega) (by omega) _).mono ?_
                rw [Hr.out]
                rintro e w' ⟨rfl, rfl⟩
                unfold specR
                go_wp2_with fail
                refine (spec_compute_add v x _ h3 q3).mono ?_
                rw [compR, if_pos (by simpa [addB] using hm)]
                rintro e w' ⟨rfl, rfl⟩
                go_wp2_with fail
                go_round
                case rel => exact ⟨k - 1, addB false v x, n, by omega, by omega, by omega, hm, rfl, rfl, HT.out⟩
                case measure => simp [intOf]; omega
              · simp only [if_true] at hC
                go_wp2_with fail
                refine (Hter.out (a + 1) (by omega) (by omega) _).mono ?_
                rw [Hr.out]
                rintro e w' ⟨rfl, rfl⟩
                unfold specR
                go_wp2_with fail
                refine (spec_compute_sub v x _ h3 q3).mono ?_
                rw [compR, if_pos (by simpa [addB] using hm)]
                rintro e w' ⟨rfl, rfl⟩
                go_wp2_with fail
                go_round
                case rel => exact ⟨k - 1, addB true v x, n, by omega, by omega, by omega, hm, rfl, rfl, HT.out⟩
                case measure => simp [intOf]; omega
            · have HT := Lib.hid (sl_over hT.out hk hlt hB hr hm)
              have Hr := Lib.hid hr
              clear hr hT hB
              cases minus
              · simp only [Bool.false_eq_true, if_false] at hC
                go_wp2_with fail
                refine (Hter.out (a + 1) (by omega) (by omega) _).mono ?_
                rw [Hr.out]
                rintro e w' ⟨rfl, rfl⟩
                unfold specR
                go_wp2_with fail
                refine (spec_compute_add v x _ h3 q3).mono ?_
                rw [compR, if_neg (by simpa [addB] using hm)]
                rintro e w' ⟨rfl, rfl⟩
                go_wp2_with fail
                go_ret2
                exact ⟨spec_none HT.out, rfl⟩
              · simp only [if_true] at hC
                go_wp2_with fail
                refine (Hter.out (a + 1) (by omega) (by omega) _).mono ?_
                rw [Hr.out]
                rintro e w' ⟨rfl, rfl⟩
                unfold specR
                go_wp2_with fail
                refine (spec_compute_sub v x _ h3 q3).mono ?_
                rw [compR, if_neg (by simpa [addB] using hm)]
                rintro e w' ⟨rfl, rfl⟩
                go_wp2_with fail
                go_ret2
                exact ⟨spec_none HT.out, rfl⟩
        · have HT := Lib.hid (sl_end hT.out (by omega))
          have hb1 : ((s[a].toNat : Int) == 43) = false := beq_eq_false_iff_ne.2 (by omega)
          have hb2 : ((s[a].toNat : Int) == 45) = false := beq_eq_false_iff_ne.2 (by omega)
          clear hT hby hop
          go_wp2_with fail
          go_ret2
          exact ⟨spec_some HT.out rfl, rfl⟩
      · have HT := Lib.hid (sl_end hT.out (by omega))
        clear hT
        go_wp2_with fail
        go_ret2
        exact ⟨spec_some HT.out rfl, rfl⟩

theorem spec_sum (s : ByteArray) (hs : s.size ≤ 12) : ∀ f i, i ≤ s.size → s.size - i < f → SpecAt 77 s (sumF s f) i := by
  intro f
  induction f with
  | zero => intro i _ h; omega
  | succ f ih =>
    exact fun i hi hf => spec_sum_of s hs (f + 1) (termW (factorW (sumF s f) s) s) (fun j hj => terF_good s f j hj)
      (fun j hj hjf => spec_term_of s hs (f + 1) (factorW (sumF s f) s) (fun k hk => facF_good s f k hk) (fun k hk hkf => spec_factor_of s hs f ih k hk hkf) j hj hjf) i hi hf

theorem ar_long {s : ByteArray} (h : 12 < s.size) : arithmeticOf s = none := by rw [arithmeticOf, if_pos h]
theorem ar_none {s : ByteArray} (h : ¬ 12 < s.size) (hr : sumF s (s.size + 1) 0 = none) : arithmeticOf s = none := by rw [arithmeticOf, if_neg h, hr]
theorem ar_yes {s : ByteArray} {v : Int} {a : Nat} (h : ¬ 12 < s.size) (hr : sumF s (s.size + 1) 0 = some (v, a)) (ha : a = s.size) : arithmeticOf s = some v := by rw [arithmeticOf, if_neg h, hr]; simp [ha]
theorem ar_part {s : ByteArray} {v : Int} {a : Nat} (h : ¬ 12 < s.size) (hr : sumF s (s.size + 1) 0 = some (v, a)) (ha : ¬ a = s.size) : arithmeticOf s = none := by rw [arithmeticOf, if_neg h, hr]; simp [ha]

set_option maxRecDepth 100000 in
set_option maxHeartbeats 1000000 in
theorem spec_ArithmeticOf (s : ByteArray) (w : World) :
    Calls Tryd.prog 51 #[.string s] w fun e w' => e = .returned (pairOf (arithmeticOf s)) ∧ w = w' := by
  by_cases h12 : 12 < s.size
  · have H := Lib.hid (ar_long h12)
    go_enter Tryd.func51, Tryd.ntmps51
    go_wp2_with fail
    go_ret2
    exact ⟨pair_none H.out, rfl⟩
  · have hc := spec_sum s (by omega) (s.size + 1) 0 (by omega) (by omega)
    have HC := Lib.hid hc
    clear hc
    cases hr : sumF s (s.size + 1) 0 with
    | none =>
      have H := Lib.hid (ar_none h12 hr)
      have Hr := Lib.hid hr
      clear hr
      go_enter Tryd.func51, Tryd.ntmps51
      go_wp2_with fail
      refine (HC.out _).mono ?_
      rw [Hr.out]
      rintro e w' ⟨rfl, rfl⟩
      unfold specR
      have hne : ((-1 : Int) != (s.size : Int)) = true := bne_iff_ne.2 (by omega)
      go_wp2_with fail
      go_ret2
      exact ⟨pair_none H.out, rfl⟩
    | some va =>
      obtain ⟨v, a⟩ := va
      by_cases ha : a = s.size
      · have H := Lib.hid (ar_yes h12 hr ha)
        have Hr := Lib.hid hr
        have hne : ((a : Int) != (s.size : Int)) = false := by simp; omega
        clear hr ha
        go_enter Tryd.func51, Tryd.ntmps51
        go_wp2_with fail
        refine (HC.out _).mono ?_
        rw [Hr.out]
        rintro e w' ⟨rfl, rfl⟩
        unfold specR
        go_wp2_with fail
        go_ret2
        exact ⟨pair_some H.out rfl, rfl⟩
      · have H := Lib.hid (ar_part h12 hr ha)
        have Hr := Lib.hid hr
        have hne : ((a : Int) != (s.size : Int)) = true := by simp; omega
        clear hr ha
        go_enter Tryd.func51, Tryd.ntmps51
        go_wp2_with fail
        refine (HC.out _).mono ?_
        rw [Hr.out]
        rintro e w' ⟨rfl, rfl⟩
        unfold specR
        go_wp2_with fail
        go_ret2
        exact ⟨pair_none H.out, rfl⟩
end Go.Proofs.YtgkgoofapgabhaaDoor
