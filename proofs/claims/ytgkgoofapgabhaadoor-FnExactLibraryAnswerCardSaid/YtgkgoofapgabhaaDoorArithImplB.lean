/- ArithmeticOf of the program: factor, term, sum. -/
import Derived.Test.YtgkgoofapgabhaaDoorProg
import Derived.Test.YtgkgoofapgabhaaDoorArithImpl
namespace Go.Proofs.YtgkgoofapgabhaaDoor
open Go.RowKit

/-- what a method of the calculator leaves -/
def ImplPost (s : ByteArray) (g : Nat) (r : Option (Int × Nat)) (w : World) (e : Ending) (w' : World) : Prop :=
  match r with
  | some (v, a) => e = .returned (.tuple #[.int .i64 v, .bool true]) ∧ Calc w' g s a ∧ w.grownBy w' (some g)
  | none => ∃ v a, e = .returned (.tuple #[.int .i64 v, .bool false]) ∧ Calc w' g s a ∧ w.grownBy w' (some g)
def ImplAt (F : Nat) (s : ByteArray) (r : Nat → Option (Int × Nat)) (i : Nat) : Prop :=
  ∀ w g, Calc w g s i → Calls Tryd.prog F #[.pointer (some ⟨g, 0, none⟩)] w (ImplPost s g (r i) w)
theorem post_some {s : ByteArray} {g : Nat} {r : Option (Int × Nat)} {w w' : World} {e : Ending} {v v' : Int} {a : Nat} {a' : Int} (h : r = some (v, a)) (he : e = .returned (.tuple #[.int .i64 v', .bool true])) (hv : v' = v) (ha : a' = a) (hc : Calc w' g s a') (hg : w.grownBy w' (some g)) : ImplPost s g r w e w' := by
  subst hv ha h; exact ⟨he, hc, hg⟩
theorem post_none {s : ByteArray} {g : Nat} {r : Option (Int × Nat)} {w w' : World} {e : Ending} {v : Int} {a : Int} (h : r = none) (he : e = .returned (.tuple #[.int .i64 v, .bool false])) (hc : Calc w' g s a) (hg : w.grownBy w' (some g)) : ImplPost s g r w e w' := by
  subst h; exact ⟨v, a, he, hc, hg⟩
theorem quiet_left {P : Program} {f : FuncId} {args : Array Value} {w : World} {n : Nat} {v : Value}
    (h : Calls P f args (w.drewN n) fun e w' => e = .returned v ∧ w.drewN n = w') : Calls P f args (w.drewN n) fun e w'' => e = .returned v ∧ ∃ m, w'' = w.drewN m :=
  h.mono fun _ _ ⟨he, hm⟩ => ⟨he, n, hm.symm⟩

set_option maxRecDepth 100000 in
set_option maxHeartbeats 4000000 in
theorem impl_factor_of (s : ByteArray) (hs : s.size ≤ 12) (f : Nat) (hsum : ∀ i, i ≤ s.size → s.size - i < f → ImplAt 80 s (sumF s f) i) (i : Nat) (hi : i ≤ s.size) (hf : s.size - i < f + 1) :
    ImplAt 127 s (factorW (sumF s f) s) i := by
  intro w g hc
  have Hsum := Lib.hid hsum
  clear hsum
  by_cases hp : i < s.size ∧ byteAt s i = 40
  · obtain ⟨h1, h2⟩ := hp
    have hgood := sumF_good s f (i + 1) (by omega)
    have hcast : ((i + 1 : Nat) : Int) = (i : Int) + 1 := by omega
    cases hr : sumF s f (i + 1) with
    | none =>
      have HF := Lib.hid (fac_open_none h1 h2 hr)
      have Hr := Lib.hid hr
      clear hr hgood
      go_enter Tryd.func127, Tryd.ntmps127
      go_wp2_with fail
      refine (take_yes _ g s i 40 hc hs h1 h2).mono ?_; rintro e w1 ⟨rfl, hc1, hg1⟩
      rw [← hcast] at hc1
      go_wp2_with fail
      refine (Hsum.out (i + 1) (by omega) (by omega) _ g hc1).mono ?_
      rw [Hr.out]
      rintro e w2 ⟨v, a, rfl, hc2, hg2⟩
      go_wp2_with fail
      go_ret2
      exact post_none HF.out rfl hc2 (grown_trans2 hg1 hg2)
    | some va =>
      obtain ⟨v, a⟩ := va
      obtain ⟨g1, g2, g3⟩ := hgood v a hr
      have HF := Lib.hid (fac_open_some h1 h2 hr)
      have Hr := Lib.hid hr
      clear hr
      by_cases h3 : a < s.size ∧ byteAt s a = 41
      · rw [if_pos h3] at HF
        go_enter Tryd.func127, Tryd.ntmps127
        go_wp2_with fail
        refine (take_yes _ g s i 40 hc hs h1 h2).mono ?_; rintro e w1 ⟨rfl, hc1, hg1⟩
        rw [← hcast] at hc1
        go_wp2_with fail
        refine (Hsum.out (i + 1) (by omega) (by omega) _ g hc1).mono ?_
        rw [Hr.out]
        rintro e w2 ⟨rfl, hc2, hg2⟩
        go_wp2_with fail
        refine (take_yes _ g s a 41 hc2 hs h3.1 h3.2).mono ?_; rintro e w3 ⟨rfl, hc3, hg3⟩
        go_wp2_with fail
        go_ret2
        exact post_some HF.out rfl rfl (by omega) hc3 (grown_trans2 (grown_trans2 hg1 hg2) hg3)
      · rw [if_neg h3] at HF
        go_enter Tryd.func127, Tryd.ntmps127
        go_wp2_with fail
        refine (take_yes _ g s i 40 hc hs h1 h2).mono ?_; rintro e w1 ⟨rfl, hc1, hg1⟩
        rw [← hcast] at hc1
        go_wp2_with fail
        refine (Hsum.out (i + 1) (by omega) (by omega) _ g hc1).mono ?_
        rw [Hr.out]
        rintro e w2 ⟨rfl, hc2, hg2⟩
        go_wp2_with fail
        refine (take_no _ g s a 41 hc2 hs g2 h3).mono ?_; rintro e w3 ⟨rfl, hc3, hg3⟩
        go_wp2_with fail
        go_ret2
        exact post_none HF.out rfl hc3 (grown_trans2 (grown_trans2 hg1 hg2) hg3)
  · have hdb := digTo_bd s i hi
    have Hp := Lib.hid hp
    go_enter Tryd.func127, Tryd.ntmps127
    go_wp2_with fail
    refine (take_no _ g s i 40 hc hs hi hp).mono ?_; rintro e w1 ⟨rfl, hc1, hg1⟩
    clear hp hc
    have q1 := hc1.c1
    go_upto_block 0 with fail
    go_cut [] (fun wx => Calc wx g s (digTo s i) ∧ w.grownBy wx (some g))
    case first =>
      clear q1
      go_wp2_with fail
      go_loopg [] (s.size - i) (fun gh wx => ∃ k : Nat, i ≤ k ∧ k ≤ s.size ∧ gh = s.size - k ∧ Calc wx g s k ∧ w.grownBy wx (some g) ∧ Hid (digTo s i = digEnd s (s.size - k) k))
      case atStart => exact ⟨i, Nat.le_refl _, hi, rfl, hc1, hg1, rfl⟩
      case round =>
        obtain ⟨k, hik, hk, rfl, hck, hgk, hd⟩ := hrel
        clear hc1 hg1
        have q0 := hck.c0
        have q1 := hck.c1
        have q2 := hck.f1
        have e0 : (0 : Int) ≤ (k : Int) := by omega
        by_cases hlt : k < s.size
        · have hby2 := byteAt_eq s k hlt
          have hc255 : s[k].toNat ≤ 255 := by have := s[k].toNat_lt; omega
          have e1 : (k : Int) < (s.size : Int) := by omega
          by_cases hdg : 48 ≤ s[k].toNat ∧ s[k].toNat ≤ 57
          · have H := Lib.hid (digEnd_yes hd.out hlt (by omega) (by omega))
            have hD : isDig s[k].toNat = true := by simpa [isDig] using hdg
            have HC : Hid (∀ w, Calls Tryd.prog 122 #[.int .u8 s[k].toNat] w fun e w' => e = .returned (.bool true) ∧ w = w') := fun w => by have := impl_isDigit s[k].toNat w hc255; rw [hD] at this; exact this
            clear hd hby2 hdg hD
            go_wp2_with fail
            go_quiet ((go_at_call 122; exact quiet_left (HC.out _)))
            go_wp2_with fail
            go_roundg (s.size - (k + 1))
            case measure => omega
            case rel => exact ⟨k + 1, by omega, by omega, rfl, (hck.drewN _).put _, only_set (grown_drewN hgk _) _ _, H.out⟩
          · have H := Lib.hid (digEnd_no hd.out (by omega))
            have hD : isDig s[k].toNat = false := by simpa [isDig] using hdg
            have HC : Hid (∀ w, Calls Tryd.prog 122 #[.int .u8 s[k].toNat] w fun e w' => e = .returned (.bool false) ∧ w = w') := fun w => by have := impl_isDigit s[k].toNat w hc255; rw [hD] at this; exact this
            clear hd hby2 hdg hD
            go_wp2_with fail
            go_quiet ((go_at_call 122; exact quiet_left (HC.out _)))
            go_wp2_with fail
            go_meet
            exact ⟨by rw [H.out]; exact hck.drewN _, grown_drewN hgk _⟩
        · have H := Lib.hid (digEnd_no hd.out (by omega))
          have e1 : decide ((k : Int) < (s.size : Int)) = false := decide_eq_false (by omega)
          have e2 : decide (k < s.size) = false := decide_eq_false (by omega)
          clear hd
          go_wp2_with fail
          go_quiet (fail)
          go_wp2_with fail
          go_meet
          exact ⟨by rw [H.out]; exact hck.drewN _, grown_drewN hgk _⟩
    case rest =>
      obtain ⟨hc2, hg2⟩ := hcut
      clear hc1 hg1
      have q0 := hc2.c0
      have q1 := hc2.c1
      have e1 : (s.extract i (digTo s i)).size ≤ 9223372036854775807 := by simp; omega
      have e2 : (0 : Int) ≤ (i : Int) := by omega
      have e3 : (i : Int) ≤ (digTo s i : Int) := by omega
      have e4 : (digTo s i : Int) ≤ (s.size : Int) := by omega
      cases hr : integerOfText (s.extract i (digTo s i)) with
      | none =>
        have HF := Lib.hid (fac_digs_none (sw := sumF s f) Hp.out hr)
        have HC : Hid (∀ w, Calls Tryd.prog 145 #[.string (s.extract i (digTo s i))] w fun e w' => e = .returned (.tuple #[.int .i64 0, .bool false]) ∧ w = w') := fun w => by have := impl_IntegerOfText _ w e1; rw [hr] at this; exact this
        clear hr
        go_wp2_with fail
        go_quiet ((go_at_call 145; exact quiet_left (HC.out _)))
        go_wp2_with fail
        go_ret2
        exact post_none HF.out rfl (hc2.drewN _) (grown_drewN hg2 _)
      | some v =>
        have HF := Lib.hid (fac_digs_some (sw := sumF s f) Hp.out hr)
        have HC : Hid (∀ w, Calls Tryd.prog 145 #[.string (s.extract i (digTo s i))] w fun e w' => e = .returned (.tuple #[.int .i64 v, .bool true]) ∧ w = w') := fun w => by have := impl_IntegerOfText _ w e1; rw [hr] at this; exact this
        clear hr
        go_wp2_with fail
        go_quiet ((go_at_call 145; exact quiet_left (HC.out _)))
        go_wp2_with fail
        go_ret2
        exact post_some HF.out rfl rfl rfl (hc2.drewN _) (grown_drewN hg2 _)

/-- the loop of term: at place a with the value x, or given up -/
def TermRel (fac : Nat → Option (Int × Nat)) (s : ByteArray) (i g : Nat) (w : World) (gh : Nat) (v ok : Value) (wr : World) : Prop :=
  (∃ (k : Nat) (x : Int) (a : Nat), s.size + 1 ≤ k + a ∧ i ≤ a ∧ a ≤ s.size ∧ x.natAbs ≤ 999999999999 ∧ v = .int .i64 x ∧ ok = .bool true ∧ gh = s.size + 1 - a ∧ Calc wr g s a ∧ w.grownBy wr (some g) ∧ Hid (termW fac s i = termLoop fac s k x a)) ∨
  (∃ (x a : Int), v = .int .i64 x ∧ ok = .bool false ∧ gh = 0 ∧ Calc wr g s a ∧ w.grownBy wr (some g) ∧ Hid (termW fac s i = none))

set_option maxRecDepth 100000 in
set_option maxHeartbeats 4000000 in
theorem impl_term_of (s : ByteArray) (hs : s.size ≤ 12) (f : Nat) (fac : Nat → Option (Int × Nat)) (hgood : ∀ i, i ≤ s.size → GoodR s i (fac i)) (hfac : ∀ i, i ≤ s.size → s.size - i < f → ImplAt 127 s fac i) (i : Nat) (hi : i ≤ s.size) (hf : s.size - i < f) :
    ImplAt 104 s (termW fac s) i := by
  intro w g hc
  have Hfac := Lib.hid hfac
  have Hgood := Lib.hid hgood
  clear hfac hgood
  have start : ∃ n0, ∀ (R : Ending → World → Prop), (∀ v ok w1, TermRel fac s i g w n0 v ok w1 → R (.returned (.tuple #[v, ok])) w1) → Calls Tryd.prog 127 #[.pointer (some ⟨g, 0, none⟩)] w R := by
    cases hr : fac i with
    | none =>
      refine ⟨0, fun R hR => (Hfac.out i hi hf w g hc).mono ?_⟩
      rw [hr]
      rintro e w1 ⟨v, a, rfl, hc1, hg1⟩
      exact hR _ _ _ (.inr ⟨v, a, rfl, rfl, rfl, hc1, hg1, ter_none hr⟩)
    | some va =>
      obtain ⟨v, a⟩ := va
      obtain ⟨g1, g2, g3⟩ := Hgood.out i hi v a hr
      refine ⟨s.size + 1 - a, fun R hR => (Hfac.out i hi hf w g hc).mono ?_⟩
      rw [hr]
      rintro e w1 ⟨rfl, hc1, hg1⟩
      exact hR _ _ _ (.inl ⟨s.size + 1, v, a, by omega, g1, g2, g3, rfl, rfl, rfl, hc1, hg1, ter_some hr⟩)
  obtain ⟨n0, start⟩ := start
  have Start := Lib.hid start
  clear start
  go_enter Tryd.func104, Tryd.ntmps104
  go_wp2_with fail
  refine Start.out _ ?_
  intro v1 ok1 w1 hstart
  clear Start
  go_wp2_with fail
  go_loopg [4, 5] n0 (fun gh v ok wr => TermRel fac s i g w gh v ok wr)
  case atStart => exact hstart
  case round =>
    clear hstart hc
    rcases hrel with ⟨k, x, a, hk, h1, h2, h3, rfl, rfl, rfl, hca, hga, hT⟩ | ⟨x, a, rfl, rfl, rfl, hca, hga, hT⟩
    · have q1 := hca.c1
      by_cases hst : a < s.size ∧ byteAt s a = 42
      · obtain ⟨hlt, hB⟩ := hst
        have hcast : ((a + 1 : Nat) : Int) = (a : Int) + 1 := by omega
        cases hr : fac (a + 1) with
        | none =>
          have HT := Lib.hid (tl_none hT.out hk hlt hB hr)
          have Hr := Lib.hid hr
          clear hr hT
          go_wp2_with fail
          refine (take_yes _ g s a 42 hca hs hlt hB).mono ?_; rintro e w2 ⟨rfl, hc2, hg2⟩
          rw [← hcast] at hc2
          go_wp2_with fail
          refine (Hfac.out (a + 1) (by omega) (by omega) _ g hc2).mono ?_
          rw [Hr.out]
          rintro e w3 ⟨y, b, rfl, hc3, hg3⟩
          have q2 := hc3.c1
          have q3 := hc3.f1
          go_wp2_with fail
          go_ret2
          exact post_some HT.out rfl rfl rfl (hc3.put _) (only_set (grown_trans2 (grown_trans2 hga hg2) hg3) _ _)
        | some yn =>
          obtain ⟨y, n⟩ := yn
          obtain ⟨r1, r2, r3⟩ := Hgood.out (a + 1) (by omega) y n hr
          by_cases hm : (x * y).natAbs ≤ 999999999999
          · have HT := Lib.hid (tl_some hT.out hk hlt hB hr hm)
            have Hr := Lib.hid hr
            have HP : Hid (prodR x y = some (x * y)) := by show prodR x y = _; rw [prodR, if_pos hm]
            clear hr hT
            go_wp2_with fail
            refine (take_yes _ g s a 42 hca hs hlt hB).mono ?_; rintro e w2 ⟨rfl, hc2, hg2⟩
            rw [← hcast] at hc2
            go_wp2_with fail
            refine (Hfac.out (a + 1) (by omega) (by omega) _ g hc2).mono ?_
            rw [Hr.out]
            rintro e w3 ⟨rfl, hc3, hg3⟩
            go_wp2_with fail
            refine (impl_product x y _ h3 r3).mono ?_
            rw [HP.out]
            rintro e w4 ⟨rfl, rfl⟩
            unfold pairOf
            have hg4 := grown_trans2 (grown_trans2 hga hg2) hg3
            go_wp2_with fail
            go_roundg (s.size + 1 - n)
            case measure => omega
            case rel => exact .inl ⟨k - 1, x * y, n, by omega, by omega, by omega, hm, rfl, rfl, rfl, hc3, hg4, HT.out⟩
          · have HT := Lib.hid (tl_over hT.out hk hlt hB hr hm)
            have Hr := Lib.hid hr
            have HP : Hid (prodR x y = none) := by show prodR x y = _; rw [prodR, if_neg hm]
            clear hr hT
            go_wp2_with fail
            refine (take_yes _ g s a 42 hca hs hlt hB).mono ?_; rintro e w2 ⟨rfl, hc2, hg2⟩
            rw [← hcast] at hc2
            go_wp2_with fail
            refine (Hfac.out (a + 1) (by omega) (by omega) _ g hc2).mono ?_
            rw [Hr.out]
            rintro e w3 ⟨rfl, hc3, hg3⟩
            go_wp2_with fail
            refine (impl_product x y _ h3 r3).mono ?_
            rw [HP.out]
            rintro e w4 ⟨rfl, rfl⟩
            unfold pairOf
            have hg4 := grown_trans2 (grown_trans2 hga hg2) hg3
            go_wp2_with fail
            go_roundg 0
            case measure => omega
            case rel => exact .inr ⟨0, n, rfl, rfl, rfl, hc3, hg4, HT.out⟩
      · have HT := Lib.hid (tl_end hT.out hst)
        clear hT
        go_wp2_with fail
        refine (take_no _ g s a 42 hca hs h2 hst).mono ?_; rintro e w2 ⟨rfl, hc2, hg2⟩
        clear hst
        go_wp2_with fail
        go_ret2
        exact post_some HT.out rfl rfl rfl hc2 (grown_trans2 hga hg2)
    · go_wp2_with fail
      go_ret2
      exact post_none hT.out rfl hca hga

/-- the loop of sum: at place a with the value x, or given up -/
def SumRel (ter : Nat → Option (Int × Nat)) (s : ByteArray) (i g : Nat) (w : World) (gh : Nat) (v ok : Value) (wr : World) : Prop :=
  (∃ (k : Nat) (x : Int) (a : Nat), s.size + 1 ≤ k + a ∧ i ≤ a ∧ a ≤ s.size ∧ x.natAbs ≤ 999999999999 ∧ v = .int .i64 x ∧ ok = .bool true ∧ gh = s.size + 1 - a ∧ Calc wr g s a ∧ w.grownBy wr (some g) ∧ Hid (sumW ter s i = sumLoop ter s k x a)) ∨
  (∃ (x a : Int), v = .int .i64 x ∧ ok = .bool false ∧ gh = 0 ∧ Calc wr g s a ∧ w.grownBy wr (some g) ∧ Hid (sumW ter s i = none))

set_option maxRecDepth 100000 in
set_option maxHeartbeats 4000000 in
theorem impl_sum_of (s : ByteArray) (hs : s.size ≤ 12) (f : Nat) (ter : Nat → Option (Int × Nat)) (hgood : ∀ i, i ≤ s.size → GoodR s i (ter i)) (hter : ∀ i, i ≤ s.size → s.size - i < f → ImplAt 104 s ter i) (i : Nat) (hi : i ≤ s.size) (hf : s.size - i < f) :
    ImplAt 80 s (sumW ter s) i := by
  intro w g hc
  have Hter := Lib.hid hter
  have Hgood := Lib.hid hgood
  clear hter hgood
  have start : ∃ n0, ∀ (R : Ending → World → Prop), (∀ v ok w1, SumRel ter s i g w n0 v ok w1 → R (.returned (.tuple #[v, ok])) w1) → Calls Tryd.prog 104 #[.pointer (some ⟨g, 0, none⟩)] w R := by
    cases hr : ter i with
    | none =>
      refine ⟨0, fun R hR => (Hter.out i hi hf w g hc).mono ?_⟩
      rw [hr]
      rintro e w1 ⟨v, a, rfl, hc1, hg1⟩
      exact hR _ _ _ (.inr ⟨v, a, rfl, rfl, rfl, hc1, hg1, sum_none hr⟩)
    | some va =>
      obtain ⟨v, a⟩ := va
      obtain ⟨g1, g2, g3⟩ := Hgood.out i hi v a hr
      refine ⟨s.size + 1 - a, fun R hR => (Hter.out i hi hf w g hc).mono ?_⟩
      rw [hr]
      rintro e w1 ⟨rfl, hc1, hg1⟩
      exact hR _ _ _ (.inl ⟨s.size + 1, v, a, by omega, g1, g2, g3, rfl, rfl, rfl, hc1, hg1, sum_some hr⟩)
  obtain ⟨n0, start⟩ := start
  have Start := Lib.hid start
  clear start
  go_enter Tryd.func80, Tryd.ntmps80
  go_wp2_with fail
  refine Start.out _ ?_
  intro v1 ok1 w1 hstart
  clear Start
  go_wp2_with fail
  go_loopg [4, 5] n0 (fun gh v ok wr => SumRel ter s i g w gh v ok wr)
  case atStart => exact hstart
  case round =>
    clear hstart hc
    rcases hrel with ⟨k, x, a, hk, h1, h2, h3, rfl, rfl, rfl, hca, hga, hT⟩ | ⟨x, a, rfl, rfl, rfl, hca, hga, hT⟩
    · have q1 := hca.c1
      have x0 : -999999999999 ≤ x := by omega
      have x1 : x ≤ 999999999999 := by omega
      by_cases hst : a < s.size ∧ byteAt s a = 43
      · obtain ⟨hlt, hB⟩ := hst
        have hB2 : byteAt s a = if false then 45 else 43 := by simpa using hB
        have hcast : ((a + 1 : Nat) : Int) = (a : Int) + 1 := by omega
        cases hr : ter (a + 1) with
        | none =>
            have HT := Lib.hid (sl_none hT.out hk hlt hB2 hr)
            have Hr := Lib.hid hr
            clear hr hT hB2
            go_wp2_with fail
            refine (take_yes _ g s a 43 hca hs hlt hB).mono ?_; rintro e w3 ⟨rfl, hc3, hg3⟩
            rw [← hcast] at hc3
            go_wp2_with fail
            refine (Hter.out (a + 1) (by omega) (by omega) _ g hc3).mono ?_
            rw [Hr.out]
            rintro e w4 ⟨y, b, rfl, hc4, hg4⟩
            have q2 := hc4.c1
            have q3 := hc4.f1
            go_wp2_with fail
            go_ret2
            exact post_some HT.out rfl rfl rfl (hc4.put _) (only_set (grown_trans2 (grown_trans2 hga hg3) hg4) _ _)
        | some yn =>
            obtain ⟨y, n⟩ := yn
            obtain ⟨r1, r2, r3⟩ := Hgood.out (a + 1) (by omega) y n hr
            by_cases hm : (addB false x y).natAbs ≤ 999999999999
            · have HT := Lib.hid (sl_some hT.out hk hlt hB2 hr hm)
              have Hr := Lib.hid hr
              clear hr hT hB2
              go_wp2_with fail
              refine (take_yes _ g s a 43 hca hs hlt hB).mono ?_; rintro e w3 ⟨rfl, hc3, hg3⟩
              rw [← hcast] at hc3
              go_wp2_with fail
              refine (Hter.out (a + 1) (by omega) (by omega) _ g hc3).mono ?_
              rw [Hr.out]
              rintro e w4 ⟨rfl, hc4, hg4⟩
              go_wp2_with fail
              refine (impl_inRange _ _).mono ?_
              rw [decide_eq_true (show (x + y).natAbs ≤ 999999999999 from by simp only [addB] at hm; simp at hm; omega)]
              rintro e w5 ⟨rfl, rfl⟩
              have hg5 := grown_trans2 (grown_trans2 hga hg3) hg4
              go_wp2_with fail
              go_roundg (s.size + 1 - n)
              case measure => omega
              case rel => exact .inl ⟨k - 1, addB false x y, n, by omega, by omega, by omega, hm, by simp only [addB]; go_num, rfl, rfl, hc4, hg5, HT.out⟩
            · have HT := Lib.hid (sl_over hT.out hk hlt hB2 hr hm)
              have Hr := Lib.hid hr
              clear hr hT hB2
              go_wp2_with fail
              refine (take_yes _ g s a 43 hca hs hlt hB).mono ?_; rintro e w3 ⟨rfl, hc3, hg3⟩
              rw [← hcast] at hc3
              go_wp2_with fail
              refine (Hter.out (a + 1) (by omega) (by omega) _ g hc3).mono ?_
              rw [Hr.out]
              rintro e w4 ⟨rfl, hc4, hg4⟩
              go_wp2_with fail
              refine (impl_inRange _ _).mono ?_
              rw [decide_eq_false (show ¬ (x + y).natAbs ≤ 999999999999 from by simp only [addB] at hm; simp at hm; omega)]
              rintro e w5 ⟨rfl, rfl⟩
              have hg5 := grown_trans2 (grown_trans2 hga hg3) hg4
              go_wp2_with fail
              go_roundg 0
              case measure => omega
              case rel => exact .inr ⟨_, n, rfl, rfl, rfl, hc4, hg5, HT.out⟩
      by_cases hst2 : a < s.size ∧ byteAt s a = 45
      · obtain ⟨hlt, hB⟩ := hst2
        have hB2 : byteAt s a = if true then 45 else 43 := by simpa using hB
        have hcast : ((a + 1 : Nat) : Int) = (a : Int) + 1 := by omega
        cases hr : ter (a + 1) with
        | none =>
            have HT := Lib.hid (sl_none hT.out hk hlt hB2 hr)
            have Hr := Lib.hid hr
            clear hr hT hB2
            go_wp2_with fail
            refine (take_no _ g s a 43 hca hs h2 (by omega)).mono ?_; rintro e w2 ⟨rfl, hc2, hg2⟩
            go_wp2_with fail
            refine (take_yes _ g s a 45 hc2 hs hlt hB).mono ?_; rintro e w3 ⟨rfl, hc3, hg3⟩
            have hg3 := grown_trans2 hg2 hg3
            rw [← hcast] at hc3
            go_wp2_with fail
            refine (Hter.out (a + 1) (by omega) (by omega) _ g hc3).mono ?_
            rw [Hr.out]
            rintro e w4 ⟨y, b, rfl, hc4, hg4⟩
            have q2 := hc4.c1
            have q3 := hc4.f1
            go_wp2_with fail
            go_ret2
            exact post_some HT.out rfl rfl rfl (hc4.put _) (only_set (grown_trans2 (grown_trans2 hga hg3) hg4) _ _)
        | some yn =>
            obtain ⟨y, n⟩ := yn
            obtain ⟨r1, r2, r3⟩ := Hgood.out (a + 1) (by omega) y n hr
            by_cases hm : (addB true x y).natAbs ≤ 999999999999
            · have HT := Lib.hid (sl_some hT.out hk hlt hB2 hr hm)
              have Hr := Lib.hid hr
              clear hr hT hB2
              go_wp2_with fail
              refine (take_no _ g s a 43 hca hs h2 (by omega)).mono ?_; rintro e w2 ⟨rfl, hc2, hg2⟩
              go_wp2_with fail
              refine (take_yes _ g s a 45 hc2 hs hlt hB).mono ?_; rintro e w3 ⟨rfl, hc3, hg3⟩
              have hg3 := grown_trans2 hg2 hg3
              rw [← hcast] at hc3
              go_wp2_with fail
              refine (Hter.out (a + 1) (by omega) (by omega) _ g hc3).mono ?_
              rw [Hr.out]
              rintro e w4 ⟨rfl, hc4, hg4⟩
              go_wp2_with fail
              refine (impl_inRange _ _).mono ?_
              rw [decide_eq_true (show (x + -y).natAbs ≤ 999999999999 from by simp only [addB] at hm; simp at hm; omega)]
              rintro e w5 ⟨rfl, rfl⟩
              have hg5 := grown_trans2 (grown_trans2 hga hg3) hg4
              go_wp2_with fail
              go_roundg (s.size + 1 - n)
              case measure => omega
              case rel => exact .inl ⟨k - 1, addB true x y, n, by omega, by omega, by omega, hm, by simp only [addB]; go_num, rfl, rfl, hc4, hg5, HT.out⟩
            · have HT := Lib.hid (sl_over hT.out hk hlt hB2 hr hm)
              have Hr := Lib.hid hr
              clear hr hT hB2
              go_wp2_with fail
              refine (take_no _ g s a 43 hca hs h2 (by omega)).mono ?_; rintro e w2 ⟨rfl, hc2, hg2⟩
              go_wp2_with fail
              refine (take_yes _ g s a 45 hc2 hs hlt hB).mono ?_; rintro e w3 ⟨rfl, hc3, hg3⟩
              have hg3 := grown_trans2 hg2 hg3
              rw [← hcast] at hc3
              go_wp2_with fail
              refine (Hter.out (a + 1) (by omega) (by omega) _ g hc3).mono ?_
              rw [Hr.out]
              rintro e w4 ⟨rfl, hc4, hg4⟩
              go_wp2_with fail
              refine (impl_inRange _ _).mono ?_
              rw [decide_eq_false (show ¬ (x + -y).natAbs ≤ 999999999999 from by simp only [addB] at hm; simp at hm; omega)]
              rintro e w5 ⟨rfl, rfl⟩
              have hg5 := grown_trans2 (grown_trans2 hga hg3) hg4
              go_wp2_with fail
              go_roundg 0
              case measure => omega
              case rel => exact .inr ⟨_, n, rfl, rfl, rfl, hc4, hg5, HT.out⟩
      have HT := Lib.hid (sl_end hT.out (by omega))
      clear hT
      go_wp2_with fail
      refine (take_no _ g s a 43 hca hs h2 hst).mono ?_; rintro e w2 ⟨rfl, hc2, hg2⟩
      go_wp2_with fail
      refine (take_no _ g s a 45 hc2 hs h2 hst2).mono ?_; rintro e w3 ⟨rfl, hc3, hg3⟩
      clear hst hst2
      go_wp2_with fail
      go_ret2
      exact post_some HT.out rfl rfl rfl hc3 (grown_trans2 (grown_trans2 hga hg2) hg3)
    · go_wp2_with fail
      go_ret2
      exact post_none hT.out rfl hca hga
end Go.Proofs.YtgkgoofapgabhaaDoor
