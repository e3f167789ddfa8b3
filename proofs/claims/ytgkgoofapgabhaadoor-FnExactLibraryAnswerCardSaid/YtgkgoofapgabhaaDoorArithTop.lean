/- ArithmeticOf of the program. -/
import Derived.Test.YtgkgoofapgabhaaDoorProg
import Derived.Test.YtgkgoofapgabhaaDoorArithImplB
namespace Go.Proofs.YtgkgoofapgabhaaDoor
open Go.RowKit

theorem impl_sum (s : ByteArray) (hs : s.size ≤ 12) : ∀ f i, i ≤ s.size → s.size - i < f → ImplAt 80 s (sumF s f) i := by
  intro f
  induction f with
  | zero => intro i _ h; omega
  | succ f ih =>
    exact fun i hi hf => impl_sum_of s hs (f + 1) (termW (factorW (sumF s f) s) s) (fun j hj => terF_good s f j hj)
      (fun j hj hjf => impl_term_of s hs (f + 1) (factorW (sumF s f) s) (fun k hk => facF_good s f k hk) (fun k hk hkf => impl_factor_of s hs f ih k hk hkf) j hj hjf) i hi hf

theorem below_of_new {w w' : World} {o : Obj} (h : (w.alloc o).grownBy w' (some w.heap.size)) : Below w.heap.size w w' :=
  ((Below.refl _ _).alloc (Nat.le_refl _) o).grown h (by simp) (fun k hk => by injection hk with hk; omega)

set_option maxRecDepth 100000 in
set_option maxHeartbeats 1000000 in
theorem impl_ArithmeticOf (s : ByteArray) (w : World) :
    Calls Tryd.prog 57 #[.string s] w fun e w' => e = .returned (pairOf (arithmeticOf s)) ∧ Below w.heap.size w w' := by
  by_cases h12 : 12 < s.size
  · have H := Lib.hid (ar_long h12)
    go_enter Tryd.func57, Tryd.ntmps57
    go_wp2_with fail
    go_ret2
    exact ⟨pair_none H.out, Below.refl _ _⟩
  · have hc := impl_sum s (by omega) (s.size + 1) 0 (by omega) (by omega)
    have HC := Lib.hid hc
    have hnew : Calc (w.alloc (.cells #[.string s, .int .i64 0] 94)) w.heap.size s ((0 : Nat) : Int) := Blk.new w _ _
    clear hc
    cases hr : sumF s (s.size + 1) 0 with
    | none =>
      have H := Lib.hid (ar_none h12 hr)
      have Hr := Lib.hid hr
      clear hr
      go_enter Tryd.func57, Tryd.ntmps57
      go_wp2_with fail
      refine (HC.out _ _ hnew).mono ?_
      rw [Hr.out]
      rintro e w1 ⟨v, a, rfl, hc1, hg1⟩
      go_wp2_with fail
      go_ret2
      exact ⟨pair_none H.out, below_of_new hg1⟩
    | some va =>
      obtain ⟨v, a⟩ := va
      by_cases ha : a = s.size
      · have H := Lib.hid (ar_yes h12 hr ha)
        have Hr := Lib.hid hr
        have hne : ((a : Int) != (s.size : Int)) = false := by simp; omega
        clear hr ha
        go_enter Tryd.func57, Tryd.ntmps57
        go_wp2_with fail
        refine (HC.out _ _ hnew).mono ?_
        rw [Hr.out]
        rintro e w1 ⟨rfl, hc1, hg1⟩
        have q1 := hc1.c1
        go_wp2_with fail
        go_ret2
        exact ⟨pair_some H.out rfl, below_of_new hg1⟩
      · have H := Lib.hid (ar_part h12 hr ha)
        have Hr := Lib.hid hr
        have hne : ((a : Int) != (s.size : Int)) = true := by simp; omega
        clear hr ha
        go_enter Tryd.func57, Tryd.ntmps57
        go_wp2_with fail
        refine (HC.out _ _ hnew).mono ?_
        rw [Hr.out]
        rintro e w1 ⟨rfl, hc1, hg1⟩
        have q1 := hc1.c1
        go_wp2_with fail
        go_ret2
        exact ⟨pair_none H.out, below_of_new hg1⟩

end Go.Proofs.YtgkgoofapgabhaaDoor
