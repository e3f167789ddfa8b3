/- PrimesUpTo of the reference and of the program return the same list, primesTo, in memory of their own. -/
import Derived.Test.YtgkgoofapgabhaaDoorProg
import Derived.Test.YtgkgoofapgabhaaDoorMem
namespace Go.Proofs.YtgkgoofapgabhaaDoor
open Go.RowKit

def coprimeTo (p : Int) (out : List Int) : Bool := out.all fun q => p % q != 0
def primesTo : Nat → List Int
  | 0 => []
  | j + 1 => if coprimeTo ((j : Int) + 2) (primesTo j) then primesTo j ++ [(j : Int) + 2] else primesTo j
theorem primesTo_len (j : Nat) : (primesTo j).length ≤ j := by
  induction j with
  | zero => simp [primesTo]
  | succ j ih => rw [primesTo]; split <;> (try simp only [List.length_append, List.length_singleton]) <;> omega
theorem primesTo_mem (j : Nat) : ∀ q ∈ primesTo j, 2 ≤ q ∧ q ≤ (j : Int) + 1 := by
  induction j with
  | zero => simp [primesTo]
  | succ j ih =>
    intro q hq
    rw [primesTo] at hq
    split at hq
    · rcases List.mem_append.1 hq with hq | hq
      · have := ih q hq; omega
      · simp at hq; omega
    · have := ih q hq; omega
theorem primesTo_get {j k : Nat} {q : Int} (h : (primesTo j)[k]? = some q) : 2 ≤ q ∧ q ≤ (j : Int) + 1 := primesTo_mem j q (List.mem_of_getElem? h)
theorem coprime_snoc {p q : Int} {l : List Int} {k : Nat} (h : l[k]? = some q) : coprimeTo p (l.take (k + 1)) = (coprimeTo p (l.take k) && (p % q != 0)) := by
  rw [take_snoc_of h]; simp [coprimeTo]
theorem primes_yes {j : Nat} (h : coprimeTo ((j : Int) + 2) (primesTo j) = true) : primesTo (j + 1) = primesTo j ++ [(j : Int) + 2] := by rw [primesTo, if_pos h]
theorem primes_no {j : Nat} (h : coprimeTo ((j : Int) + 2) (primesTo j) = false) : primesTo (j + 1) = primesTo j := by rw [primesTo, if_neg (by simp [h])]

theorem info_int : (Tryd.prog.info? 3).map (fun i => (i.zero, i.size, i.bytes)) = some (some (.int .i64 0), 1, 8) := by kernel_rfl

/-- the call hands back the integers l in a row of its own; nothing that was there has changed -/
def OwnInts (l : List Int) (w : World) (e : Ending) (w' : World) : Prop :=
  ∃ v, e = .returned v ∧ w'.ownsRow w.heap.size 3 1 v l.length (l.map (.int .i64)) ∧ Below w.heap.size w w'
def primesUpTo (n : Int) : List Int := primesTo (min n 200 - 1).toNat

theorem primes_is {n : Int} {j : Nat} (h1 : j = 199) (h2 : (j : Int) + 2 ≤ n) : primesUpTo n = primesTo j := by
  unfold primesUpTo; congr 1; omega
theorem primes_is' {n : Int} {j : Nat} (hj : j ≤ 199) (h1 : j = 0 ∨ (j : Int) + 1 ≤ n) (h2 : ¬ (j : Int) + 2 ≤ n) : primesUpTo n = primesTo j := by
  unfold primesUpTo; congr 1; omega

set_option maxRecDepth 100000 in
set_option maxHeartbeats 1000000 in
theorem spec_PrimesUpTo (n : Int) (w : World) :
    Calls Tryd.prog 49 #[.int .i64 n] w (OwnInts (primesUpTo n) w) := by
  obtain ⟨i0, hi0, hz0, hz1, hz2⟩ := info_parts info_int
  go_enter Tryd.func49, Tryd.ntmps49
  go_wp2
  go_loopw [3, 4] (fun v i wr => ∃ j : Nat, j ≤ 199 ∧ Hid (j = 0 ∨ (j : Int) + 1 ≤ n) ∧ i = .int .i64 ((j : Int) + 2) ∧ wr.ownsRow w.heap.size 3 1 v (primesTo j).length ((primesTo j).map (.int .i64)) ∧ Below w.heap.size w wr) (fun _ i _ => (201 - intOf i).toNat)
  case atStart => exact ⟨0, by omega, .inl rfl, rfl, World.ownsRow_lit w #[] 0 (Nat.le_refl _) (Nat.zero_le _) rfl, (Below.refl _ _).alloc (Nat.le_refl _) _⟩
  case round =>
    obtain ⟨j, hj, hjn, rfl, hown, hb⟩ := hrel
    obtain ⟨wo, rfl⟩ : ∃ wo : World, wo = wr := ⟨_, rfl⟩
    by_cases hlt : (j : Int) + 2 ≤ n
    · by_cases hlt2 : j ≤ 198
      · have hlen := primesTo_len j
        have hrd := Rds.of_own hown
        obtain ⟨A, c, rfl, hc1, hc2, -⟩ := hrd.shape
        unfold maxLen at hc2
        go_wp2
        go_loop [5, 6] (fun b i => ∃ k : Nat, k ≤ (primesTo j).length ∧ i = .int .i64 k ∧ b = .bool (coprimeTo ((j : Int) + 2) ((primesTo j).take k))) (fun _ i => (primesTo j).length - (intOf i).toNat)
        case atStart => exact ⟨0, Nat.zero_le _, rfl, rfl⟩
        case round =>
          obtain ⟨k, hk, rfl, rfl⟩ := hrel
          by_cases hkl : k < (primesTo j).length
          · obtain ⟨g, off, q, rfl, -, -, hq, hcell⟩ := hrd.atMap hkl
            have hqb := primesTo_get hq
            have Hsn := Lib.hid (coprime_snoc (p := (j : Int) + 2) hq)
            clear hq
            cases hcp : coprimeTo ((j : Int) + 2) ((primesTo j).take k) with
            | true =>
              rw [hcp] at Hsn
              clear hcp
              go_wp2
              go_round
              case rel => exact ⟨k + 1, by omega, by go_num, by rw [Hsn.out]; simp⟩
              case measure => simp [intOf]; omega
            | false =>
              rw [hcp] at Hsn
              clear hcp
              go_wp2
              go_round
              case rel => exact ⟨k + 1, by omega, by go_num, by rw [Hsn.out]; simp⟩
              case measure => simp [intOf]; omega
          · obtain rfl : k = (primesTo j).length := by omega
            rw [List.take_length]
            cases hcp : coprimeTo ((j : Int) + 2) (primesTo j) with
            | true =>
              have HP := Lib.hid (primes_yes hcp)
              clear hcp
              go_wp2_with (at_builtin; refine wpList_append_own _ rfl _ _ 61 rfl w.heap.size 3 i0 (.int .i64 0) 1 8 Tryd.underlying61 hi0 hz0 hz1 hz2 rfl (by decide) _ _ _ rfl (hown.alloc _) ⟨wo.heap.size, 0, none⟩ 1 1 [.int .i64 ((j : Int) + 2)] rfl rfl (cell_one_new _ _ _) ?c2 ?c3 ?c4 ?c5 ?_)
              case c2 => first | rfl | (intro u hu; simp at hu; subst hu; rfl)
              case c3 => unfold maxLen; omega
              case c4 => omega
              case c5 => have := hb.size; simp; omega
              intro v' w1 hown' hgrow _
              have hb1 := below_append hb hb.size hown hgrow
              clear hgrow
              go_wp2
              go_roundw
              case rel => exact ⟨j + 1, by omega, .inr (by omega), by go_num, by rw [HP.out]; simpa using hown', hb1⟩
              case measure => simp [intOf]; omega
            | false =>
              have HP := Lib.hid (primes_no hcp)
              clear hcp
              go_wp2
              go_roundw
              case rel => exact ⟨j + 1, by omega, .inr (by omega), by go_num, by rw [HP.out]; exact hown, hb⟩
              case measure => simp [intOf]; omega
      · go_wp2
        go_ret
        exact ⟨_, rfl, by rw [primes_is (by omega) hlt]; exact hown, hb⟩
    · go_wp2
      go_ret
      exact ⟨_, rfl, by rw [primes_is' hj hjn.out (by omega)]; exact hown, hb⟩
set_option maxRecDepth 100000 in
set_option maxHeartbeats 1000000 in
theorem impl_PrimesUpTo (n : Int) (w : World) :
    Calls Tryd.prog 55 #[.int .i64 n] w (OwnInts (primesUpTo n) w) := by
  by_cases hm : 200 < n
  all_goals
    obtain ⟨i0, hi0, hz0, hz1, hz2⟩ := info_parts info_int
    go_enter Tryd.func55, Tryd.ntmps55
    go_wp2
    go_loopw [3, 4] (fun v i wr => ∃ j : Nat, j ≤ 199 ∧ Hid (j = 0 ∨ (j : Int) + 1 ≤ n) ∧ i = .int .i64 ((j : Int) + 2) ∧ wr.ownsRow w.heap.size 3 1 v (primesTo j).length ((primesTo j).map (.int .i64)) ∧ Below w.heap.size w wr) (fun _ i _ => (201 - intOf i).toNat)
    case atStart => exact ⟨0, by omega, .inl rfl, rfl, World.ownsRow_lit w #[] 0 (Nat.le_refl _) (Nat.zero_le _) rfl, (Below.refl _ _).alloc (Nat.le_refl _) _⟩
    case round =>
      obtain ⟨j, hj, hjn, rfl, hown, hb⟩ := hrel
      obtain ⟨wo, rfl⟩ : ∃ wo : World, wo = wr := ⟨_, rfl⟩
      by_cases hlt : (j : Int) + 2 ≤ n
      · by_cases hlt2 : j ≤ 198
        · have hlen := primesTo_len j
          have hrd := Rds.of_own hown
          obtain ⟨A, c, rfl, hc1, hc2, -⟩ := hrd.shape
          unfold maxLen at hc2
          go_wp2
          go_loop [5, 17] (fun b i => ∃ k : Nat, k ≤ (primesTo j).length ∧ i = .int .i64 k ∧ b = .bool (coprimeTo ((j : Int) + 2) ((primesTo j).take k))) (fun _ i => (primesTo j).length - (intOf i).toNat)
          case atStart => exact ⟨0, Nat.zero_le _, rfl, rfl⟩
          case round =>
            obtain ⟨k, hk, rfl, rfl⟩ := hrel
            by_cases hkl : k < (primesTo j).length
            · obtain ⟨g, off, q, rfl, -, -, hq, hcell⟩ := hrd.atMap hkl
              have hqb := primesTo_get hq
              have Hsn := Lib.hid (coprime_snoc (p := (j : Int) + 2) hq)
              clear hq
              by_cases hpq : ((j : Int) + 2) % q = 0
              all_goals
                cases hcp : coprimeTo ((j : Int) + 2) ((primesTo j).take k) with
                | true =>
                  rw [hcp] at Hsn
                  clear hcp
                  go_wp2
                  go_round
                  case rel => exact ⟨k + 1, by omega, by go_num, by rw [Hsn.out]; simp [hpq]⟩
                  case measure => simp [intOf]; omega
                | false =>
                  rw [hcp] at Hsn
                  clear hcp
                  go_wp2
                  go_round
                  case rel => exact ⟨k + 1, by omega, by go_num, by rw [Hsn.out]; simp⟩
                  case measure => simp [intOf]; omega
            · obtain rfl : k = (primesTo j).length := by omega
              rw [List.take_length]
              cases hcp : coprimeTo ((j : Int) + 2) (primesTo j) with
              | true =>
                have HP := Lib.hid (primes_yes hcp)
                clear hcp
                go_wp2_with (at_builtin; refine wpList_append_own _ rfl _ _ 61 rfl w.heap.size 3 i0 (.int .i64 0) 1 8 Tryd.underlying61 hi0 hz0 hz1 hz2 rfl (by decide) _ _ _ rfl (hown.alloc _) ⟨wo.heap.size, 0, none⟩ 1 1 [.int .i64 ((j : Int) + 2)] rfl rfl (cell_one_new _ _ _) ?c2 ?c3 ?c4 ?c5 ?_)
                case c2 => first | rfl | (intro u hu; simp at hu; subst hu; rfl)
                case c3 => unfold maxLen; omega
                case c4 => omega
                case c5 => have := hb.size; simp; omega
                intro v' w1 hown' hgrow _
                have hb1 := below_append hb hb.size hown hgrow
                clear hgrow
                go_wp2
                go_roundw
                case rel => exact ⟨j + 1, by omega, .inr (by omega), by go_num, by rw [HP.out]; simpa using hown', hb1⟩
                case measure => simp [intOf]; omega
              | false =>
                have HP := Lib.hid (primes_no hcp)
                clear hcp
                go_wp2
                go_roundw
                case rel => exact ⟨j + 1, by omega, .inr (by omega), by go_num, by rw [HP.out]; exact hown, hb⟩
                case measure => simp [intOf]; omega
        · go_wp2
          all_goals (go_ret; exact ⟨_, rfl, by rw [primes_is (by omega) hlt]; exact hown, hb⟩)
      · go_wp2
        all_goals (go_ret; exact ⟨_, rfl, by rw [primes_is' hj hjn.out (by omega)]; exact hown, hb⟩)

end Go.Proofs.YtgkgoofapgabhaaDoor
