/- IsBalanced of the reference and of the program return the same answer, bal 0 of the bytes. No condition beyond the law's own bound on the length. -/
import Derived.Test.YtgkgoofapgabhaaDoorProg
import Derived.Test.YtgkgoofapgabhaaDoorMem
import Derived.WalkKit
import Derived.WalkSpells
import Derived.WalkLawsBesides
import Derived.Lib.Hide
namespace Go.Proofs.YtgkgoofapgabhaaDoor
open Go.RowKit

def bal : Nat → List UInt8 → Bool
  | n, [] => decide ((n : Int) = 0)
  | n, c :: cs => if (c.toNat : Int) = 40 then bal (n + 1) cs else if (c.toNat : Int) = 41 then (if 0 < n then bal (n - 1) cs else false) else false

theorem bal_drop (s : ByteArray) (k n : Nat) (h : k < s.size) :
    bal n (s.data.toList.drop k) = if (s[k].toNat : Int) = 40 then bal (n + 1) (s.data.toList.drop (k + 1)) else if (s[k].toNat : Int) = 41 then (if 0 < n then bal (n - 1) (s.data.toList.drop (k + 1)) else false) else false := by
  rw [List.drop_eq_getElem_cons (by simpa using h)]
  rfl

theorem bal_end (s : ByteArray) (k n : Nat) (h : ¬ k < s.size) : bal n (s.data.toList.drop k) = ((n : Int) == 0) := by
  rw [List.drop_eq_nil_of_le (by simp; omega)]
  show decide ((n : Int) = 0) = ((n : Int) == 0)
  rw [Bool.eq_iff_iff]; simp



section
variable {s : ByteArray} {k n : Nat} (h : k < s.size) (hb : bal 0 s.data.toList = bal n (s.data.toList.drop k))
include h hb
theorem bal_up (h1 : (s[k].toNat : Int) = 40) : bal 0 s.data.toList = bal (n + 1) (s.data.toList.drop (k + 1)) := by
  rw [hb, bal_drop s k n h, if_pos h1]
theorem bal_down (h1 : ¬ (s[k].toNat : Int) = 40) (h2 : (s[k].toNat : Int) = 41) (h3 : 0 < n) : bal 0 s.data.toList = bal (n - 1) (s.data.toList.drop (k + 1)) := by
  rw [hb, bal_drop s k n h, if_neg h1, if_pos h2, if_pos h3]
theorem bal_neg (h1 : ¬ (s[k].toNat : Int) = 40) (h2 : (s[k].toNat : Int) = 41) (h3 : ¬ 0 < n) : bal 0 s.data.toList = false := by
  rw [hb, bal_drop s k n h, if_neg h1, if_pos h2, if_neg h3]
theorem bal_other (h1 : ¬ (s[k].toNat : Int) = 40) (h2 : ¬ (s[k].toNat : Int) = 41) : bal 0 s.data.toList = false := by
  rw [hb, bal_drop s k n h, if_neg h1, if_neg h2]
end

set_option maxHeartbeats 400000 in
theorem spec_IsBalanced (s : ByteArray) (w : World) (hs : s.size ≤ 1048576) :
    Calls Tryd.prog 50 #[.string s] w fun e w' => e = .returned (.bool (bal 0 s.data.toList)) ∧ w = w' := by
  go_enter Tryd.func50, Tryd.ntmps50
  go_wp2
  go_loop [3, 4] (fun o i => ∃ k n : Nat, k ≤ s.size ∧ n ≤ k ∧ i = .int .i64 k ∧ o = .int .i64 n ∧ Hid (bal 0 s.data.toList = bal n (s.data.toList.drop k))) (fun _ i => s.size - (intOf i).toNat)
  case atStart => exact ⟨0, 0, Nat.zero_le _, Nat.le_refl _, rfl, rfl, rfl⟩
  case round =>
    obtain ⟨k, n, hk, hn, rfl, rfl, hb⟩ := hrel
    by_cases hlt : k < s.size
    · by_cases h1 : (s[k].toNat : Int) = 40
      · go_wp2
        go_round
        case rel => exact ⟨k + 1, n + 1, by omega, by omega, by go_num, by go_num, bal_up hlt hb.out h1⟩
        case measure => simp [intOf]; omega
      · by_cases h2 : (s[k].toNat : Int) = 41
        · by_cases h3 : 0 < n
          · go_wp2
            go_round
            case rel => exact ⟨k + 1, n - 1, by omega, by omega, by go_num, by go_num, bal_down hlt hb.out h1 h2 h3⟩
            case measure => simp [intOf]; omega
          · go_wp2
            go_ret
            exact ⟨ret_bool (bal_neg hlt hb.out h1 h2 h3).symm, rfl⟩
        · go_wp2
          go_ret
          exact ⟨ret_bool (bal_other hlt hb.out h1 h2).symm, rfl⟩
    · go_wp2
      go_ret
      exact ⟨ret_bool (by rw [hb.out, bal_end s k n hlt]), rfl⟩

set_option maxHeartbeats 400000 in
theorem impl_IsBalanced (s : ByteArray) (w : World) (hs : s.size ≤ 1048576) :
    Calls Tryd.prog 56 #[.string s] w fun e w' => e = .returned (.bool (bal 0 s.data.toList)) ∧ w = w' := by
  go_enter Tryd.func56, Tryd.ntmps56
  go_wp2
  go_loop [3, 7] (fun o i => ∃ k n : Nat, k ≤ s.size ∧ n ≤ k ∧ i = .int .i64 k ∧ o = .int .i64 n ∧ Hid (bal 0 s.data.toList = bal n (s.data.toList.drop k))) (fun _ i => s.size - (intOf i).toNat)
  case atStart => exact ⟨0, 0, Nat.zero_le _, Nat.le_refl _, rfl, rfl, rfl⟩
  case round =>
    obtain ⟨k, n, hk, hn, rfl, rfl, hb⟩ := hrel
    by_cases hlt : k < s.size
    · by_cases h1 : (s[k].toNat : Int) = 40
      · go_wp2
        go_round
        case rel => exact ⟨k + 1, n + 1, by omega, by omega, by go_num, by go_num, bal_up hlt hb.out h1⟩
        case measure => simp [intOf]; omega
      · by_cases h2 : (s[k].toNat : Int) = 41
        · by_cases h3 : 0 < n
          · go_wp2
            go_round
            case rel => exact ⟨k + 1, n - 1, by omega, by omega, by go_num, by go_num, bal_down hlt hb.out h1 h2 h3⟩
            case measure => simp [intOf]; omega
          · go_wp2
            go_ret
            exact ⟨ret_bool (bal_neg hlt hb.out h1 h2 h3).symm, rfl⟩
        · go_wp2
          go_ret
          exact ⟨ret_bool (bal_other hlt hb.out h1 h2).symm, rfl⟩
    · go_wp2
      go_ret
      exact ⟨ret_bool (by rw [hb.out, bal_end s k n hlt]), rfl⟩


end Go.Proofs.YtgkgoofapgabhaaDoor
