/- WordsOf of the reference and of the program return the same list of words in memory of their own. -/
import Derived.Test.YtgkgoofapgabhaaDoorProg
import Derived.Test.YtgkgoofapgabhaaDoorTexts
namespace Go.Proofs.YtgkgoofapgabhaaDoor
open Go.RowKit

def isLet (c : Nat) : Bool := (97 ≤ c && c ≤ 122) || (65 ≤ c && c ≤ 90)
def wds (s : ByteArray) : Nat → Nat → Nat → List ByteArray
  | 0, _, _ => []
  | f + 1, i, a => if i < s.size ∧ isLet (byteAt s i) = true then wds s f (i + 1) a else (if a < i then [s.extract a i] else []) ++ wds s f (i + 1) (i + 1)
def wordsOf (s : ByteArray) : List ByteArray := wds s (s.size + 1) 0 0

section
variable {s : ByteArray} {acc : List ByteArray} {i a : Nat} (h : wordsOf s = acc ++ wds s (s.size + 1 - i) i a)
include h
theorem wds_let (hi : i < s.size) (hl : isLet (byteAt s i) = true) : wordsOf s = acc ++ wds s (s.size + 1 - (i + 1)) (i + 1) a := by
  rw [h, show s.size + 1 - i = (s.size + 1 - (i + 1)) + 1 by omega, wds, if_pos ⟨hi, hl⟩]
theorem wds_cut (hi : i ≤ s.size) (hl : ¬ (i < s.size ∧ isLet (byteAt s i) = true)) (ha : a < i) : wordsOf s = (acc ++ [s.extract a i]) ++ wds s (s.size + 1 - (i + 1)) (i + 1) (i + 1) := by
  rw [h, show s.size + 1 - i = (s.size + 1 - (i + 1)) + 1 by omega, wds, if_neg hl, if_pos ha, List.append_assoc]
theorem wds_skip (hi : i ≤ s.size) (hl : ¬ (i < s.size ∧ isLet (byteAt s i) = true)) (ha : ¬ a < i) : wordsOf s = acc ++ wds s (s.size + 1 - (i + 1)) (i + 1) (i + 1) := by
  rw [h, show s.size + 1 - i = (s.size + 1 - (i + 1)) + 1 by omega, wds, if_neg hl, if_neg ha, List.nil_append]
theorem wds_done (hi : s.size < i) : wordsOf s = acc := by
  rw [h, show s.size + 1 - i = 0 by omega, wds, List.append_nil]
end
theorem wds_end {s : ByteArray} {acc : List ByteArray} {i : Nat} (h : wordsOf s = acc ++ wds s (s.size + 1 - i) i i) (hi : ¬ i < s.size) : wordsOf s = acc := by
  by_cases h1 : i = s.size
  · subst h1
    exact wds_done (wds_skip h (Nat.le_refl _) (by omega) (by omega)) (by omega)
  · exact wds_done h (by omega)

theorem wds_len (s : ByteArray) : ∀ f i a, (wds s f i a).length ≤ f := by
  intro f
  induction f with
  | zero => intro i a; simp [wds]
  | succ f ih =>
    intro i a
    rw [wds]
    split
    · have := ih (i + 1) a; omega
    · have := ih (i + 1) (i + 1)
      split <;> simp <;> omega
theorem wordsOf_len (s : ByteArray) (h : s.size ≤ 1048576) : (wordsOf s).length ≤ 1048577 := by
  have := wds_len s (s.size + 1) 0 0
  unfold wordsOf; omega

theorem isLet_lo {c : Nat} (h1 : 97 ≤ c) (h2 : c ≤ 122) : isLet c = true := by simp [isLet, h1, h2]
theorem isLet_up {c : Nat} (h1 : 65 ≤ c) (h2 : c ≤ 90) : isLet c = true := by simp [isLet, h1, h2]
theorem isLet_no {c : Nat} (h : c < 65 ∨ (90 < c ∧ c < 97) ∨ 122 < c) : ¬ isLet c = true := by simp [isLet]; omega
theorem let_cases (c : Nat) : (97 ≤ c ∧ c ≤ 122) ∨ (65 ≤ c ∧ c ≤ 90) ∨ c < 65 ∨ (90 < c ∧ c < 97) ∨ 122 < c := by omega

set_option maxRecDepth 100000 in
set_option maxHeartbeats 1000000 in
theorem spec_WordsOf (s : ByteArray) (w : World) (hs : s.size ≤ 1048576) :
    Calls Tryd.prog 45 #[.string s] w (OwnTexts (wordsOf s) w) := by
  go_enter Tryd.func45, Tryd.ntmps45
  go_wp2
  go_loopw [3, 4, 5] (fun v a i wr => ∃ (k f : Nat) (acc : List ByteArray), k ≤ s.size + 1 ∧ f ≤ k ∧ acc.length ≤ k ∧ i = .int .i64 k ∧ a = .int .i64 f ∧ Hid (wordsOf s = acc ++ wds s (s.size + 1 - k) k f) ∧
      wr.ownsRow w.heap.size 9 1 v acc.length (acc.map .string) ∧ Below w.heap.size w wr) (fun _ _ i _ => s.size + 1 - (intOf i).toNat)
  case atStart => exact ⟨0, 0, [], Nat.zero_le _, Nat.le_refl _, Nat.le_refl _, rfl, rfl, rfl, World.ownsRow_lit w #[] 0 (Nat.le_refl _) (Nat.zero_le _) rfl, (Below.refl _ _).alloc (Nat.le_refl _) _⟩
  case round =>
    obtain ⟨k, f, acc, hk, hf, hacc, rfl, rfl, hw, hown, hb⟩ := hrel
    obtain ⟨wo, rfl⟩ : ∃ wo : World, wo = wr := ⟨_, rfl⟩
    by_cases hks : k < s.size
    · have hby := byteAt_eq s k hks
      rcases let_cases s[k].toNat with ⟨g1, g2⟩ | ⟨g1, g2⟩ | hno
      · have HW := Lib.hid (wds_let hw.out hks (by rw [hby]; exact isLet_lo g1 g2))
        clear hw hby
        go_wp2
        go_roundw
        case rel => exact ⟨k + 1, f, acc, by omega, by omega, by omega, by go_num, by go_num, HW.out, hown, hb⟩
        case measure => simp [intOf]; omega
      · have HW := Lib.hid (wds_let hw.out hks (by rw [hby]; exact isLet_up g1 g2))
        clear hw hby
        go_wp2
        go_roundw
        case rel => exact ⟨k + 1, f, acc, by omega, by omega, by omega, by go_num, by go_num, HW.out, hown, hb⟩
        case measure => simp [intOf]; omega
      · have hnl : ¬ (k < s.size ∧ isLet (byteAt s k) = true) := by rw [hby]; exact fun h => isLet_no hno h.2
        by_cases hfk : f < k
        · have HW := Lib.hid (wds_cut hw.out (by omega) hnl hfk)
          clear hw hby hnl
          rcases hno with hno | ⟨hno, hno2⟩ | hno
          all_goals
            go_wp2_with (first
              | (at_builtin; refine wpList_push rfl (.tmp 44) (.tmp 49) 25 rfl 9 _ 1 16 info_string Tryd.underlying25 rfl (by decide) (by decide) w.heap.size _ _ _ rfl hown #[.string (s.extract f k)] 1 _ rfl rfl (by simp [Value.oneCell']) (by omega) hb.size ?_))
            rintro v' w1 hown' hgrow -
            have hb1 := below_push hb hb.size hown hgrow
            clear hgrow
            go_wp2
            go_roundw
            case rel => exact ⟨k + 1, k + 1, acc ++ [s.extract f k], by omega, by omega, by simp; omega, by go_num, by go_num, HW.out, by simpa using hown', hb1⟩
            case measure => simp [intOf]; omega
        · have HW := Lib.hid (wds_skip hw.out (by omega) hnl hfk)
          clear hw hby hnl
          rcases hno with hno | ⟨hno, hno2⟩ | hno
          all_goals
            go_wp2
            go_roundw
            case rel => exact ⟨k + 1, k + 1, acc, by omega, by omega, by omega, by go_num, by go_num, HW.out, hown, hb⟩
            case measure => simp [intOf]; omega
    · by_cases hke : k ≤ s.size
      · have hnl : ¬ (k < s.size ∧ isLet (byteAt s k) = true) := fun h => hks h.1
        by_cases hfk : f < k
        · have HW := Lib.hid (wds_cut hw.out hke hnl hfk)
          clear hw hnl
          go_wp2_with (first
            | (at_builtin; refine wpList_push rfl (.tmp 44) (.tmp 49) 25 rfl 9 _ 1 16 info_string Tryd.underlying25 rfl (by decide) (by decide) w.heap.size _ _ _ rfl hown #[.string (s.extract f k)] 1 _ rfl rfl (by simp [Value.oneCell']) (by omega) hb.size ?_))
          rintro v' w1 hown' hgrow -
          have hb1 := below_push hb hb.size hown hgrow
          clear hgrow
          go_wp2
          go_roundw
          case rel => exact ⟨k + 1, k + 1, acc ++ [s.extract f k], by omega, by omega, by simp; omega, by go_num, by go_num, HW.out, by simpa using hown', hb1⟩
          case measure => simp [intOf]; omega
        · have HW := Lib.hid (wds_skip hw.out hke hnl hfk)
          clear hw hnl
          go_wp2
          go_roundw
          case rel => exact ⟨k + 1, k + 1, acc, by omega, by omega, by omega, by go_num, by go_num, HW.out, hown, hb⟩
          case measure => simp [intOf]; omega
      · have HW := Lib.hid (wds_done hw.out (by omega))
        clear hw
        go_wp2
        go_ret
        exact ⟨_, rfl, by rw [HW.out]; exact hown, hb⟩

def isLetter (c : Nat) : Bool := isLet c || c == 95
set_option maxRecDepth 100000 in
theorem impl_isLetter (c : Nat) (w : World) (_hc : c ≤ 255) :
    Calls Tryd.prog 78 #[.int .u8 c] w fun e w' => e = .returned (.bool (isLetter c)) ∧ w = w' := by
  go_enter Tryd.func78, Tryd.ntmps78
  go_wp2
  all_goals
    go_ret
    refine ⟨ret_bool ?_, rfl⟩
    rw [Bool.eq_iff_iff]
    simp [isLetter, isLet]
    omega

set_option maxRecDepth 100000 in
set_option maxHeartbeats 1000000 in
theorem impl_WordsOf (s : ByteArray) (w : World) (hs : s.size ≤ 1048576) :
    Calls Tryd.prog 52 #[.string s] w (OwnTexts (wordsOf s) w) := by
  go_enter Tryd.func52, Tryd.ntmps52
  go_wp2_with fail
  go_loopw [3, 4] (fun v i wr => ∃ (k : Nat) (acc : List ByteArray), k ≤ s.size + 1 ∧ acc.length ≤ k ∧ i = .int .i64 k ∧ Hid (wordsOf s = acc ++ wds s (s.size + 1 - k) k k) ∧
      wr.ownsRow w.heap.size 9 1 v acc.length (acc.map .string) ∧ Below w.heap.size w wr) (fun _ i _ => s.size + 1 - (intOf i).toNat)
  case atStart => exact ⟨0, [], Nat.zero_le _, Nat.le_refl _, rfl, rfl, World.ownsRow_lit w #[] 0 (Nat.le_refl _) (Nat.zero_le _) rfl, (Below.refl _ _).alloc (Nat.le_refl _) _⟩
  case round =>
    obtain ⟨k, acc, hk, hacc, rfl, hw, hown, hb⟩ := hrel
    obtain ⟨wo, rfl⟩ : ∃ wo : World, wo = wr := ⟨_, rfl⟩
    by_cases hks : k < s.size
    · go_wp2_with fail
      go_loop [5] (fun i => ∃ j : Nat, k ≤ j ∧ j ≤ s.size ∧ i = .int .i64 j ∧ Hid (wordsOf s = acc ++ wds s (s.size + 1 - j) j k)) (fun i => s.size - (intOf i).toNat)
      case atStart => exact ⟨k, Nat.le_refl _, by omega, rfl, hw⟩
      case round =>
        obtain ⟨j, hkj, hjs, rfl, hw2⟩ := hrel
        clear hw
        by_cases hj : j < s.size
        · have hby := byteAt_eq s j hj
          have hc255 : s[j].toNat ≤ 255 := by have := s[j].toNat_lt; omega
          cases hl : isLet s[j].toNat with
          | true =>
            have HW := Lib.hid (wds_let hw2.out hj (by rw [hby]; exact hl))
            have hIL : isLetter s[j].toNat = true := by simp [isLetter, hl]
            have h95 : ((s[j].toNat : Int) != 95) = true := by
              simp
              intro h
              have : s[j].toNat = 95 := by omega
              rw [this] at hl
              simp [isLet] at hl
            clear hw2 hby hl
            go_wp2_with fail
            refine (impl_isLetter _ _ hc255).mono ?_; rintro e w' ⟨rfl, rfl⟩
            rw [hIL]
            go_wp2_with fail
            go_round
            case rel => exact ⟨j + 1, by omega, by omega, by go_num, HW.out⟩
            case measure => simp [intOf]; omega
          | false =>
            have hnl : ¬ (j < s.size ∧ isLet (byteAt s j) = true) := by rw [hby, hl]; simp
            by_cases h95 : (s[j].toNat : Int) = 95
            · have hIL : isLetter s[j].toNat = true := by simp [isLetter]; omega
              have hb95 : ((s[j].toNat : Int) != 95) = false := by simpa using h95
              clear h95 hby hl
              by_cases hkj2 : k < j
              · have HW := Lib.hid (wds_cut hw2.out hjs hnl hkj2)
                clear hw2 hnl
                go_wp2_with fail
                refine (impl_isLetter _ _ hc255).mono ?_; rintro e w' ⟨rfl, rfl⟩
                rw [hIL]
                go_wp2_with (first
                  | (at_builtin; refine wpList_push rfl (.tmp 33) (.tmp 38) 25 rfl 9 _ 1 16 info_string Tryd.underlying25 rfl (by decide) (by decide) w.heap.size _ _ _ rfl hown #[.string (s.extract k j)] 1 _ rfl rfl (by simp [Value.oneCell']) (by omega) hb.size ?_))
                rintro v' w1 hown' hgrow -
                have hb1 := below_push hb hb.size hown hgrow
                clear hgrow
                go_wp2_with fail
                go_roundw
                case rel => exact ⟨j + 1, acc ++ [s.extract k j], by omega, by simp; omega, by go_num, HW.out, by simpa using hown', hb1⟩
                case measure => simp [intOf]; omega
              · have HW := Lib.hid (wds_skip hw2.out hjs hnl hkj2)
                clear hw2 hnl
                go_wp2_with fail
                refine (impl_isLetter _ _ hc255).mono ?_; rintro e w' ⟨rfl, rfl⟩
                rw [hIL]
                go_wp2_with fail
                go_roundw
                case rel => exact ⟨j + 1, acc, by omega, by omega, by go_num, HW.out, hown, hb⟩
                case measure => simp [intOf]; omega
            · have hIL : isLetter s[j].toNat = false := by simp [isLetter, hl]; omega
              clear h95 hby hl
              by_cases hkj2 : k < j
              · have HW := Lib.hid (wds_cut hw2.out hjs hnl hkj2)
                clear hw2 hnl
                go_wp2_with fail
                refine (impl_isLetter _ _ hc255).mono ?_; rintro e w' ⟨rfl, rfl⟩
                rw [hIL]
                go_wp2_with (first
                  | (at_builtin; refine wpList_push rfl (.tmp 33) (.tmp 38) 25 rfl 9 _ 1 16 info_string Tryd.underlying25 rfl (by decide) (by decide) w.heap.size _ _ _ rfl hown #[.string (s.extract k j)] 1 _ rfl rfl (by simp [Value.oneCell']) (by omega) hb.size ?_))
                rintro v' w1 hown' hgrow -
                have hb1 := below_push hb hb.size hown hgrow
                clear hgrow
                go_wp2_with fail
                go_roundw
                case rel => exact ⟨j + 1, acc ++ [s.extract k j], by omega, by simp; omega, by go_num, HW.out, by simpa using hown', hb1⟩
                case measure => simp [intOf]; omega
              · have HW := Lib.hid (wds_skip hw2.out hjs hnl hkj2)
                clear hw2 hnl
                go_wp2_with fail
                refine (impl_isLetter _ _ hc255).mono ?_; rintro e w' ⟨rfl, rfl⟩
                rw [hIL]
                go_wp2_with fail
                go_roundw
                case rel => exact ⟨j + 1, acc, by omega, by omega, by go_num, HW.out, hown, hb⟩
                case measure => simp [intOf]; omega
        · have hnl : ¬ (j < s.size ∧ isLet (byteAt s j) = true) := fun h => hj h.1
          by_cases hkj2 : k < j
          · have HW := Lib.hid (wds_cut hw2.out hjs hnl hkj2)
            clear hw2 hnl
            go_wp2_with (first
              | (at_builtin; refine wpList_push rfl (.tmp 33) (.tmp 38) 25 rfl 9 _ 1 16 info_string Tryd.underlying25 rfl (by decide) (by decide) w.heap.size _ _ _ rfl hown #[.string (s.extract k j)] 1 _ rfl rfl (by simp [Value.oneCell']) (by omega) hb.size ?_))
            rintro v' w1 hown' hgrow -
            have hb1 := below_push hb hb.size hown hgrow
            clear hgrow
            go_wp2_with fail
            go_roundw
            case rel => exact ⟨j + 1, acc ++ [s.extract k j], by omega, by simp; omega, by go_num, HW.out, by simpa using hown', hb1⟩
            case measure => simp [intOf]; omega
          · have HW := Lib.hid (wds_skip hw2.out hjs hnl hkj2)
            clear hw2 hnl
            go_wp2_with fail
            go_roundw
            case rel => exact ⟨j + 1, acc, by omega, by omega, by go_num, HW.out, hown, hb⟩
            case measure => simp [intOf]; omega
    · have HW := Lib.hid (wds_end hw.out hks)
      clear hw
      go_wp2_with fail
      go_ret
      exact ⟨_, rfl, by rw [HW.out]; exact hown, hb⟩

end Go.Proofs.YtgkgoofapgabhaaDoor
