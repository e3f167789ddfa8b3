/- WordsOf of the reference and of the program return the same list of words in memory of their own. -/
import Derived.Test.YtgkgoofapgabhaaProg
import Derived.Test.YtgkgoofapgabhaaTexts
namespace Go.Proofs.Ytgkgoofapgabhaa
open Go.RowKit

def isLet (c : Nat) : Bool := (97 ≤ c && c ≤ 122) || (65 ≤ c && c ≤ 90)
def byteAt (s : ByteArray) (i : Nat) : Nat := (s.data.toList.getD i 0).toNat
theorem byteAt_eq (s : ByteArray) (i : Nat) (h : i < s.size) : byteAt s i = s[i].toNat := by
  unfold byteAt
  rw [List.getD, List.getElem?_eq_getElem (by simpa using h)]
  rfl
def wds (s : ByteArray) : Nat → Nat → Nat → List ByteArray
  | 0, _, _ => []
  | f + 1, i, a => if i < s.size ∧ isLet (byteAt s i) = true then wds s f (i + 1) a else (if a < i then [s.extract a i] else []) ++ wds s f (i + 1) (i + 1)
def wordsOf (s : ByteArray) : List ByteArray := wds s (s.size + 1) 0 0

section
variable {s : ByteArray} {acc : List ByteArray} {i a : Nat} (h : wordsOf s = acc ++ wds s (s.size + 1 - i) i a)
include h
theorem wds_let (hi : i < s.size) (hl : isLet (byteAt s i) = true) : wordsOf s = acc ++ wds s (s.size + 1 - (i + 1)) (i + 1) a := by
  rw [h, show s.size + 1 - i = (s.size + 1 - (i + 1)) + 1 by omega, wds, if_pos ⟨hi, hl⟩]
theorem wds_cut (hi : i ≤ s.size) (hl : ¬ (i < s.size ∧ isLet (byteAt s i) = true)) (ha : a < i) : wordsOf s = (acc ++ [s.extract a i]) ++ wds s (s.size + 1 - (i + 1)) (i + 1) (i + 1) := by
  rw [h, show s.size + 1 - i = (s.size + 1 - (i + 1)) + 1 by omega, wds, if_neg hl, if_pos ha, List.append_assoc]
theorem wds_skip (hi : i ≤ s.size) (hl : ¬ (i < s.size ∧ isLet (byteAt s i) = true)) (ha : ¬ a < i) : wordsOf s = acc ++ wds s (s.size + 1 - (i + 1)) (i + 1) (i + 1) := by
  rw [h, show s.size + 1 - i = (s.size + 1 - (i + 1)) + 1 by omega, wds, if_neg hl, if_neg ha, List.nil_append]
theorem wds_done (hi : s.size < i) : wordsOf s = acc := by
  rw [h, show s.size + 1 - i = 0 by omega, wds, List.append_nil]
end
theorem wds_end {s : ByteArray} {acc : List ByteArray} {i : Nat} (h : wordsOf s = acc ++ wds s (s.size + 1 - i) i i) (hi : ¬ i < s.size) : wordsOf s = acc := by
  by_cases h1 : i = s.size
  · subst h1
    exact wds_done (wds_skip h (Nat.le_refl _) (by omega) (by omega)) (by omega)
  · exact wds_done h (by omega)

theorem wds_len (s : ByteArray) : ∀ f i a, (wds s f i a).length ≤ f := by
  intro f
  induction f with
  | zero => intro i a; simp [wds]
  | succ f ih =>
    intro i a
    rw [wds]
    split
    · have := ih (i + 1) a; omega
    · have := ih (i + 1) (i + 1)
      split <;> simp <;> omega
theorem wordsOf_len (s : ByteArray) (h : s.size ≤ 1048576) : (wordsOf s).length ≤ 1048577 := by
  have := wds_len s (s.size + 1) 0 0
  unfold wordsOf; omega

theorem info_string : (Try.prog.info? 9).map (fun i => (i.zero, i.size, i.bytes)) = some (some (.string ByteArray.empty), 1, 16) := by kernel_rfl

/-- the call hands back the strings l in a row of its own; nothing that was there has changed -/
def OwnTexts (l : List ByteArray) (w : World) (e : Ending) (w' : World) : Prop :=
  ∃ v, e = .returned v ∧ w'.ownsRow w.heap.size 9 1 v l.length (l.map .string) ∧ Below w.heap.size w w'

theorem isLet_lo {c : Nat} (h1 : 97 ≤ c) (h2 : c ≤ 122) : isLet c = true := by simp [isLet, h1, h2]
theorem isLet_up {c : Nat} (h1 : 65 ≤ c) (h2 : c ≤ 90) : isLet c = true := by simp [isLet, h1, h2]
theorem isLet_no {c : Nat} (h : c < 65 ∨ (90 < c ∧ c < 97) ∨ 122 < c) : ¬ isLet c = true := by simp [isLet]; omega
theorem let_cases (c : Nat) : (97 ≤ c ∧ c ≤ 122) ∨ (65 ≤ c ∧ c ≤ 90) ∨ c < 65 ∨ (90 < c ∧ c < 97) ∨ 122 < c := by omega

set_option maxRecDepth 100000 in
set_option maxHeartbeats 1000000 in
theorem spec_WordsOf (s : ByteArray) (w : World) (hs : s.size ≤ 1048576) :
    Calls Try.prog 19 #[.string s] w (OwnTexts (wordsOf s) w) := by
  go_enter Try.func19, Try.ntmps19
  go_wp2
  go_loopw [3, 4, 5] (fun v a i wr => ∃ (k f : Nat) (acc : List ByteArray), k ≤ s.size + 1 ∧ f ≤ k ∧ acc.length ≤ k ∧ i = .int .i64 k ∧ a = .int .i64 f ∧ Hid (wordsOf s = acc ++ wds s (s.size + 1 - k) k f) ∧
      wr.ownsRow w.heap.size 9 1 v acc.length (acc.map .string) ∧ Below w.heap.size w wr) (fun _ _ i _ => s.size + 1 - (intOf i).toNat)
  case atStart => exact ⟨0, 0, [], Nat.zero_le _, Nat.le_refl _, Nat.le_refl _, rfl, rfl, rfl, World.ownsRow_lit w #[] 0 (Nat.le_refl _) (Nat.zero_le _) rfl, (Below.refl _ _).alloc (Nat.le_refl _) _⟩
  case round =>
    obtain ⟨k, f, acc, hk, hf, hacc, rfl, rfl, hw, hown, hb⟩ := hrel
    obtain ⟨wo, rfl⟩ : ∃ wo : World, wo = wr := ⟨_, rfl⟩
    by_cases hks : k < s.size
    · have hby := byteAt_eq s k hks
      rcases let_cases s[k].toNat with ⟨g1, g2⟩ | ⟨g1, g2⟩ | hno
      · have HW := Lib.hid (wds_let hw.out hks (by rw [hby]; exact isLet_lo g1 g2))
        clear hw hby
        go_wp2
        go_roundw
        case rel => exact ⟨k + 1, f, acc, by omega, by omega, by omega, by go_num, by go_num, HW.out, hown, hb⟩
        case measure => simp [intOf]; omega
      · have HW := Lib.hid (wds_let hw.out hks (by rw [hby]; exact isLet_up g1 g2))
        clear hw hby
        go_wp2
        go_roundw
        case rel => exact ⟨k + 1, f, acc, by omega, by omega, by omega, by go_num, by go_num, HW.out, hown, hb⟩
        case measure => simp [intOf]; omega
      · have hnl : ¬ (k < s.size ∧ isLet (byteAt s k) = true) := by rw [hby]; exact fun h => isLet_no hno h.2
        by_cases hfk : f < k
        · have HW := Lib.hid (wds_cut hw.out (by omega) hnl hfk)
          clear hw hby hnl
          rcases hno with hno | ⟨hno, hno2⟩ | hno
          all_goals
            go_wp2_with (first
              | (at_builtin; refine wpList_push rfl (.tmp 44) (.tmp 49) 29 rfl 9 _ 1 16 info_string Try.underlying29 rfl (by decide) (by decide) w.heap.size _ _ _ rfl hown #[.string (s.extract f k)] 1 _ rfl rfl (by simp [Value.oneCell']) (by omega) hb.size ?_))
            rintro v' w1 hown' hgrow -
            have hb1 := below_push hb hb.size hown hgrow
            clear hgrow
            go_wp2
            go_roundw
            case rel => exact ⟨k + 1, k + 1, acc ++ [s.extract f k], by omega, by omega, by simp; omega, by go_num, by go_num, HW.out, by simpa using hown', hb1⟩
            case measure => simp [intOf]; omega
        · have HW := Lib.hid (wds_skip hw.out (by omega) hnl hfk)
          clear hw hby hnl
          rcases hno with hno | ⟨hno, hno2⟩ | hno
          all_goals
            go_wp2
            go_roundw
            case rel => exact ⟨k + 1, k + 1, acc, by omega, by omega, by omega, by go_num, by go_num, HW.out, hown, hb⟩
            case measure => simp [intOf]; omega
    · by_cases hke : k ≤ s.size
      · have hnl : ¬ (k < s.size ∧ isLet (byteAt s k) = true) := fun h => hks h.1
        by_cases hfk : f < k
        · have HW := Lib.hid (wds_cut hw.out hke hnl hfk)
          clear hw hnl
          go_wp2_with (first
            | (at_builtin; refine wpList_push rfl (.tmp 44) (.tmp 49) 29 rfl 9 _ 1 16 info_string Try.underlying29 rfl (by decide) (by decide) w.heap.size _ _ _ rfl hown #[.string (s.extract f k)] 1 _ rfl rfl (by simp [Value.oneCell']) (by omega) hb.size ?_))
          rintro v' w1 hown' hgrow -
          have hb1 := below_push hb hb.size hown hgrow
          clear hgrow
          go_wp2
          go_roundw
          case rel => exact ⟨k + 1, k + 1, acc ++ [s.extract f k], by omega, by omega, by simp; omega, by go_num, by go_num, HW.out, by simpa using hown', hb1⟩
          case measure => simp [intOf]; omega
        · have HW := Lib.hid (wds_skip hw.out hke hnl hfk)
          clear hw hnl
          go_wp2
          go_roundw
          case rel => exact ⟨k + 1, k + 1, acc, by omega, by omega, by omega, by go_num, by go_num, HW.out, hown, hb⟩
          case measure => simp [intOf]; omega
      · have HW := Lib.hid (wds_done hw.out (by omega))
        clear hw
        go_wp2
        go_ret
        exact ⟨_, rfl, by rw [HW.out]; exact hown, hb⟩

def isLetter (c : Nat) : Bool := isLet c || c == 95
set_option maxRecDepth 100000 in
theorem impl_isLetter (c : Nat) (w : World) (_hc : c ≤ 255) :
    Calls Try.prog 35 #[.int .u8 c] w fun e w' => e = .returned (.bool (isLetter c)) ∧ w = w' := by
  go_enter Try.func35, Try.ntmps35
  go_wp2
  all_goals
    go_ret
    refine ⟨ret_bool ?_, rfl⟩
    rw [Bool.eq_iff_iff]
    simp [isLetter, isLet]
    omega

set_option maxRecDepth 100000 in
set_option maxHeartbeats 1000000 in
theorem impl_WordsOf (s : ByteArray) (w : World) (hs : s.size ≤ 1048576) :
    Calls Try.prog 20 #[.string s] w (OwnTexts (wordsOf s) w) := by
  go_enter Try.func20, Try.ntmps20
  go_wp2_with fail
  go_loopw [3, 4] (fun v i wr => ∃ (k : Nat) (acc : List ByteArray), k ≤ s.size + 1 ∧ acc.length ≤ k ∧ i = .int .i64 k ∧ Hid (wordsOf s = acc ++ wds s (s.size + 1 - k) k k) ∧
      wr.ownsRow w.heap.size 9 1 v acc.length (acc.map .string) ∧ Below w.heap.size w wr) (fun _ i _ => s.size + 1 - (intOf i).toNat)
  case atStart => exact ⟨0, [], Nat.zero_le _, Nat.le_refl _, rfl, rfl, World.ownsRow_lit w #[] 0 (Nat.le_refl _) (Nat.zero_le _) rfl, (Below.refl _ _).alloc (Nat.le_refl _) _⟩
  case round =>
    obtain ⟨k, acc, hk, hacc, rfl, hw, hown, hb⟩ := hrel
    obtain ⟨wo, rfl⟩ : ∃ wo : World, wo = wr := ⟨_, rfl⟩
    by_cases hks : k < s.size
    · go_wp2_with fail
      go_loop [5] (fun i => ∃ j : Nat, k ≤ j ∧ j ≤ s.size ∧ i = .int .i64 j ∧ Hid (wordsOf s = acc ++ wds s (s.size + 1 - j) j k)) (fun i => s.size - (intOf i).toNat)
      case atStart => exact ⟨k, Nat.le_refl _, by omega, rfl, hw⟩
      case round =>
        obtain ⟨j, hkj, hjs, rfl, hw2⟩ := hrel
        clear hw
        by_cases hj : j < s.size
        · have hby := byteAt_eq s j hj
          have hc255 : s[j].toNat ≤ 255 := by have := s[j].toNat_lt; omega
          cases hl : isLet s[j].toNat with
          | true =>
            have HW := Lib.hid (wds_let hw2.out hj (by rw [hby]; exact hl))
            have hIL : isLetter s[j].toNat = true := by simp [isLetter, hl]
            have h95 : ((s[j].toNat : Int) != 95) = true := by
              simp
              intro h
              have : s[j].toNat = 95 := by omega
              rw [this] at hl
              simp [isLet] at hl
            clear hw2 hby hl
            go_wp2_with fail
            refine (impl_isLetter _ _ hc255).mono ?_; rintro e w' ⟨rfl, rfl⟩
            rw [hIL]
            go_wp2_with fail
            go_round
            case rel => exact ⟨j + 1, by omega, by omega, by go_num, HW.out⟩
            case measure => simp [intOf]; omega
          | false =>
            have hnl : ¬ (j < s.size ∧ isLet (byteAt s j) = true) := by rw [hby, hl]; simp
            by_cases h95 : (s[j].toNat : Int) = 95
            · have hIL : isLetter s[j].toNat = true := by simp [isLetter]; omega
              have hb95 : ((s[j].toNat : Int) != 95) = false := by simpa using h95
              clear h95 hby hl
              by_cases hkj2 : k < j
              · have HW := Lib.hid (wds_cut hw2.out hjs hnl hkj2)
                clear hw2 hnl
                go_wp2_with fail
                refine (impl_isLetter _ _ hc255).mono ?_; rintro e w' ⟨rfl, rfl⟩
                rw [hIL]
                go_wp2_with (first
                  | (at_builtin; refine wpList_push rfl (.tmp 33) (.tmp 38) 29 rfl 9 _ 1 16 info_string Try.underlying29 rfl (by decide) (by decide) w.heap.size _ _ _ rfl hown #[.string (s.extract k j)] 1 _ rfl rfl (by simp [Value.oneCell']) (by omega) hb.size ?_))
                rintro v' w1 hown' hgrow -
                have hb1 := below_push hb hb.size hown hgrow
                clear hgrow
                go_wp2_with fail
                go_roundw
                case rel => exact ⟨j + 1, acc ++ [s.extract k j], by omega, by simp; omega, by go_num, HW.out, by simpa using hown', hb1⟩
                case measure => simp [intOf]; omega
              · have HW := Lib.hid (wds_skip hw2.out hjs hnl hkj2)
                clear hw2 hnl
                go_wp2_with fail
                refine (impl_isLetter _ _ hc255).mono ?_; rintro e w' ⟨rfl, rfl⟩
                rw [hIL]
                go_wp2_with fail
                go_roundw
                case rel => exact ⟨j + 1, acc, by omega, by omega, by go_num, HW.out, hown, hb⟩
                case measure => simp [intOf]; omega
            · have hIL : isLetter s[j].toNat = false := by simp [isLetter, hl]; omega
              clear h95 hby hl
              by_cases hkj2 : k < j
              · have HW := Lib.hid (wds_cut hw2.out hjs hnl hkj2)
                clear hw2 hnl
                go_wp2_with fail
                refine (impl_isLetter _ _ hc255).mono ?_; rintro e w' ⟨rfl, rfl⟩
                rw [hIL]
                go_wp2_with (first
                  | (at_builtin; refine wpList_push rfl (.tmp 33) (.tmp 38) 29 rfl 9 _ 1 16 info_string Try.underlying29 rfl (by decide) (by decide) w.heap.size _ _ _ rfl hown #[.string (s.extract k j)] 1 _ rfl rfl (by simp [Value.oneCell']) (by omega) hb.size ?_))
                rintro v' w1 hown' hgrow -
                have hb1 := below_push hb hb.size hown hgrow
                clear hgrow
                go_wp2_with fail
                go_roundw
                case rel => exact ⟨j + 1, acc ++ [s.extract k j], by omega, by simp; omega, by go_num, HW.out, by simpa using hown', hb1⟩
                case measure => simp [intOf]; omega
              · have HW := Lib.hid (wds_skip hw2.out hjs hnl hkj2)
                clear hw2 hnl
                go_wp2_with fail
                refine (impl_isLetter _ _ hc255).mono ?_; rintro e w' ⟨rfl, rfl⟩
                rw [hIL]
                go_wp2_with fail
                go_roundw
                case rel => exact ⟨j + 1, acc, by omega, by omega, by go_num, HW.out, hown, hb⟩
                case measure => simp [intOf]; omega
        · have hnl : ¬ (j < s.size ∧ isLet (byteAt s j) = true) := fun h => hj h.1
          by_cases hkj2 : k < j
          · have HW := Lib.hid (wds_cut hw2.out hjs hnl hkj2)
            clear hw2 hnl
            go_wp2_with (first
              | (at_builtin; refine wpList_push rfl (.tmp 33) (.tmp 38) 29 rfl 9 _ 1 16 info_string Try.underlying29 rfl (by decide) (by decide) w.heap.size _ _ _ rfl hown #[.string (s.extract k j)] 1 _ rfl rfl (by simp [Value.oneCell']) (by omega) hb.size ?_))
            rintro v' w1 hown' hgrow -
            have hb1 := below_push hb hb.size hown hgrow
            clear hgrow
            go_wp2_with fail
            go_roundw
            case rel => exact ⟨j + 1, acc ++ [s.extract k j], by omega, by simp; omega, by go_num, HW.out, by simpa using hown', hb1⟩
            case measure => simp [intOf]; omega
          · have HW := Lib.hid (wds_skip hw2.out hjs hnl hkj2)
            clear hw2 hnl
            go_wp2_with fail
            go_roundw
            case rel => exact ⟨j + 1, acc, by omega, by omega, by go_num, HW.out, hown, hb⟩
            case measure => simp [intOf]; omega
    · have HW := Lib.hid (wds_end hw.out hks)
      clear hw
      go_wp2_with fail
      go_ret
      exact ⟨_, rfl, by rw [HW.out]; exact hown, hb⟩

set_option maxRecDepth 100000 in
set_option maxHeartbeats 1000000 in
theorem walk_WordsOf (s : ByteArray) (w : World) (_h : s.size ≤ maxLen) :
    Calls Try.prog 6 #[.string s] w fun e w' => e = .returned (.bool true) ∧ Below w.heap.size w w' := by
  by_cases hs : s.size ≤ 1048576
  · have hlen := wordsOf_len s hs
    generalize hl : wordsOf s = l at *
    have Hl := Lib.hid hl
    clear hl
    go_enter Try.func6, Try.ntmps6
    go_wp2_with fail
    refine (spec_WordsOf s _ hs).mono ?_; rintro e w1 ⟨v0, rfl, ho0, hb0⟩
    rw [Hl.out] at ho0
    go_wp2_with fail
    refine (impl_WordsOf s _ hs).mono ?_; rintro e w2 ⟨v1, rfl, ho1, hb1⟩
    rw [Hl.out] at ho1
    have r0 := (Rds.of_own ho0).below hb1 (Nat.le_refl _)
    go_wp2_with fail
    refine (eqStringS_any _ _ _ _ _ (Rds.of_own ho1) r0).mono ?_; rintro e w3 ⟨rfl, hs3⟩
    rw [decide_eq_true rfl]
    go_wp2_with fail
    refine (markStringS_any _ _ _ 1 _ _ (hs3.own ho1) (by omega) (by omega) (by omega)).mono ?_; rintro e w4 ⟨rfl, ho4, hg4⟩
    go_wp2_with fail
    refine (heldStringS_any _ _ 1 _ (Rds.of_own ho4) (Nat.le_refl _) (by omega) (by omega) (by omega)).mono ?_; rintro e w5 ⟨rfl, hb5⟩
    go_wp2_with fail
    refine (impl_WordsOf s _ hs).mono ?_; rintro e w6 ⟨v2, rfl, ho6, hb6⟩
    rw [Hl.out] at ho6
    have z1 := hb0.size
    have z2 := hb1.size
    have z3 := hs3.size
    have z4 := hg4.size
    have z5 := hb5.size
    have r4 := (r0.same hs3).grown hg4 (by omega) (fun g hg => .inr (ho1.lt g hg).1)
    have r6 := (r4.below hb5 (by omega)).below hb6 (by omega)
    have b6 : Below w.heap.size w w6 := ((((hb0.trans (hb1.mono z1)).trans (hs3.below _)).trans (below_of_grown hg4 (by omega) (fun g hg => Nat.le_trans z1 (ho1.lt g hg).1))).trans (hb5.mono (by omega))).trans (hb6.mono (by omega))
    have m6 := ((Rds.of_own ho4).below hb5 (Nat.le_refl _)).below hb6 (by omega)
    have z6 := hb6.size
    clear hg4 r4 hb1 hb0 hb6 r0 hb5
    go_wp2_with fail
    refine (eqStringS_any _ _ _ _ _ (Rds.of_own ho6) r6).mono ?_; rintro e w7 ⟨rfl, hs7⟩
    have z7 := hs7.size
    rw [decide_eq_true rfl]
    go_wp2_with fail
    refine (heldStringS_any _ _ 1 _ (m6.same hs7) (by omega) (by omega) (by omega) (by omega)).mono ?_; rintro e w8 ⟨rfl, hb8⟩
    go_wp2_with fail
    go_ret
    exact ⟨rfl, (b6.trans (hs7.below _)).trans (hb8.mono (by omega))⟩
  · go_enter Try.func6, Try.ntmps6
    go_wp2_with fail
    go_ret
    exact ⟨rfl, Below.refl _ _⟩

end Go.Proofs.Ytgkgoofapgabhaa
