/- IsReserved and IsName of both sides. -/
import Derived.Test.YtekobbeoaalibaaGreatDoorOpDefs
namespace Go.Proofs.YtekobbeoaalibaaGreatDoor
open Go.RowKit

/-- the strings that a slice literal lays -/
def litsInN : Code → List ByteArray
  | .seq a b => litsInN a ++ litsInN b
  | .region _ ops _ => ops.toList.flatMap fun o => match o.op with
    | .buildSlice _ _ ps => ps.toList.map fun p => match p.2 with
      | .const (.string s) => s
      | _ => ByteArray.empty
    | _ => []
  | .block _ c => litsInN c
  | .scope c => litsInN c
  | _ => []
noncomputable def reservedL : List ByteArray := match Tryz.f109.body with
  | some c => litsInN c
  | none => []
theorem reservedL_len : reservedL.length = 26 := by kernel_rfl
noncomputable def isRes (s : ByteArray) : Bool := Lib.containsS reservedL s
def nLetter (c : Nat) : Bool := decide ((97 ≤ c ∧ c ≤ 122) ∨ (65 ≤ c ∧ c ≤ 90) ∨ c = 95)
def nDigit (c : Nat) : Bool := decide (48 ≤ c ∧ c ≤ 57)
def nByte (c : Nat) : Bool := nLetter c || nDigit c
noncomputable def isNameB (s : ByteArray) : Bool := decide (1 ≤ s.size) && decide (s.size ≤ 12) && nLetter (byteAt s 0) && !isRes s && (List.range s.size).all fun j => nByte (byteAt s j)

set_option maxRecDepth 100000 in
theorem n_isLetter (c : Nat) (w : World) (_hc : c ≤ 255) : Calls Tryz.prog 119 #[.int .u8 c] w fun e w' => e = .returned (.bool (nLetter c)) ∧ w = w' := by
  go_enter Tryz.func119, Tryz.ntmps119
  go_wp2_with fail
  all_goals
    go_ret
    exact ⟨ret_bool (by rw [Bool.eq_iff_iff]; simp [nLetter]; omega), rfl⟩
set_option maxRecDepth 100000 in
theorem n_isDigit (c : Nat) (w : World) (_hc : c ≤ 255) : Calls Tryz.prog 117 #[.int .u8 c] w fun e w' => e = .returned (.bool (nDigit c)) ∧ w = w' := by
  go_enter Tryz.func117, Tryz.ntmps117
  go_wp2_with fail
  all_goals
    go_ret
    exact ⟨ret_bool (by rw [Bool.eq_iff_iff]; simp [nDigit]; omega), rfl⟩
set_option maxRecDepth 100000 in
theorem n_l5Letter (c : Nat) (w : World) (_hc : c ≤ 255) : Calls Tryz.prog 108 #[.int .u8 c] w fun e w' => e = .returned (.bool (nLetter c)) ∧ w = w' := by
  go_enter Tryz.func108, Tryz.ntmps108
  go_wp2_with fail
  all_goals
    go_ret
    exact ⟨ret_bool (by rw [Bool.eq_iff_iff]; simp [nLetter]; omega), rfl⟩
set_option maxRecDepth 100000 in
theorem n_l5Digit (c : Nat) (w : World) (_hc : c ≤ 255) : Calls Tryz.prog 110 #[.int .u8 c] w fun e w' => e = .returned (.bool (nDigit c)) ∧ w = w' := by
  go_enter Tryz.func110, Tryz.ntmps110
  go_wp2_with fail
  all_goals
    go_ret
    exact ⟨ret_bool (by rw [Bool.eq_iff_iff]; simp [nDigit]; omega), rfl⟩

set_option maxRecDepth 100000 in
set_option maxHeartbeats 1000000 in
theorem spec_l1Has (v : Value) (l : List ByteArray) (s : ByteArray) (w : World) {lo hi : Nat} (h : Rds w lo hi 1 v l.length (l.map .string)) :
    Calls Tryz.prog 133 #[v, .string s] w fun e w' => e = .returned (.bool (Lib.containsS l s)) ∧ w = w' := by
  obtain ⟨A, c, rfl, hc1, hc2, -⟩ := h.shape
  unfold maxLen at hc2
  go_enter Tryz.func133, Tryz.ntmps133
  go_wp2_with fail
  go_loop [5] (fun i => ∃ k : Nat, k ≤ l.length ∧ i = .int .i64 k ∧ Hid (s ∉ l.take k)) (fun i => l.length - (intOf i).toNat)
  case atStart => exact ⟨0, Nat.zero_le _, rfl, by simp [Hid]⟩
  case round =>
    obtain ⟨k, hk, rfl, hno⟩ := hrel
    by_cases hlt : k < l.length
    · obtain ⟨g, off, x, rfl, -, -, hx, hcell⟩ := h.atMap hlt
      by_cases he : x = s
      · subst he
        have HM := Lib.hid (List.mem_of_getElem? hx)
        have b := str_eq x
        clear hx
        go_wp2_with fail
        go_ret
        exact ⟨ret_bool ((Lib.containsS_iff _ _).2 HM.out).symm, rfl⟩
      · have b := str_ne he
        have HN : Hid (s ∉ l.take (k + 1)) := by show _; rw [take_snoc_of hx]; intro hm; rcases List.mem_append.1 hm with h1 | h1; exact hno.out h1; exact he (List.mem_singleton.1 h1).symm
        clear hx hno
        go_wp2_with fail
        go_round
        case rel => exact ⟨k + 1, by omega, by go_num, HN⟩
        case measure => simp [intOf]; omega
    · obtain rfl : k = l.length := by omega
      rw [List.take_length] at hno
      go_wp2_with fail
      go_ret
      exact ⟨ret_bool (by rw [Bool.eq_false_iff.2 (fun hc => hno.out ((Lib.containsS_iff _ _).1 hc))]), rfl⟩
set_option maxRecDepth 100000 in
theorem spec_IsReserved (s : ByteArray) (w : World) : Calls Tryz.prog 109 #[.string s] w fun e w' => e = .returned (.bool (isRes s)) ∧ Below w.heap.size w w' := by
  have H1 : Hid (∀ c : Array Value, c = (reservedL.map Value.string).toArray → Rds (w.alloc (.cells c 9)) w.heap.size (w.heap.size + 1) 1 (.slice (some ⟨w.heap.size, 0, none⟩) 26 26) reservedL.length (reservedL.map .string)) := by
    intro c hc
    rw [hc, reservedL_len]
    refine ⟨_, _, rfl, Nat.le_refl _, by decide, by rw [List.length_map, reservedL_len], (fun h => by cases h), fun _ => ⟨_, 0, rfl, Nat.le_refl _, Nat.lt_succ_self _, fun j u hu => ?_⟩⟩
    rw [Nat.zero_add, (Blk.new w 9 _).cell j, List.getElem?_toArray]
    exact hu
  go_enter Tryz.func109, Tryz.ntmps109
  go_wp2_with fail
  refine (spec_l1Has _ reservedL s _ (H1.out _ (by kernel_rfl))).mono ?_; rintro e w1 ⟨rfl, rfl⟩
  go_wp2_with fail
  go_ret
  exact ⟨rfl, (Below.refl _ _).alloc (Nat.le_refl _) _⟩
set_option maxRecDepth 100000 in
theorem impl_reservedWords (w : World) (ht : SpaceTab w) : Calls Tryz.prog 138 #[] w fun e w' => e = .returned (.slice (some ⟨w.heap.size, 0, none⟩) 26 26) ∧ Blk w' w.heap.size 9 (reservedL.map Value.string).toArray ∧ Below w.heap.size w w' := by
  go_enter Tryz.func138, Tryz.ntmps138
  go_wp2_with fail
  refine fields_at 26 (by decide) (by decide +kernel) (by decide +kernel) (by decide +kernel) ht ?_
  intro l w1 hd hl hne hB hb
  have he : l = reservedL := hd.trans (by kernel_rfl)
  rw [he] at hB
  clear hd he hl hne
  go_wp2_with fail
  go_ret
  exact ⟨rfl, hB, hb⟩
set_option maxRecDepth 100000 in
theorem impl_IsReserved (s : ByteArray) (w : World) (ht : SpaceTab w) : Calls Tryz.prog 118 #[.string s] w fun e w' => e = .returned (.bool (isRes s)) ∧ Below w.heap.size w w' := by
  have HE : Hid (Lib.containsS (reservedL.take 26) s = isRes s) := by show _ = _; rw [List.take_of_length_le (by rw [reservedL_len]; exact Nat.le_refl _)]; rfl
  go_enter Tryz.func118, Tryz.ntmps118
  go_wp2_with fail
  refine (impl_reservedWords _ ht).mono ?_; rintro e w1 ⟨rfl, hB, hb⟩
  have hc := Lib.hid (fun j (hj : j < reservedL.length) => text_at hB j hj)
  clear hB
  go_wp2_with fail
  refine (Tryz.slices_Contains_string w.heap.size 0 26 26 reservedL s w1 (by rw [reservedL_len]; exact Nat.le_refl _) (by omega) (fun j hj => by rw [Nat.zero_add]; exact hc.out j hj)).mono ?_
  rw [HE.out]
  rintro e w2 ⟨rfl, rfl⟩
  go_wp2_with fail
  go_ret
  exact ⟨rfl, hb⟩

theorem nm_short {s : ByteArray} (h : s.size < 1 ∨ 12 < s.size) : isNameB s = false := by
  unfold isNameB
  rcases h with h | h
  · rw [decide_eq_false (by omega : ¬ 1 ≤ s.size)]; rfl
  · rw [decide_eq_false (by omega : ¬ s.size ≤ 12)]; simp
theorem nm_head {s : ByteArray} (h : nLetter (byteAt s 0) = false) : isNameB s = false := by unfold isNameB; rw [h]; simp
theorem nm_res {s : ByteArray} (h : isRes s = true) : isNameB s = false := by unfold isNameB; rw [h]; simp
theorem nm_bad {s : ByteArray} {j : Nat} (hj : j < s.size) (h : nByte (byteAt s j) = false) : isNameB s = false := by
  have : ((List.range s.size).all fun j => nByte (byteAt s j)) = false := by
    rw [List.all_eq_false]
    exact ⟨j, List.mem_range.2 hj, by rw [h]; simp⟩
  unfold isNameB; rw [this]; simp
theorem nm_yes {s : ByteArray} (h1 : 1 ≤ s.size) (h2 : s.size ≤ 12) (h3 : nLetter (byteAt s 0) = true) (h4 : isRes s = false) (h5 : ∀ j, j < s.size → nByte (byteAt s j) = true) : isNameB s = true := by
  unfold isNameB
  rw [decide_eq_true h1, decide_eq_true h2, h3, h4, List.all_eq_true.2 fun j hj => h5 j (List.mem_range.1 hj)]
  rfl

set_option maxRecDepth 100000 in
set_option maxHeartbeats 4000000 in
theorem impl_IsName (s : ByteArray) (w : World) (ht : SpaceTab w) : Calls Tryz.prog 89 #[.string s] w fun e w' => e = .returned (.bool (isNameB s)) ∧ Below w.heap.size w w' := by
  by_cases h1 : s.size < 1
  · have H := Lib.hid (nm_short (s := s) (.inl h1))
    go_enter Tryz.func89, Tryz.ntmps89
    go_wp2_with fail
    go_ret
    exact ⟨ret_bool H.out.symm, Below.refl _ _⟩
  by_cases h2 : 12 < s.size
  · have H := Lib.hid (nm_short (s := s) (.inr h2))
    go_enter Tryz.func89, Tryz.ntmps89
    go_wp2_with fail
    go_ret
    exact ⟨ret_bool H.out.symm, Below.refl _ _⟩
  have h0 : 0 < s.size := by omega
  have HB := Lib.hid (byteAt_eq s 0 h0)
  have hb0 : s[0].toNat ≤ 255 := by have := s[0].toNat_lt; omega
  have HC0 := Lib.hid (fun w => n_isDigit s[0].toNat w hb0)
  rw [← HB.out] at HC0
  cases hd : nDigit (byteAt s 0) with
  | true =>
    have H := Lib.hid (nm_head (s := s) (by simp [nDigit] at hd; simp [nLetter]; omega))
    rw [hd] at HC0
    clear hd
    go_enter Tryz.func89, Tryz.ntmps89
    go_wp2_with fail
    rw [← HB.out]
    refine (HC0.out _).mono ?_; rintro e w1 ⟨rfl, rfl⟩
    go_wp2_with fail
    go_ret
    exact ⟨ret_bool H.out.symm, Below.refl _ _⟩
  | false =>
    rw [hd] at HC0
    have HD := Lib.hid hd
    clear hd
    have HR := Lib.hid (fun w ht => impl_IsReserved s w ht)
    cases hr : isRes s with
    | true =>
      have H := Lib.hid (nm_res hr)
      rw [hr] at HR
      clear hr
      go_enter Tryz.func89, Tryz.ntmps89
      go_wp2_with fail
      rw [← HB.out]
      refine (HC0.out _).mono ?_; rintro e w1 ⟨rfl, rfl⟩
      go_wp2_with fail
      refine (HR.out _ ht).mono ?_; rintro e w1 ⟨rfl, hb⟩
      go_wp2_with fail
      go_ret
      exact ⟨ret_bool H.out.symm, hb⟩
    | false =>
      have HRF := Lib.hid hr
      rw [hr] at HR
      clear hr
      go_enter Tryz.func89, Tryz.ntmps89
      go_wp2_with fail
      rw [← HB.out]
      refine (HC0.out _).mono ?_; rintro e w1 ⟨rfl, rfl⟩
      go_wp2_with fail
      refine (HR.out _ ht).mono ?_; rintro e w1 ⟨rfl, hb⟩
      go_wp2_with fail
      go_loop [3] (fun i => ∃ k : Nat, k ≤ s.size ∧ i = .int .i64 k ∧ Hid (∀ j, j < k → nByte (byteAt s j) = true)) (fun i => s.size - (intOf i).toNat)
      case atStart => exact ⟨0, Nat.zero_le _, rfl, fun j hj => by omega⟩
      case round =>
        obtain ⟨k, hk, rfl, hgo⟩ := hrel
        by_cases hlt : k < s.size
        · have hbk : s[k].toNat ≤ 255 := by have := s[k].toNat_lt; omega
          have HK := Lib.hid (byteAt_eq s k hlt)
          have HL := Lib.hid (fun w => n_isLetter s[k].toNat w hbk)
          have HG := Lib.hid (fun w => n_isDigit s[k].toNat w hbk)
          cases hl : nLetter s[k].toNat with
          | true =>
            rw [hl] at HL
            have HN : Hid (∀ j, j < k + 1 → nByte (byteAt s j) = true) := by
              intro j hj
              by_cases e : j = k
              · rw [e, HK.out, nByte, hl]; rfl
              · exact hgo.out j (by omega)
            clear hl hgo
            go_wp2_with fail
            refine (HL.out _).mono ?_; rintro e w2 ⟨rfl, rfl⟩
            go_wp2_with fail
            go_round
            case rel => exact ⟨k + 1, by omega, by go_num, HN⟩
            case measure => simp [intOf]; omega
          | false =>
            rw [hl] at HL
            cases hg : nDigit s[k].toNat with
            | true =>
              rw [hg] at HG
              have HN : Hid (∀ j, j < k + 1 → nByte (byteAt s j) = true) := by
                intro j hj
                by_cases e : j = k
                · rw [e, HK.out, nByte, hg]; simp
                · exact hgo.out j (by omega)
              clear hl hg hgo
              go_wp2_with fail
              refine (HL.out _).mono ?_; rintro e w2 ⟨rfl, rfl⟩
              go_wp2_with fail
              refine (HG.out _).mono ?_; rintro e w2 ⟨rfl, rfl⟩
              go_wp2_with fail
              go_round
              case rel => exact ⟨k + 1, by omega, by go_num, HN⟩
              case measure => simp [intOf]; omega
            | false =>
              rw [hg] at HG
              have H := Lib.hid (nm_bad hlt (by rw [HK.out, nByte, hl, hg]; rfl))
              clear hl hg hgo
              go_wp2_with fail
              refine (HL.out _).mono ?_; rintro e w2 ⟨rfl, rfl⟩
              go_wp2_with fail
              refine (HG.out _).mono ?_; rintro e w2 ⟨rfl, rfl⟩
              go_wp2_with fail
              go_ret
              exact ⟨ret_bool H.out.symm, hb⟩
        · obtain rfl : k = s.size := by omega
          have H := Lib.hid (nm_yes (by omega) (by omega) (by have h9 := hgo.out 0 h0; have h8 := HD.out; simp only [nByte, h8, Bool.or_false] at h9; exact h9) HRF.out hgo.out)
          clear hgo
          go_wp2_with fail
          go_ret
          exact ⟨ret_bool H.out.symm, hb⟩

set_option maxRecDepth 100000 in
set_option maxHeartbeats 4000000 in
theorem spec_IsName (s : ByteArray) (w : World) : Calls Tryz.prog 81 #[.string s] w fun e w' => e = .returned (.bool (isNameB s)) ∧ Below w.heap.size w w' := by
  by_cases h1 : s.size < 1
  · have H := Lib.hid (nm_short (s := s) (.inl h1))
    go_enter Tryz.func81, Tryz.ntmps81
    go_wp2_with fail
    go_ret
    exact ⟨ret_bool H.out.symm, Below.refl _ _⟩
  by_cases h2 : 12 < s.size
  · have H := Lib.hid (nm_short (s := s) (.inr h2))
    go_enter Tryz.func81, Tryz.ntmps81
    go_wp2_with fail
    go_ret
    exact ⟨ret_bool H.out.symm, Below.refl _ _⟩
  have h0 : 0 < s.size := by omega
  have HB := Lib.hid (byteAt_eq s 0 h0)
  have hb0 : s[0].toNat ≤ 255 := by have := s[0].toNat_lt; omega
  have HC0 := Lib.hid (fun w => n_l5Letter s[0].toNat w hb0)
  rw [← HB.out] at HC0
  cases hd : nLetter (byteAt s 0) with
  | false =>
    have H := Lib.hid (nm_head (s := s) hd)
    rw [hd] at HC0
    clear hd
    go_enter Tryz.func81, Tryz.ntmps81
    go_wp2_with fail
    rw [← HB.out]
    refine (HC0.out _).mono ?_; rintro e w1 ⟨rfl, rfl⟩
    go_wp2_with fail
    go_ret
    exact ⟨ret_bool H.out.symm, Below.refl _ _⟩
  | true =>
    rw [hd] at HC0
    have HD := Lib.hid hd
    clear hd
    have HR := Lib.hid (fun w => spec_IsReserved s w)
    cases hr : isRes s with
    | true =>
      have H := Lib.hid (nm_res hr)
      rw [hr] at HR
      clear hr
      go_enter Tryz.func81, Tryz.ntmps81
      go_wp2_with fail
      rw [← HB.out]
      refine (HC0.out _).mono ?_; rintro e w1 ⟨rfl, rfl⟩
      go_wp2_with fail
      refine (HR.out _).mono ?_; rintro e w1 ⟨rfl, hb⟩
      go_wp2_with fail
      go_ret
      exact ⟨ret_bool H.out.symm, hb⟩
    | false =>
      have HRF := Lib.hid hr
      rw [hr] at HR
      clear hr
      go_enter Tryz.func81, Tryz.ntmps81
      go_wp2_with fail
      rw [← HB.out]
      refine (HC0.out _).mono ?_; rintro e w1 ⟨rfl, rfl⟩
      go_wp2_with fail
      refine (HR.out _).mono ?_; rintro e w1 ⟨rfl, hb⟩
      go_wp2_with fail
      go_loop [3] (fun i => ∃ k : Nat, k ≤ s.size ∧ i = .int .i64 k ∧ Hid (∀ j, j < k → nByte (byteAt s j) = true)) (fun i => s.size - (intOf i).toNat)
      case atStart => exact ⟨0, Nat.zero_le _, rfl, fun j hj => by omega⟩
      case round =>
        obtain ⟨k, hk, rfl, hgo⟩ := hrel
        by_cases hlt : k < s.size
        · have hbk : s[k].toNat ≤ 255 := by have := s[k].toNat_lt; omega
          have HK := Lib.hid (byteAt_eq s k hlt)
          have HL := Lib.hid (fun w => n_l5Letter s[k].toNat w hbk)
          have HG := Lib.hid (fun w => n_l5Digit s[k].toNat w hbk)
          cases hl : nLetter s[k].toNat with
          | true =>
            rw [hl] at HL
            have HN : Hid (∀ j, j < k + 1 → nByte (byteAt s j) = true) := by
              intro j hj
              by_cases e : j = k
              · rw [e, HK.out, nByte, hl]; rfl
              · exact hgo.out j (by omega)
            clear hl hgo
            go_wp2_with fail
            refine (HL.out _).mono ?_; rintro e w2 ⟨rfl, rfl⟩
            go_wp2_with fail
            go_round
            case rel => exact ⟨k + 1, by omega, by go_num, HN⟩
            case measure => simp [intOf]; omega
          | false =>
            rw [hl] at HL
            cases hg : nDigit s[k].toNat with
            | true =>
              rw [hg] at HG
              have HN : Hid (∀ j, j < k + 1 → nByte (byteAt s j) = true) := by
                intro j hj
                by_cases e : j = k
                · rw [e, HK.out, nByte, hg]; simp
                · exact hgo.out j (by omega)
              clear hl hg hgo
              go_wp2_with fail
              refine (HL.out _).mono ?_; rintro e w2 ⟨rfl, rfl⟩
              go_wp2_with fail
              refine (HG.out _).mono ?_; rintro e w2 ⟨rfl, rfl⟩
              go_wp2_with fail
              go_round
              case rel => exact ⟨k + 1, by omega, by go_num, HN⟩
              case measure => simp [intOf]; omega
            | false =>
              rw [hg] at HG
              have H := Lib.hid (nm_bad hlt (by rw [HK.out, nByte, hl, hg]; rfl))
              clear hl hg hgo
              go_wp2_with fail
              refine (HL.out _).mono ?_; rintro e w2 ⟨rfl, rfl⟩
              go_wp2_with fail
              refine (HG.out _).mono ?_; rintro e w2 ⟨rfl, rfl⟩
              go_wp2_with fail
              go_ret
              exact ⟨ret_bool H.out.symm, hb⟩
        · obtain rfl : k = s.size := by omega
          have H := Lib.hid (nm_yes (by omega) (by omega) (HD.out) HRF.out hgo.out)
          clear hgo
          go_wp2_with fail
          go_ret
          exact ⟨ret_bool H.out.symm, hb⟩
end Go.Proofs.YtekobbeoaalibaaGreatDoor
