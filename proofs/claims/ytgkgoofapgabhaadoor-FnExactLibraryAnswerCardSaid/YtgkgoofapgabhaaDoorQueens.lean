/- QueensCount of the reference and of the program return the same number, by one recursive count of placements. -/
import Derived.Test.YtgkgoofapgabhaaDoorProg
import Derived.Test.YtgkgoofapgabhaaDoorMem
import Derived.Test.YtgkgoofapgabhaaDoorPrimes
namespace Go.Proofs.YtgkgoofapgabhaaDoor
open Go.RowKit

/-- the queen of column i takes row r away -/
def hitB (rows : List Int) (r : Int) (i : Nat) : Bool :=
  decide (rows.getD i 0 = r ∨ rows.getD i 0 = r - ((rows.length : Int) - i) ∨ rows.getD i 0 = r + ((rows.length : Int) - i))
def safeTo (rows : List Int) (r : Int) (k : Nat) : Bool := (List.range k).all fun i => !hitB rows r i
theorem safeTo_succ (rows : List Int) (r : Int) (k : Nat) : safeTo rows r (k + 1) = (safeTo rows r k && !hitB rows r k) := by simp [safeTo, List.range_succ]
def qc : Nat → Nat → List Int → Int
  | 0, _, _ => 1
  | m + 1, n, rows => ((List.range n).map fun (r : Nat) => if safeTo rows r rows.length then qc m n (rows ++ [(r : Int)]) else 0).sum
def qsum (m n : Nat) (rows : List Int) (k : Nat) : Int := ((List.range k).map fun (r : Nat) => if safeTo rows r rows.length then qc m n (rows ++ [(r : Int)]) else 0).sum
theorem qsum_all (m n : Nat) (rows : List Int) : qc (m + 1) n rows = qsum m n rows n := rfl
theorem qsum_succ (m n : Nat) (rows : List Int) (k : Nat) : qsum m n rows (k + 1) = qsum m n rows k + if safeTo rows k rows.length then qc m n (rows ++ [(k : Int)]) else 0 := by
  simp [qsum, List.range_succ]
theorem qc_bd (n : Nat) (hn : n ≤ 7) : ∀ (m : Nat) (rows : List Int), 0 ≤ qc m n rows ∧ qc m n rows ≤ 7 ^ m := by
  intro m
  induction m with
  | zero => intro rows; simp [qc]
  | succ m ih =>
    intro rows
    have hk : ∀ k : Nat, 0 ≤ qsum m n rows k ∧ qsum m n rows k ≤ k * 7 ^ m := by
      intro k
      induction k with
      | zero => simp [qsum]
      | succ k ihk =>
        rw [qsum_succ]
        have := ih (rows ++ [(k : Int)])
        have hp : (0 : Int) ≤ 7 ^ m := Int.pow_nonneg (by omega)
        have he : ((k + 1 : Nat) : Int) * 7 ^ m = k * 7 ^ m + 7 ^ m := by rw [Int.natCast_add, Int.add_mul]; simp
        split <;> omega
    rw [qsum_all]
    have h := hk n
    have hp : (0 : Int) ≤ 7 ^ m := Int.pow_nonneg (by omega)
    refine ⟨h.1, Int.le_trans h.2 ?_⟩
    rw [Int.pow_succ, Int.mul_comm]
    exact Int.mul_le_mul_of_nonneg_left (by omega) hp
theorem qsum_bd (n m : Nat) (hn : n ≤ 7) (rows : List Int) (k : Nat) : 0 ≤ qsum m n rows k ∧ qsum m n rows k ≤ k * 7 ^ m := by
  induction k with
  | zero => simp [qsum]
  | succ k ihk =>
    rw [qsum_succ]
    have := qc_bd n hn m (rows ++ [(k : Int)])
    have hp : (0 : Int) ≤ 7 ^ m := Int.pow_nonneg (by omega)
    have he : ((k + 1 : Nat) : Int) * 7 ^ m = k * 7 ^ m + 7 ^ m := by rw [Int.natCast_add, Int.add_mul]; simp
    split <;> omega
theorem pow7 (m : Nat) (h : m ≤ 7) : (0 : Int) < 7 ^ m ∧ (7 : Int) ^ m ≤ 823543 := by
  match m, h with
  | 0, _ => decide
  | 1, _ => decide
  | 2, _ => decide
  | 3, _ => decide
  | 4, _ => decide
  | 5, _ => decide
  | 6, _ => decide
  | 7, _ => decide
theorem qsum_small (n m : Nat) (hn : n ≤ 7) (hm : m ≤ 7) (rows : List Int) (k : Nat) (hk : k ≤ 7) : 0 ≤ qsum m n rows k ∧ qsum m n rows k ≤ 10000000 := by
  have h := qsum_bd n m hn rows k
  have hp := pow7 m hm
  refine ⟨h.1, Int.le_trans h.2 ?_⟩
  have : (k : Int) * 7 ^ m ≤ 7 * 7 ^ m := Int.mul_le_mul_of_nonneg_right (by omega) (by omega)
  omega
theorem qc_small (n m : Nat) (hn : n ≤ 7) (hm : m ≤ 7) (rows : List Int) : 0 ≤ qc m n rows ∧ qc m n rows ≤ 10000000 := by
  have h := qc_bd n hn m rows
  have hp := pow7 m hm
  omega

/-- a row as the reference keeps it: one more -/
def up1 (q : Int) : Value := .int .i64 (q + 1)

theorem hit_no {rows : List Int} {r q : Int} {k : Nat} (hq : rows[k]? = some q) (h1 : ¬ q = r) (h2 : ¬ q = r - ((rows.length : Int) - k)) (h3 : ¬ q = r + ((rows.length : Int) - k)) : hitB rows r k = false := by
  simp [hitB, List.getD, hq]; exact ⟨h1, h2, h3⟩
theorem hit_yes {rows : List Int} {r q : Int} {k : Nat} (hq : rows[k]? = some q) (h : q = r ∨ q = r - ((rows.length : Int) - k) ∨ q = r + ((rows.length : Int) - k)) : hitB rows r k = true := by
  simp [hitB, List.getD, hq]; exact h
theorem safe_false {rows : List Int} {r : Int} {k : Nat} (hk : k < rows.length) (h : hitB rows r k = true) : safeTo rows r rows.length = false := by
  simp only [safeTo, List.all_eq_false, List.mem_range]
  exact ⟨k, hk, by simp [h]⟩

set_option maxRecDepth 100000 in
set_option maxHeartbeats 1000000 in
theorem spec_l36Safe (v : Value) (rows : List Int) (r : Int) (w : World) {lo hi : Nat} (h : Rds w lo hi 1 v rows.length (rows.map up1)) (hl : rows.length ≤ 7) (hr0 : 0 ≤ r) (hr1 : r ≤ 7) :
    Calls Tryd.prog 100 #[v, .int .i64 (r + 1)] w fun e w' => e = .returned (.bool (safeTo rows r rows.length)) ∧ w = w' := by
  obtain ⟨A, c, rfl, -, -, -⟩ := h.shape
  go_enter Tryd.func100, Tryd.ntmps100
  go_wp2
  go_loop [5] (fun i => ∃ k : Nat, k ≤ rows.length ∧ i = .int .i64 k ∧ Hid (safeTo rows r k = true)) (fun i => rows.length - (intOf i).toNat)
  case atStart => exact ⟨0, Nat.zero_le _, rfl, rfl⟩
  case round =>
    obtain ⟨k, hk, rfl, hs⟩ := hrel
    by_cases hlt : k < rows.length
    · obtain ⟨g, off, q, rfl, -, -, hq, hc⟩ := h.atMap hlt
      unfold up1 at hc
      have Hq := Lib.hid hq
      clear hq h
      by_cases h1 : q = r
      · have hb1 : (q + 1 == r + 1) = true := by simp; omega
        go_wp2
        go_ret
        exact ⟨ret_bool (safe_false hlt (hit_yes Hq.out (.inl h1))).symm, rfl⟩
      · have hb1 : (q + 1 == r + 1) = false := by simp; omega
        by_cases h2 : q = r - ((rows.length : Int) - k)
        · have hb2 : (q + 1 == r + 1 - ((rows.length : Int) - k)) = true := by simp; omega
          have H2 := Lib.hid h2
          clear h2
          go_wp2
          go_ret
          exact ⟨ret_bool (safe_false hlt (hit_yes Hq.out (.inr (.inl H2.out)))).symm, rfl⟩
        · have hb2 : (q + 1 == r + 1 - ((rows.length : Int) - k)) = false := by simp; omega
          by_cases h3 : q = r + ((rows.length : Int) - k)
          · have hb3 : (q + 1 == r + 1 + ((rows.length : Int) - k)) = true := by simp; omega
            have H3 := Lib.hid h3
            clear h3
            go_wp2
            go_ret
            exact ⟨ret_bool (safe_false hlt (hit_yes Hq.out (.inr (.inr H3.out)))).symm, rfl⟩
          · have hb3 : (q + 1 == r + 1 + ((rows.length : Int) - k)) = false := by simp; omega
            go_wp2
            go_round
            case rel => exact ⟨k + 1, by omega, by go_num, by rw [safeTo_succ, hs.out, hit_no Hq.out h1 h2 h3]; rfl⟩
            case measure => simp [intOf]; omega
    · go_wp2
      go_ret
      obtain rfl : k = rows.length := by omega
      exact ⟨ret_bool hs.out.symm, rfl⟩

theorem oneCell_map {α : Type} {f : α → Value} (hf : ∀ a, (f a).oneCell' = true) (l : List α) : ∀ u ∈ l.map f, u.oneCell' = true := by
  intro u hu; obtain ⟨a, _, rfl⟩ := List.mem_map.1 hu; exact hf a
theorem oneCell_int (k : IntKind) (n : Int) : (Value.int k n).oneCell' = true := rfl

set_option maxRecDepth 100000 in
set_option maxHeartbeats 1000000 in
theorem spec_l36Queens (n : Nat) (hn : n ≤ 7) (m : Nat) : ∀ (v : Value) (rows : List Int) (w : World) (lo hi : Nat), rows.length + m = n → Rds w lo hi 1 v rows.length (rows.map up1) → hi ≤ w.heap.size →
    Calls Tryd.prog 76 #[v, .int .i64 n] w fun e w' => e = .returned (.int .i64 (qc m n rows)) ∧ Below w.heap.size w w' := by
  obtain ⟨i0, hi0, hz0, hz1, hz2⟩ := info_parts info_int
  induction m with
  | zero =>
    intro v rows w lo hi hm h hhi
    obtain ⟨A, c, rfl, -, -, -⟩ := h.shape
    have hb : ((rows.length : Int) == n) = true := by simp; omega
    clear hm
    go_enter Tryd.func76, Tryd.ntmps76
    go_wp2_with fail
    go_ret
    exact ⟨rfl, Below.refl _ _⟩
  | succ m ih =>
    intro v rows w lo hi hm h hhi
    have IH := Lib.hid ih
    clear ih
    obtain ⟨A, c, rfl, -, -, -⟩ := h.shape
    have hb : ((rows.length : Int) == n) = false := by simp; omega
    have hlen : rows.length ≤ 6 := by omega
    have hlm : rows.length + m + 1 ≤ n := by omega
    have hm6 : m ≤ 6 := by omega
    have Hm := Lib.hid hm
    clear hm
    go_enter Tryd.func76, Tryd.ntmps76
    go_wp2_with fail
    go_loopw [5, 6] (fun s i wr => ∃ k : Nat, k ≤ n ∧ i = .int .i64 ((k : Int) + 1) ∧ s = .int .i64 (qsum m n rows k) ∧ Below w.heap.size w wr) (fun _ i _ => (n + 1 - intOf i).toNat)
    case atStart => exact ⟨0, Nat.zero_le _, rfl, rfl, Below.refl _ _⟩
    case round =>
      obtain ⟨k, hk, rfl, rfl, hbw⟩ := hrel
      obtain ⟨wo, rfl⟩ : ∃ wo : World, wo = wr := ⟨_, rfl⟩
      have hqs := qsum_small n m hn (by omega) rows k (by omega)
      by_cases hlt : k < n
      · have hr := h.below hbw hhi
        have hsz := hbw.size
        have HS := Lib.hid (qsum_succ m n rows k)
        go_wp2_with fail
        refine (spec_l36Safe _ rows k _ hr (by omega) (by omega) (by omega)).mono ?_; rintro e w' ⟨rfl, rfl⟩
        cases hsf : safeTo rows k rows.length with
        | true =>
          rw [hsf, if_pos rfl] at HS
          clear hsf
          have hqc := qc_small n m hn (by omega) (rows ++ [(k : Int)])
          go_wp2_with (first
            | (at_builtin; refine wpList_append_any _ rfl (.tmp 20) (.tmp 21) 61 rfl wo.heap.size 3 i0 (.int .i64 0) 1 8 Tryd.underlying61 hi0 hz0 hz1 hz2 rfl (by decide) _ _ _ rfl (World.ownsRow_lit wo #[] 0 (Nat.le_refl _) (Nat.zero_le _) rfl) lo hi (.slice A rows.length c) rows.length (rows.map up1) rfl ?a1 (oneCell_map (fun _ => rfl) _) ?a2 ?a3 ?a4 ?_))
          case a1 => exact hr.alloc (by omega) _
          case a2 => unfold maxLen; omega
          case a3 => omega
          case a4 => simp
          rintro v1 w1 hown1 hg1 -
          have hb1 : Below wo.heap.size wo w1 := ((Below.refl _ _).alloc (Nat.le_refl _) _).grown hg1 (by simp) (fun g hg => by simp [Value.ownBlock] at hg; omega)
          clear hg1
          go_wp2_with (first
            | (at_builtin; refine wpList_append_own _ rfl (.tmp 22) (.tmp 24) 61 rfl wo.heap.size 3 i0 (.int .i64 0) 1 8 Tryd.underlying61 hi0 hz0 hz1 hz2 rfl (by decide) _ _ _ rfl (hown1.alloc _) ⟨w1.heap.size, 0, none⟩ 1 1 [.int .i64 ((k : Int) + 1)] rfl rfl (cell_one_new _ _ _) ?c2 ?c3 ?c4 ?c5 ?_))
          case c2 => first | rfl | (intro u hu; simp at hu; subst hu; rfl)
          case c3 => unfold maxLen; omega
          case c4 => omega
          case c5 => have := hb1.size; simp; omega
          rintro v2 w2 hown2 hg2 -
          have hb2 := below_append hb1 hb1.size hown1 hg2
          have hr2 : Rds w2 wo.heap.size w2.heap.size 1 v2 (rows ++ [(k : Int)]).length ((rows ++ [(k : Int)]).map up1) := by
            have := Rds.of_own hown2
            simpa [up1] using this
          clear hg2 hown2 hown1 hb1
          go_wp2_with fail
          refine (IH.out v2 (rows ++ [(k : Int)]) w2 _ _ (by have := Hm.out; simp; omega) hr2 (Nat.le_refl _)).mono ?_; rintro e w3 ⟨rfl, hb3⟩
          have hb4 : Below w.heap.size w w3 := (hbw.trans (hb2.mono hsz)).trans (hb3.mono (Nat.le_trans hsz hb2.size))
          clear hb3 hb2
          go_wp2_with fail
          go_roundw
          case rel => exact ⟨k + 1, by omega, by go_num, by rw [HS.out], hb4⟩
          case measure => simp [intOf]; omega
        | false =>
          rw [hsf, if_neg (by simp)] at HS
          clear hsf
          go_wp2_with fail
          go_roundw
          case rel => exact ⟨k + 1, by omega, by go_num, by rw [HS.out]; simp, hbw⟩
          case measure => simp [intOf]; omega
      · go_wp2_with fail
        go_ret
        obtain rfl : k = n := by omega
        exact ⟨ret_int (qsum_all m k rows).symm, hbw⟩

theorem impl_abs (x : Int) (w : World) (h0 : -1000000000000000000 ≤ x) (h1 : x ≤ 1000000000000000000) :
    Calls Tryd.prog 103 #[.int .i64 x] w fun e w' => e = .returned (.int .i64 (x.natAbs : Int)) ∧ w = w' := by
  by_cases hx : x < 0
  · go_enter Tryd.func103, Tryd.ntmps103
    go_wp2
    go_ret
    exact ⟨ret_int (by omega), rfl⟩
  · go_enter Tryd.func103, Tryd.ntmps103
    go_wp2
    go_ret
    exact ⟨ret_int (by omega), rfl⟩

theorem hit_abs {rows : List Int} {r q : Int} {k : Nat} (hk : k < rows.length) (hq : rows[k]? = some q) (h : ((q - r).natAbs : Int) = (rows.length : Int) - k) : hitB rows r k = true := hit_yes hq (by omega)
theorem hit_abs_no {rows : List Int} {r q : Int} {k : Nat} (hk : k < rows.length) (hq : rows[k]? = some q) (h1 : ¬ q = r) (h : ¬ ((q - r).natAbs : Int) = (rows.length : Int) - k) : hitB rows r k = false := hit_no hq h1 (by omega) (by omega)

theorem snoc_bd {rows : List Int} {k n : Nat} (h : ∀ q ∈ rows, 0 ≤ q ∧ q ≤ 7) (hk : k < n) (hn : n ≤ 7) : ∀ q ∈ rows ++ [(k : Int)], 0 ≤ q ∧ q ≤ 7 := by
  intro q hq
  rcases List.mem_append.1 hq with hq | hq
  · exact h q hq
  · simp at hq; omega

set_option maxRecDepth 100000 in
set_option maxHeartbeats 1000000 in
theorem impl_queens (n : Nat) (hn : n ≤ 7) (m : Nat) : ∀ (v : Value) (rows : List Int) (w : World) (lo hi : Nat), rows.length + m = n → (∀ q ∈ rows, 0 ≤ q ∧ q ≤ 7) → Rds w lo hi 1 v rows.length (rows.map (.int .i64)) → hi ≤ w.heap.size →
    Calls Tryd.prog 79 #[.int .i64 n, v] w fun e w' => e = .returned (.int .i64 (qc m n rows)) ∧ Below w.heap.size w w' := by
  obtain ⟨i0, hi0, hz0, hz1, hz2⟩ := info_parts info_int
  induction m with
  | zero =>
    intro v rows w lo hi hm _ h hhi
    obtain ⟨A, c, rfl, -, -, -⟩ := h.shape
    have hb : ((rows.length : Int) == n) = true := by simp; omega
    clear hm
    go_enter Tryd.func79, Tryd.ntmps79
    go_wp2_with fail
    go_ret
    exact ⟨rfl, Below.refl _ _⟩
  | succ m ih =>
    intro v rows w lo hi hm hrb h hhi
    have IH := Lib.hid ih
    have Hrb := Lib.hid hrb
    clear ih hrb
    obtain ⟨A, c, rfl, hc1, hc2, -⟩ := h.shape
    unfold maxLen at hc2
    have hb : ((rows.length : Int) == n) = false := by simp; omega
    have hlen : rows.length ≤ 6 := by omega
    have hlm : rows.length + m + 1 ≤ n := by omega
    have hm6 : m ≤ 6 := by omega
    have Hm := Lib.hid hm
    clear hm
    go_enter Tryd.func79, Tryd.ntmps79
    go_wp2_with fail
    go_loopw [5, 6] (fun s i wr => ∃ k : Nat, k ≤ n ∧ i = .int .i64 (k : Int) ∧ s = .int .i64 (qsum m n rows k) ∧ Below w.heap.size w wr) (fun _ i _ => (n - intOf i).toNat)
    case atStart => exact ⟨0, Nat.zero_le _, rfl, rfl, Below.refl _ _⟩
    case round =>
      obtain ⟨k, hk, rfl, rfl, hbw⟩ := hrel
      obtain ⟨wo, rfl⟩ : ∃ wo : World, wo = wr := ⟨_, rfl⟩
      have hqs := qsum_small n m hn (by omega) rows k (by omega)
      by_cases hlt : k < n
      · have hr := h.below hbw hhi
        have hsz := hbw.size
        have HS := Lib.hid (qsum_succ m n rows k)
        go_wp2_with fail
        go_loop [7, 21] (fun b i => ∃ j : Nat, j ≤ rows.length ∧ i = .int .i64 j ∧ b = .bool (safeTo rows k j)) (fun _ i => rows.length - (intOf i).toNat)
        case atStart => exact ⟨0, Nat.zero_le _, rfl, rfl⟩
        case round =>
          obtain ⟨j, hj, rfl, rfl⟩ := hrel
          by_cases hjl : j < rows.length
          · obtain ⟨g, off, q, rfl, -, -, hq, hcell⟩ := hr.atMap hjl
            have hqb := Hrb.out q (List.mem_of_getElem? hq)
            have Hq := Lib.hid hq
            clear hq
            have Hsn := Lib.hid (safeTo_succ rows k j)
            by_cases h1 : q = k
            · have hb1 : (q == (k : Int)) = true := by simp; omega
              have Hh := Lib.hid (hit_yes Hq.out (.inl h1))
              clear h1
              go_wp2_with fail
              go_round
              case rel => exact ⟨j + 1, by omega, by go_num, by rw [Hsn.out, Hh.out]; simp⟩
              case measure => simp [intOf]; omega
            · have hb1 : (q == (k : Int)) = false := by simp; omega
              go_wp2_with fail
              refine (impl_abs _ _ (by omega) (by omega)).mono ?_; rintro e w' ⟨rfl, rfl⟩
              by_cases h2 : ((q - (k : Int)).natAbs : Int) = (rows.length : Int) - j
              · have hb2 : (((q - (k : Int)).natAbs : Int) == (rows.length : Int) - j) = true := by simp; omega
                have Hh := Lib.hid (hit_abs hjl Hq.out h2)
                clear h2
                go_wp2_with fail
                go_round
                case rel => exact ⟨j + 1, by omega, by go_num, by rw [Hsn.out, Hh.out]; simp⟩
                case measure => simp [intOf]; omega
              · have hb2 : (((q - (k : Int)).natAbs : Int) == (rows.length : Int) - j) = false := by simp; omega
                have Hh := Lib.hid (hit_abs_no hjl Hq.out h1 h2)
                clear h2 h1
                go_wp2_with fail
                go_round
                case rel => exact ⟨j + 1, by omega, by go_num, by rw [Hsn.out, Hh.out]; simp⟩
                case measure => simp [intOf]; omega
          · obtain rfl : j = rows.length := by omega
            cases hsf : safeTo rows k rows.length with
            | true =>
              rw [hsf, if_pos rfl] at HS
              clear hsf
              have hqc := qc_small n m hn (by omega) (rows ++ [(k : Int)])
              have hhw : hi ≤ wo.heap.size := by omega
              go_wp2_with (first
                | (at_builtin; refine wpList_append_grows _ rfl (.tmp 49) (.tmp 51) 61 rfl 3 i0 (.int .i64 0) 1 8 Tryd.underlying61 hi0 hz0 hz1 hz2 rfl (by decide) A rows.length rows.length (rows.map (.int .i64)) rfl (fun hA => ⟨(hr.nilCap hA).1, (hr.nilCap hA).1⟩) (by simp) (hr.alloc hhw _).cells ⟨wo.heap.size, 0, none⟩ 1 1 [.int .i64 (k : Int)] rfl rfl (cell_one_new _ _ _) ?g4 ?g5 ?g6 ?g7 ?_))
              case g4 => first | rfl | (intro u hu; simp at hu; subst hu; rfl)
              case g6 => unfold maxLen; omega
              case g7 => omega
              rintro v2 w2 hown2 hg2
              have hb2 : Below wo.heap.size wo w2 := ((Below.refl _ _).alloc (Nat.le_refl _) _).grown hg2 (by simp) (fun g hg => by cases hg)
              have hr2 : Rds w2 (wo.heap.size + 1) w2.heap.size 1 v2 (rows ++ [(k : Int)]).length ((rows ++ [(k : Int)]).map (.int .i64)) := by
                have := Rds.of_own hown2
                simpa using this
              clear hg2 hown2
              go_wp2_with fail
              refine (IH.out v2 (rows ++ [(k : Int)]) w2 _ _ (by have := Hm.out; simp; omega) (snoc_bd Hrb.out hlt hn) hr2 (Nat.le_refl _)).mono ?_; rintro e w3 ⟨rfl, hb3⟩
              have hb4 : Below w.heap.size w w3 := (hbw.trans (hb2.mono hsz)).trans (hb3.mono (Nat.le_trans hsz hb2.size))
              clear hb3 hb2
              go_wp2_with fail
              go_roundw
              case rel => exact ⟨k + 1, by omega, by go_num, by rw [HS.out], hb4⟩
              case measure => simp [intOf]; omega
            | false =>
              rw [hsf, if_neg (by simp)] at HS
              clear hsf
              go_wp2_with fail
              go_roundw
              case rel => exact ⟨k + 1, by omega, by go_num, by rw [HS.out]; simp, hbw⟩
              case measure => simp [intOf]; omega
      · go_wp2_with fail
        go_ret
        obtain rfl : k = n := by omega
        exact ⟨ret_int (qsum_all m k rows).symm, hbw⟩

def queensCount (n : Int) : Int := if n < 0 ∨ 7 < n then -1 else qc n.toNat n.toNat []

set_option maxRecDepth 100000 in
theorem spec_QueensCount (n : Int) (w : World) :
    Calls Tryd.prog 47 #[.int .i64 n] w fun e w' => e = .returned (.int .i64 (queensCount n)) ∧ Below w.heap.size w w' := by
  by_cases h1 : n < 0
  · go_enter Tryd.func47, Tryd.ntmps47
    go_wp2_with fail
    go_ret
    exact ⟨ret_int (by simp [queensCount, h1]), Below.refl _ _⟩
  · by_cases h2 : 7 < n
    · go_enter Tryd.func47, Tryd.ntmps47
      go_wp2_with fail
      go_ret
      exact ⟨ret_int (by simp [queensCount, h2]), Below.refl _ _⟩
    · obtain ⟨k, rfl⟩ : ∃ k : Nat, n = k := ⟨n.toNat, by omega⟩
      go_enter Tryd.func47, Tryd.ntmps47
      go_wp2_with fail
      refine (spec_l36Queens k (by omega) k _ [] _ 0 0 (by simp) Rds.none_ (Nat.zero_le _)).mono ?_; rintro e w1 ⟨rfl, hb⟩
      go_wp2_with fail
      go_ret
      exact ⟨ret_int (by rw [queensCount, if_neg (by omega)]; simp), hb⟩

set_option maxRecDepth 100000 in
theorem impl_QueensCount (n : Int) (w : World) :
    Calls Tryd.prog 54 #[.int .i64 n] w fun e w' => e = .returned (.int .i64 (queensCount n)) ∧ Below w.heap.size w w' := by
  by_cases h1 : n < 0
  · go_enter Tryd.func54, Tryd.ntmps54
    go_wp2_with fail
    go_ret
    exact ⟨ret_int (by simp [queensCount, h1]), Below.refl _ _⟩
  · by_cases h2 : 7 < n
    · go_enter Tryd.func54, Tryd.ntmps54
      go_wp2_with fail
      go_ret
      exact ⟨ret_int (by simp [queensCount, h2]), Below.refl _ _⟩
    · obtain ⟨k, rfl⟩ : ∃ k : Nat, n = k := ⟨n.toNat, by omega⟩
      go_enter Tryd.func54, Tryd.ntmps54
      go_wp2_with fail
      refine (impl_queens k (by omega) k _ [] _ 0 0 (by simp) (by simp) Rds.none_ (Nat.zero_le _)).mono ?_; rintro e w1 ⟨rfl, hb⟩
      go_wp2_with fail
      go_ret
      exact ⟨ret_int (by rw [queensCount, if_neg (by omega)]; simp), hb⟩

end Go.Proofs.YtgkgoofapgabhaaDoor
