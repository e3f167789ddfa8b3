/- szStringS, toStringS of the laws; l37Texts of the reference and slices.Equal at strings: the size of a list of texts, its copy, equality. -/
import Derived.Test.YtgkgoofapgabhaaDoorProg
import Derived.Test.YtgkgoofapgabhaaDoorTexts
namespace Go.Proofs.YtgkgoofapgabhaaDoor
open Go.RowKit

/-- how many letters the texts hold together -/
def letters (l : List ByteArray) : Nat := (l.map ByteArray.size).sum
theorem letters_snoc {l : List ByteArray} {k : Nat} {x : ByteArray} (h : l[k]? = some x) : letters (l.take (k + 1)) = letters (l.take k) + x.size := by
  rw [take_snoc_of h]; simp [letters]
theorem letters_take_le (l : List ByteArray) (k : Nat) : letters (l.take k) ≤ letters l := by
  have : letters l = letters (l.take k) + letters (l.drop k) := by
    unfold letters
    rw [← List.sum_append_nat, ← List.map_append, List.take_append_drop]
  omega
/-- what a size check leaves of left after b -/
def leftOf (left : Int) (b : Nat) : Int := if left < b then -1 else left - b
theorem leftOf_no {left : Int} {b : Nat} (h : left < b) : leftOf left b = -1 := by simp [leftOf, h]
theorem leftOf_yes {left : Int} {b : Nat} (h : ¬ left < b) : leftOf left b = left - b := by simp [leftOf, h]
def bulkTexts (l : List ByteArray) : Nat := l.length + letters l

set_option maxRecDepth 100000 in
set_option maxHeartbeats 400000 in
theorem szStringS_any (v : Value) (l : List ByteArray) (left : Int) (w : World) {lo hi : Nat} (h : Rds w lo hi 1 v l.length (l.map .string)) (hl0 : 0 ≤ left) (hl1 : left ≤ 1048576) (hwf : ∀ x ∈ l, x.size ≤ 9223372036854775807) :
    Calls Tryd.prog 31 #[v, .int .i64 left] w fun e w' => e = .returned (.int .i64 (leftOf left (bulkTexts l))) ∧ w = w' := by
  obtain ⟨A, c, rfl, hc1, hc2, -⟩ := h.shape
  unfold maxLen at hc2
  have Hwf := Lib.hid hwf
  clear hwf
  by_cases h0 : left < l.length
  · have hb : ¬ (0 ≤ left - (l.length : Int)) := by omega
    go_enter Tryd.func31, Tryd.ntmps31
    go_wp2
    go_ret
    exact ⟨ret_int (leftOf_no (by unfold bulkTexts; omega)).symm, rfl⟩
  · go_enter Tryd.func31, Tryd.ntmps31
    go_wp2
    go_loop [1, 5] (fun m i => ∃ k : Nat, k ≤ l.length ∧ i = .int .i64 k ∧ m = .int .i64 (left - l.length - letters (l.take k)) ∧ (letters (l.take k) : Int) ≤ left - l.length) (fun _ i => l.length - (intOf i).toNat)
    case atStart => exact ⟨0, Nat.zero_le _, rfl, by simp [letters], by simp [letters]; omega⟩
    case round =>
      obtain ⟨k, hk, rfl, rfl, hle⟩ := hrel
      by_cases hlt : k < l.length
      · obtain ⟨g, off, x, rfl, -, -, hx, hcell⟩ := h.atMap hlt
        have hxs := Hwf.out x (List.mem_of_getElem? hx)
        have Hsn := Lib.hid (letters_snoc hx)
        have hll := letters_take_le l (k + 1)
        clear hx
        generalize hL : letters (l.take k) = L at *
        clear hL
        by_cases hneg : left - l.length - L - x.size < 0
        · go_wp2
          go_ret
          exact ⟨ret_int (leftOf_no (by have := Hsn.out; unfold bulkTexts; omega)).symm, rfl⟩
        · go_wp2
          go_round
          case rel => exact ⟨k + 1, by omega, by go_num, by rw [Hsn.out]; go_num, by rw [Hsn.out]; omega⟩
          case measure => simp [intOf]; omega
      · obtain rfl : k = l.length := by omega
        rw [List.take_length] at hle ⊢
        go_wp2
        go_ret
        exact ⟨ret_int (by rw [leftOf_yes (by unfold bulkTexts; omega)]; unfold bulkTexts; omega), rfl⟩

set_option maxRecDepth 100000 in
set_option maxHeartbeats 400000 in
theorem toStringS_any (v : Value) (l : List ByteArray) (w : World) {lo hi : Nat} (h : Rds w lo hi 1 v l.length (l.map .string)) (hhi : hi ≤ w.heap.size) (hl : l.length ≤ 1048576) :
    Calls Tryd.prog 34 #[v] w (OwnTexts l w) := by
  obtain ⟨i0, hi0, hz0, hz1, hz2⟩ := info_parts info_string
  obtain ⟨A, c, rfl, hc1, hc2, -⟩ := h.shape
  unfold maxLen at hc2
  go_enter Tryd.func34, Tryd.ntmps34
  go_wp2_with (first | (at_make; refine wpList_make_full w rfl (.tmp 6) (.tmp 6) 25 rfl w.heap.size 9 i0 _ 1 Tryd.underlying25 hi0 hz0 hz1 .i64 .i64 _ _ l.length rfl rfl rfl rfl (by rw [hz2]; omega) (by unfold maxLen; omega) (Nat.le_refl _) ?_))
  intro w1 hown hg
  have hb := below_of_grown hg (Nat.le_refl w.heap.size) (fun g hg => by cases hg)
  obtain ⟨Z, hown⟩ : ∃ Z, w1.ownsRow w.heap.size 9 1 (.slice (some ⟨w.heap.size, 0, none⟩) l.length l.length) l.length Z := ⟨_, hown⟩
  have hzl : (l.map Value.string).length = Z.length := by have := hown.1; rw [List.length_map]; omega
  have Hzl := Lib.hid hzl
  clear hg hzl
  go_wp2_with fail
  go_loopw [4] (fun i wr => ∃ k : Nat, k ≤ l.length ∧ i = .int .i64 k ∧ wr.ownsRow w.heap.size 9 1 (.slice (some ⟨w.heap.size, 0, none⟩) l.length l.length) l.length ((l.map .string).take k ++ Z.drop k) ∧ Below w.heap.size w wr) (fun i _ => l.length - (intOf i).toNat)
  case atStart => exact ⟨0, Nat.zero_le _, rfl, by simpa using hown, hb⟩
  case round =>
    obtain ⟨k, hk, rfl, ho, hbw⟩ := hrel
    by_cases hlt : k < l.length
    · obtain ⟨g, off, x, rfl, -, hgh, hx, hcell⟩ := (h.below hbw hhi).atMap hlt
      have hne : g ≠ w.heap.size := by omega
      have hx' : (l.map Value.string)[k]? = some (.string x) := by rw [List.getElem?_map, hx]; rfl
      have hfz := ho.frozenAt k
      have hc2 : ∃ u, wr.cell? ⟨w.heap.size, k, none⟩ = some u := by
        have hh := ho.cellAt k (by omega)
        have hll : k < ((l.map Value.string).take k ++ Z.drop k).length := by rw [fill_len Hzl.out (by simpa using hk)]; simpa using hlt
        exact ⟨_, hh.trans (List.getElem?_eq_getElem hll)⟩
      obtain ⟨u, hc2⟩ := hc2
      have hst := ho.stored k (.string x)
      rw [fill_set hx' Hzl.out] at hst
      have H1 := Lib.hid hst
      clear hst hx' hx
      go_wp2_with fail
      go_roundw
      case rel => exact ⟨k + 1, by omega, by go_num, H1.out.1, hbw.setCell (Nat.le_refl _) _⟩
      case measure => simp [intOf]; omega
    · obtain rfl : k = l.length := by omega
      go_wp2_with fail
      go_ret
      refine ⟨_, rfl, ?_, hbw⟩
      have := fill_all Hzl.out
      rw [List.length_map] at this
      rw [this] at ho
      exact ho
end Go.Proofs.YtgkgoofapgabhaaDoor
