/- strings.ReplaceAll at a pattern of one byte that stands once or twice. Plain lemmas, no program. -/
import Derived.Lib.Replace
namespace Go.Proofs.YtgkgoofapgabhaaDoor
open Go.Lib

theorem index_at (a b : List UInt8) (c : UInt8) (h : c ∉ a) : Lib.index (a ++ c :: b) [c] = (a.length : Int) := by
  refine Lib.index_first (by simp) (by simp [Lib.occAt]) fun j hj => ?_
  cases ho : Lib.occAt (a ++ c :: b) [c] j with
  | false => rfl
  | true =>
    have := Lib.occAt_head rfl ho
    rw [List.getElem?_append_left hj] at this
    exact absurd (List.mem_of_getElem? this) h
theorem repl_hit (a b q : List UInt8) (c : UInt8) (k : Nat) (h : c ∉ a) : Lib.replaceK [c] q (k + 1) (a ++ c :: b) = a ++ q ++ Lib.replaceK [c] q k b := by
  rw [Lib.replaceK_hit [c] q k _ a.length (index_at a b c h), List.take_left' rfl]
  congr 2
  rw [List.drop_append]
  simp
theorem repl_of (s q : List UInt8) (c : UInt8) (h : q ≠ [c]) (n : Nat) (hn : s.count c = n) : Lib.replaceAll s [c] q = Lib.replaceK [c] q n s := by
  unfold Lib.replaceAll Lib.replace
  rw [if_neg (by simpa using fun e => h e.symm), Lib.replaceNum, if_pos (Or.inl (by decide)), Lib.count_one, hn]
theorem repl_one (a b q : List UInt8) (c : UInt8) (ha : c ∉ a) (hb : c ∉ b) (h : q ≠ [c]) : Lib.replaceAll (a ++ c :: b) [c] q = a ++ q ++ b := by
  rw [repl_of _ q c h 1 (by simp [List.count_eq_zero.2 ha, List.count_eq_zero.2 hb]), repl_hit a b q c 0 ha]
  rfl
theorem repl_two (a b d q : List UInt8) (c : UInt8) (ha : c ∉ a) (hb : c ∉ b) (hd : c ∉ d) (h : q ≠ [c]) : Lib.replaceAll (a ++ c :: (b ++ c :: d)) [c] q = a ++ q ++ (b ++ q ++ d) := by
  rw [repl_of _ q c h 2 (by simp [List.count_eq_zero.2 ha, List.count_eq_zero.2 hb, List.count_eq_zero.2 hd]), repl_hit a _ q c 1 ha, repl_hit b d q c 0 hb]
  rfl
end Go.Proofs.YtgkgoofapgabhaaDoor
