/- For the laws' own walks: what stays while marks are written; how many marks there are. Plain lemmas. -/
import Derived.Test.YtekobbeoaalibaaGreatDoorMkAll
namespace Go.Proofs.YtekobbeoaalibaaGreatDoor
open Go.RowKit
set_option linter.unusedVariables false

section
variable {α : Type} {f : α → List Dat} {k : Nat} {w w' : World} {lo hi : Nat} {x v : Value} {c : α} {l : List α} {F : List Nat}
theorem LRep.fr (h : LRep w lo hi k f v l) (hf : Fr F w w') (hd : ∀ b ∈ F, b < lo ∨ hi ≤ b) (hhi : hi ≤ w.heap.size) : LRep w' lo hi k f v l :=
  h.keep fun p h1 h2 => World.cell?_of_block (hf.block p.block (by omega) fun hp => by have := hd _ hp; omega)
theorem SRep.fr (h : SRep w lo hi f x c) (hf : Fr F w w') (hd : ∀ b ∈ F, b < lo ∨ hi ≤ b) (hhi : hi ≤ w.heap.size) : SRep w' lo hi f x c :=
  h.keep fun p h1 h2 => World.cell?_of_block (hf.block p.block (by omega) fun hp => by have := hd _ hp; omega)
end
theorem sumOf_len {α : Type} {b : α → Nat} {n : Nat} (h : ∀ c, b c = n) : ∀ l : List α, sumOf b l = n * l.length
  | [] => rfl
  | c :: l => by simp only [sumOf, h, sumOf_len h l, List.length_cons, Nat.mul_add, Nat.mul_one]; omega
theorem sumOf_le {α : Type} {a b : α → Nat} {m n : Nat} (h : ∀ c, a c ≤ m + n * b c) : ∀ l : List α, sumOf a l ≤ m * l.length + n * sumOf b l
  | [] => by simp [sumOf]
  | c :: l => by
    have h1 := h c
    have h2 := sumOf_le h l
    simp only [sumOf, List.length_cons, Nat.mul_add, Nat.mul_one]
    omega
theorem RecT.cnt_le (c : RecT) : c.cnt ≤ 2 + 1 * c.bulk := by
  unfold RecT.cnt RecT.bulk
  rw [sumOf_len (b := strCnt) (n := 1) (fun _ => rfl)]
  omega
theorem CodeT.cnt_le (c : CodeT) : c.cnt ≤ 5 * c.bulk := by
  have h := sumOf_le (m := 2) (n := 1) RecT.cnt_le c.records
  unfold CodeT.cnt CodeT.bulk
  rw [sumOf_len (b := CRoT.cnt) (n := 4) (fun _ => rfl), sumOf_len (b := InsT.cnt) (n := 5) (fun _ => rfl), sumOf_len (b := strCnt) (n := 1) (fun _ => rfl)]
  omega
theorem edits_cnt (l : List EditT) : sumOf EditT.cnt l = 2 * l.length := sumOf_len (fun _ => rfl) l
theorem strs_cnt (l : List ByteArray) : sumOf strCnt l = l.length := by rw [sumOf_len (b := strCnt) (n := 1) (fun _ => rfl), Nat.one_mul]
end Go.Proofs.YtekobbeoaalibaaGreatDoor
