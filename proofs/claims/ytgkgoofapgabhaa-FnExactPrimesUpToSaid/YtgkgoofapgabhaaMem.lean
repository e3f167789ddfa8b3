/- Words for memory: a slice that reads as a list of cells, nil let in; worlds with the same heap. Plain lemmas, no program. -/
import Derived.WalkKit
import Derived.WalkSpells
import Derived.WalkLawsBesides
import Derived.Lib.Hide
import Derived.Deep.QuietTactic
import Derived.BigQuiet
import Derived.Deep.AppendLies
import Derived.Deep.Draws
namespace Go.Proofs.Ytgkgoofapgabhaa
open Go.RowKit

theorem ret_bool {a b : Bool} (h : a = b) : Ending.returned (.bool a) = .returned (.bool b) := by rw [h]
theorem ret_int {k : IntKind} {a b : Int} (h : a = b) : Ending.returned (.int k a) = .returned (.int k b) := by rw [h]
theorem ret_string {a b : ByteArray} (h : a = b) : Ending.returned (.string a) = .returned (.string b) := by rw [h]

/-- the heap is the same; only draws have been made -/
structure Same (w w' : World) : Prop where
  os : w'.os = w.os
  tape : w'.tape = w.tape
  output : w'.output = w.output
  heap : w'.heap = w.heap

theorem Same.refl (w : World) : Same w w := ⟨rfl, rfl, rfl, rfl⟩
theorem Same.trans {a b c : World} (h : Same a b) (k : Same b c) : Same a c := ⟨k.os.trans h.os, k.tape.trans h.tape, k.output.trans h.output, k.heap.trans h.heap⟩
theorem Same.drew {a w : World} (h : Same a w) : Same a w.drew := ⟨h.os, h.tape, h.output, h.heap⟩
theorem Same.drewN {a w : World} (h : Same a w) (n : Nat) : Same a (w.drewN n) := ⟨h.os, h.tape, h.output, h.heap⟩
theorem Same.below {a w : World} (h : Same a w) (B : Nat) : Below B a w := ⟨h.os, h.tape, h.output, by rw [h.heap]; exact Nat.le_refl _, fun k _ => by rw [h.heap]⟩
theorem Same.cell {a w : World} (h : Same a w) (p : Addr) : w.cell? p = a.cell? p := by simp [World.cell?, h.heap]
theorem Same.frozen {a w : World} (h : Same a w) (p : Addr) : w.frozen? p = a.frozen? p := by simp [World.frozen?, h.heap]
theorem Same.size {a w : World} (h : Same a w) : w.heap.size = a.heap.size := by rw [h.heap]
theorem Same.own {a w : World} (h : Same a w) {base : Nat} {e : TypeId} {size : Nat} {v : Value} {n : Nat} {xs : List Value} (ho : a.ownsRow base e size v n xs) : w.ownsRow base e size v n xs := by
  unfold World.ownsRow at ho ⊢; rw [h.heap]; exact ho
theorem Same.grown {a w : World} (h : Same a w) (row : Option Nat) : a.grownBy w row := ⟨h.os, h.tape, h.output, by rw [h.heap]; exact Nat.le_refl _, fun k _ _ => by rw [h.heap]⟩

theorem grown_trans2 {a b c : World} {row : Option Nat} (h : a.grownBy b row) (k : b.grownBy c row) : a.grownBy c row :=
  ⟨k.os.trans h.os, k.tape.trans h.tape, k.output.trans h.output, Nat.le_trans h.size k.size, fun i hi hne => (k.block i (Nat.lt_of_lt_of_le hi h.size) hne).trans (h.block i hi hne)⟩
theorem grown_drewN {a w : World} {row : Option Nat} (h : a.grownBy w row) (n : Nat) : a.grownBy (w.drewN n) row := ⟨h.os, h.tape, h.output, h.size, h.block⟩
theorem grown_of_below {a w : World} (h : Below a.heap.size a w) (row : Option Nat) : a.grownBy w row := ⟨h.os, h.tape, h.output, h.size, fun i hi _ => h.block i hi⟩
theorem below_of_grown {B : Nat} {a w : World} {row : Option Nat} (h : a.grownBy w row) (hB : B ≤ a.heap.size) (hr : ∀ g, row = some g → B ≤ g) : Below B a w := (Below.refl B a).grown h hB hr

theorem below_append {B : Nat} {w wo w1 : World} {o : Obj} {e : TypeId} {size n : Nat} {v : Value} {xs : List Value} (hb : Below B w wo) (hB : B ≤ wo.heap.size) (hown : wo.ownsRow B e size v n xs) (hg : (wo.alloc o).grownBy w1 v.ownBlock) : Below B w w1 :=
  (hb.alloc hB o).grown hg (by simp; omega) fun k hk => (hown.lt k hk).1

/-- the marks k, k+1, .. as values made by f -/
def marks (f : Int → Value) (k : Int) (n : Nat) : List Value := (List.range n).map fun (i : Nat) => f (k + (i : Int))
theorem marks_len (f : Int → Value) (k : Int) (n : Nat) : (marks f k n).length = n := by simp [marks]
theorem marks_get (f : Int → Value) (k : Int) (n i : Nat) (h : i < n) : (marks f k n)[i]? = some (f (k + i)) := by
  simp [marks, List.getElem?_map, List.getElem?_range h]
theorem marks_set (f : Int → Value) (k : Int) (xs : List Value) (j : Nat) (h : j < xs.length) :
    (marks f k j ++ xs.drop j).set j (f (k + j)) = marks f k (j + 1) ++ xs.drop (j + 1) := by
  rw [List.set_append_right _ _ (by rw [marks_len]; exact Nat.le_refl _), marks_len, Nat.sub_self, List.drop_eq_getElem_cons h, List.set_cons_zero]
  simp [marks, List.range_succ]
theorem marks_all (f : Int → Value) (k : Int) (xs : List Value) (n : Nat) (h : xs.length = n) : marks f k n ++ xs.drop n = marks f k n := by
  rw [List.drop_eq_nil_of_le (by omega), List.append_nil]

/-- the slice value v of n elements (of size cells each) reads as the cells xs, in a block from lo on and below hi -/
def Rds (w : World) (lo hi size : Nat) (v : Value) (n : Nat) (xs : List Value) : Prop :=
  ∃ A c, v = .slice A n c ∧ n ≤ c ∧ c ≤ maxLen ∧ xs.length = n * size ∧
    (0 < n → ∃ g off, A = some ⟨g, off, none⟩ ∧ lo ≤ g ∧ g < hi ∧ ∀ j u, xs[j]? = some u → w.cell? ⟨g, off + j, none⟩ = some u)

section
variable {w w' : World} {lo hi size n : Nat} {v : Value} {xs : List Value}
theorem Rds.keep (h : Rds w lo hi size v n xs) (hk : ∀ p : Addr, lo ≤ p.block → p.block < hi → w'.cell? p = w.cell? p) : Rds w' lo hi size v n xs := by
  obtain ⟨A, c, hv, h1, h2, h3, h4⟩ := h
  refine ⟨A, c, hv, h1, h2, h3, fun hn => ?_⟩
  obtain ⟨g, off, hA, hg1, hg2, hc⟩ := h4 hn
  exact ⟨g, off, hA, hg1, hg2, fun j u hu => (hk _ hg1 hg2).trans (hc j u hu)⟩
theorem Rds.same (h : Rds w lo hi size v n xs) (hs : Same w w') : Rds w' lo hi size v n xs := h.keep fun p _ _ => hs.cell p
theorem Rds.below {B : Nat} (h : Rds w lo hi size v n xs) (hb : Below B w w') (hB : hi ≤ B) : Rds w' lo hi size v n xs := h.keep fun _ _ hp => hb.cell (by omega)
theorem Rds.grown {row : Option Nat} (h : Rds w lo hi size v n xs) (hg : w.grownBy w' row) (hB : hi ≤ w.heap.size) (hr : ∀ g, row = some g → g < lo ∨ hi ≤ g) : Rds w' lo hi size v n xs :=
  h.keep fun p h1 h2 => World.cell?_of_block (hg.block p.block (by omega) (fun e => by have := hr _ e.symm; omega))
theorem Rds.wide {lo' hi' : Nat} (h : Rds w lo hi size v n xs) (h1 : lo' ≤ lo) (h2 : hi ≤ hi') : Rds w lo' hi' size v n xs := by
  obtain ⟨A, c, hv, g1, g2, g3, g4⟩ := h
  refine ⟨A, c, hv, g1, g2, g3, fun hn => ?_⟩
  obtain ⟨g, off, hA, hg1, hg2, hc⟩ := g4 hn
  exact ⟨g, off, hA, by omega, by omega, hc⟩
theorem Rds.none_ : Rds w lo hi size (.slice none 0 0) 0 [] := ⟨none, 0, rfl, Nat.le_refl _, Nat.zero_le _, by simp, fun h => absurd h (by omega)⟩
theorem Rds.of_own {base : Nat} {e : TypeId} (h : w.ownsRow base e size v n xs) : Rds w base w.heap.size size v n xs := by
  have hl := h.1
  rcases h.2 with ⟨rfl, rfl⟩ | ⟨g, cap, cur, rfl, hb, hg, hnc, hcm, hsz, htake⟩
  · refine ⟨none, 0, rfl, Nat.le_refl _, Nat.zero_le _, h.1, fun h => absurd h (by omega)⟩
  · refine ⟨_, cap, rfl, hnc, hcm, hl, fun hn => ⟨g, 0, rfl, hb, (Array.getElem?_eq_some_iff.1 hg).1, fun j u hu => ?_⟩⟩
    have := h.cells (g := g) rfl j u hu
    rwa [Addr.add_lit] at this
/-- the cell of element k, for elements of one cell -/
theorem Rds.at_ {A : Option Addr} {c k : Nat} (h : Rds w lo hi 1 (.slice A n c) n xs) (hk : k < n) : ∃ g off u, A = some ⟨g, off, none⟩ ∧ lo ≤ g ∧ g < hi ∧ xs[k]? = some u ∧ w.cell? ⟨g, off + k, none⟩ = some u := by
  obtain ⟨A', c', hv, h1, h2, h3, h4⟩ := h
  injection hv with hA _ hc
  subst hA hc
  obtain ⟨g, off, hA, hg1, hg2, hcell⟩ := h4 (by omega)
  have hl : k < xs.length := by omega
  exact ⟨g, off, xs[k], hA, hg1, hg2, List.getElem?_eq_getElem hl, hcell k _ (List.getElem?_eq_getElem hl)⟩
/-- the same where the cells are a mapped list -/
theorem Rds.atMap {α : Type} {f : α → Value} {l : List α} {A : Option Addr} {c k : Nat} (h : Rds w lo hi 1 (.slice A n c) n (l.map f)) (hk : k < n) :
    ∃ g off z, A = some ⟨g, off, none⟩ ∧ lo ≤ g ∧ g < hi ∧ l[k]? = some z ∧ w.cell? ⟨g, off + k, none⟩ = some (f z) := by
  obtain ⟨g, off, u, hA, h1, h2, hu, hc⟩ := h.at_ hk
  rw [List.getElem?_map] at hu
  cases hz : l[k]? with
  | none => rw [hz] at hu; cases hu
  | some z => rw [hz] at hu; injection hu with hu; subst hu; exact ⟨g, off, z, hA, h1, h2, rfl, hc⟩
theorem Rds.shape (h : Rds w lo hi size v n xs) : ∃ A c, v = .slice A n c ∧ n ≤ c ∧ c ≤ maxLen ∧ xs.length = n * size := by
  obtain ⟨A, c, hv, h1, h2, h3, _⟩ := h; exact ⟨A, c, hv, h1, h2, h3⟩
end
end Go.Proofs.Ytgkgoofapgabhaa
