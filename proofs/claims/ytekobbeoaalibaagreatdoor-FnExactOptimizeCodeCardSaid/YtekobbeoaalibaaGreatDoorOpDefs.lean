/- OperatorText and OperatorArity of both sides: which operators there are, and how many operands they take. -/
import Derived.Test.YtekobbeoaalibaaGreatDoorProg
import Derived.Test.YtekobbeoaalibaaGreatDoorShelf
import Derived.Test.YtekobbeoaalibaaGreatDoorDat
import Derived.Lib.LaidTab
namespace Go.Proofs.YtekobbeoaalibaaGreatDoor
open Go.RowKit

theorem gSpace : Tryz.prog.globalNamed "strings.asciiSpace" = some 1 := by kernel_rfl
/-- the table of ASCII blanks reads as its initialiser lays it -/
def SpaceTab (w : World) : Prop := Lib.TabIs Tryz.prog w "strings.asciiSpace" .u8 Lib.asciiSpaceTab ∧ 1 < w.heap.size
theorem SpaceTab.below {w w' : World} {B : Nat} (h : SpaceTab w) (hb : Below B w w') (hB : 1 < B) : SpaceTab w' :=
  ⟨var?_below hb gSpace hB h.1, Nat.lt_of_lt_of_le h.2 hb.size⟩
theorem SpaceTab.later {w w' : World} (h : SpaceTab w) (hb : Below w.heap.size w w') : SpaceTab w' := h.below hb h.2

/-- strings.Fields at a constant: its n fields, none empty -/
theorem fields_at {s : ByteArray} {w : World} {Q : Ending → World → Prop} (n : Nat) (hs : s.size < 4294967281) (ha : (s.data.toList.all fun b => decide (b.toNat < 128)) = true)
    (hn : (Lib.fields s.data.toList).length = n) (hne : ((Lib.fields s.data.toList).all fun l => !l.isEmpty && decide (l.length ≤ 20)) = true) (ht : SpaceTab w)
    (h : ∀ (l : List ByteArray) (w' : World), l = (Lib.fields s.data.toList).map (fun x => (⟨x.toArray⟩ : ByteArray)) → l.length = n → (∀ t ∈ l, t.toList.isEmpty = false ∧ t.size ≤ 20) → Blk w' w.heap.size 9 (l.map .string).toArray → Below w.heap.size w w' → Q (.returned (.slice (some ⟨w.heap.size, 0, none⟩) n n)) w') :
    Calls Tryz.prog 149 #[.string s] w Q := by
  refine (Tryz.strings_Fields_laid s w hs (fun j b hj => ?_) ht.1).mono fun e w' ⟨he, hw⟩ => ?_
  · have := List.all_eq_true.1 ha b (List.mem_of_getElem? hj)
    simpa using this
  · subst he hw
    rw [hn]
    refine h ((Lib.fields s.data.toList).map fun l => ⟨l.toArray⟩) _ rfl (by rw [List.length_map, hn]) (fun t ht => ?_) ?_ ((Below.refl _ _).alloc (Nat.le_refl _) _)
    · obtain ⟨l, hl, rfl⟩ := List.mem_map.1 ht
      have := List.all_eq_true.1 hne l hl
      simp only [Bool.and_eq_true, Bool.not_eq_true', decide_eq_true_eq] at this
      exact ⟨by rw [ByteArray.toList_eq]; exact this.1, by simpa [ByteArray.size] using this.2⟩
    · rw [List.map_map]
      exact Blk.new w _ _
/-- the texts' cells in such a block -/
theorem text_at {w : World} {g : Nat} {l : List ByteArray} (h : Blk w g 9 (l.map Value.string).toArray) (j : Nat) (hj : j < l.length) : w.cell? ⟨g, j, none⟩ = some (.string (l.getD j ByteArray.empty)) := by
  rw [h.cell, List.getElem?_toArray, List.getElem?_map, List.getD, List.getElem?_eq_getElem hj]
  rfl

def opOk (op : Int) : Bool := decide ((1 ≤ op ∧ op ≤ 11) ∨ (20 ≤ op ∧ op ≤ 25) ∨ (30 ≤ op ∧ op ≤ 35) ∨ (40 ≤ op ∧ op ≤ 47) ∨ (50 ≤ op ∧ op ≤ 54) ∨ (60 ≤ op ∧ op ≤ 63) ∨ (70 ≤ op ∧ op ≤ 79) ∨ op = 81 ∨ (220 ≤ op ∧ op ≤ 225) ∨ (250 ≤ op ∧ op ≤ 254))
def arityLo (op : Int) : Int := if opOk op = false then 0 else if op ≤ 11 ∨ op = 81 then 1 else if op = 71 ∨ op = 72 then 3 else if op = 73 then 2 else if op = 74 then 0 else 2
def arityHi (op : Int) : Int := if opOk op = false then -1 else if op ≤ 11 ∨ op = 81 then 1 else if op = 71 ∨ op = 72 then 3 else if op = 73 then 8 else if op = 74 then 8 else 2
def OpTextB (b : Nat) (op : Int) (w : World) (e : Ending) (w' : World) : Prop := ∃ t : ByteArray, e = .returned (.string t) ∧ t.toList.isEmpty = !opOk op ∧ t.size ≤ b ∧ Below w.heap.size w w'
def OpText (op : Int) : World → Ending → World → Prop := OpTextB 22 op
theorem OpTextB.up {b : Nat} {op : Int} {w w' : World} {e : Ending} (h : OpTextB b op w e w') (hb : b ≤ 22) : OpText op w e w' := by obtain ⟨t, h1, h2, h3, h4⟩ := h; exact ⟨t, h1, h2, by omega, h4⟩
theorem ok_yes {op : Int} (h : (1 ≤ op ∧ op ≤ 11) ∨ (20 ≤ op ∧ op ≤ 25) ∨ (30 ≤ op ∧ op ≤ 35) ∨ (40 ≤ op ∧ op ≤ 47) ∨ (50 ≤ op ∧ op ≤ 54) ∨ (60 ≤ op ∧ op ≤ 63) ∨ (70 ≤ op ∧ op ≤ 79) ∨ op = 81 ∨ (220 ≤ op ∧ op ≤ 225) ∨ (250 ≤ op ∧ op ≤ 254)) : opOk op = true := decide_eq_true h
theorem ok_no {op : Int} (h : ¬ ((1 ≤ op ∧ op ≤ 11) ∨ (20 ≤ op ∧ op ≤ 25) ∨ (30 ≤ op ∧ op ≤ 35) ∨ (40 ≤ op ∧ op ≤ 47) ∨ (50 ≤ op ∧ op ≤ 54) ∨ (60 ≤ op ∧ op ≤ 63) ∨ (70 ≤ op ∧ op ≤ 79) ∨ op = 81 ∨ (220 ≤ op ∧ op ≤ 225) ∨ (250 ≤ op ∧ op ≤ 254))) : opOk op = false := decide_eq_false h

end Go.Proofs.YtekobbeoaalibaaGreatDoor
