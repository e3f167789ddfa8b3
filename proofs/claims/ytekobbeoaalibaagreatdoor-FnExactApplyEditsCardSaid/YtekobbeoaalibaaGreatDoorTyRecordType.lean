/- RecordType: the plain words, and how a value reads as one. No program. -/
import Derived.Test.YtekobbeoaalibaaGreatDoorRow
namespace Go.Proofs.YtekobbeoaalibaaGreatDoor
open Go.RowKit
set_option linter.unusedVariables false

structure RecT where
  name : ByteArray
  fields : List ByteArray
  line : Int
def RecT.dats (c : RecT) : List Dat := [.str c.name, .row 1 c.fields.length (flat strDats c.fields), .int .i64 c.line]
theorem RecT.dats_len (c : RecT) : c.dats.length = 3 := rfl
/-- what the laws' size count takes for it -/
def RecT.bulk (c : RecT) : Nat := c.name.size + (c.fields.length + sumOf ByteArray.size c.fields)
/-- every text is of a length that an int holds -/
def RecT.Fits (c : RecT) : Prop := (c.name.size ≤ 9223372036854775807) ∧ (∀ s ∈ c.fields, s.size ≤ 9223372036854775807)
section
variable {w : World} {lo hi : Nat} {x : Value} {c : RecT}
theorem RecT.form (h : SRep w lo hi RecT.dats x c) : ∃ Afields nfields, x = .agg #[Value.string c.name, .slice Afields c.fields.length nfields, .int .i64 c.line] ∧ LRep w lo hi 1 strDats (.slice Afields c.fields.length nfields) c.fields ∧ c.fields.length ≤ nfields ∧ nfields ≤ maxLen := by
  obtain ⟨cs, rfl, h1⟩ := h
  unfold RecT.dats at h1
  obtain ⟨v0, t0, rfl, a0, h1⟩ := h1.out
  obtain ⟨v1, t1, rfl, a1, h1⟩ := h1.out
  obtain ⟨v2, t2, rfl, a2, h1⟩ := h1.out
  obtain rfl := h1.outNil
  obtain rfl := a0.str_
  obtain ⟨A1, c1, rfl, g1, k1⟩ := LRep.shape (f := strDats) a1
  obtain rfl := a2.int_
  exact ⟨A1, c1, rfl, a1, g1, k1⟩
theorem RecT.mk_ {Afields : Option Addr} {nfields : Nat} (hfields : LRep w lo hi 1 strDats (.slice Afields c.fields.length nfields) c.fields) : SRep w lo hi RecT.dats (.agg #[Value.string c.name, .slice Afields c.fields.length nfields, .int .i64 c.line]) c :=
  ⟨[_, _, _], rfl, .cons_ .mkStr (.cons_ hfields (.cons_ .mkInt .nil_))⟩
theorem RecT.rows {Afields : Option Addr} {nfields : Nat} (h : SRep w lo hi RecT.dats (.agg #[Value.string c.name, .slice Afields c.fields.length nfields, .int .i64 c.line]) c) : LRep w lo hi 1 strDats (.slice Afields c.fields.length nfields) c.fields := by
  obtain ⟨X0, y0, hx, l0, _, _⟩ := RecT.form h
  injection hx with hx
  have hx := congrArg Array.toList hx
  simp only [List.cons.injEq, Value.slice.injEq, and_true, true_and] at hx
  obtain ⟨rfl, rfl⟩ := hx
  exact l0
/-- element j of a row: where it lies, and its cells -/
theorem RecT.at_ {A : Option Addr} {cap j : Nat} {l : List RecT} (h : LRep w lo hi 3 RecT.dats (.slice A l.length cap) l) (hc : l[j]? = some c) :
    ∃ g off Afields nfields, A = some ⟨g, off, none⟩ ∧ lo ≤ g ∧ g < hi ∧ c ∈ l ∧ SRep w lo hi RecT.dats (.agg #[Value.string c.name, .slice Afields c.fields.length nfields, .int .i64 c.line]) c ∧ w.cell? ⟨g, off + j * 3, none⟩ = some (.string c.name) ∧ w.cell? ⟨g, off + j * 3 + 1, none⟩ = some (.slice Afields c.fields.length nfields) ∧ w.cell? ⟨g, off + j * 3 + 2, none⟩ = some (.int .i64 c.line) := by
  obtain ⟨g, off, us, hA, h1, h2, h3, h4, h5⟩ := h.elem RecT.dats_len hc
  obtain ⟨B0, m0, hx, l0, _, _⟩ := RecT.form (w := w) (lo := lo) (hi := hi) (c := c) (x := .agg us.toArray) ⟨us, rfl, h4⟩
  injection hx with hx
  obtain rfl : us = [_, _, _] := congrArg Array.toList hx
  exact ⟨g, off, B0, m0, hA, h1, h2, List.mem_of_getElem? hc, RecT.mk_ l0, h5 0 _ rfl, h5 1 _ rfl, h5 2 _ rfl⟩
end
end Go.Proofs.YtekobbeoaalibaaGreatDoor
