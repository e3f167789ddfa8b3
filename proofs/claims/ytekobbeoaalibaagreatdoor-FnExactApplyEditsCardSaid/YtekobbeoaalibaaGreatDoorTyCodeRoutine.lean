/- CodeRoutine: the plain words, and how a value reads as one. No program. -/
import Derived.Test.YtekobbeoaalibaaGreatDoorRow
namespace Go.Proofs.YtekobbeoaalibaaGreatDoor
open Go.RowKit
set_option linter.unusedVariables false

structure CRoT where
  name : ByteArray
  params : Int
  slots : Int
  entry : Int
def CRoT.dats (c : CRoT) : List Dat := [.str c.name, .int .i64 c.params, .int .i64 c.slots, .int .i64 c.entry]
theorem CRoT.dats_len (c : CRoT) : c.dats.length = 4 := rfl
/-- what the laws' size count takes for it -/
def CRoT.bulk (c : CRoT) : Nat := c.name.size
/-- every text is of a length that an int holds -/
def CRoT.Fits (c : CRoT) : Prop := (c.name.size ≤ 9223372036854775807)
section
variable {w : World} {lo hi : Nat} {x : Value} {c : CRoT}
theorem CRoT.form (h : SRep w lo hi CRoT.dats x c) : x = .agg #[Value.string c.name, .int .i64 c.params, .int .i64 c.slots, .int .i64 c.entry] := by
  obtain ⟨cs, rfl, h1⟩ := h
  unfold CRoT.dats at h1
  obtain ⟨v0, t0, rfl, a0, h1⟩ := h1.out
  obtain ⟨v1, t1, rfl, a1, h1⟩ := h1.out
  obtain ⟨v2, t2, rfl, a2, h1⟩ := h1.out
  obtain ⟨v3, t3, rfl, a3, h1⟩ := h1.out
  obtain rfl := h1.outNil
  obtain rfl := a0.str_
  obtain rfl := a1.int_
  obtain rfl := a2.int_
  obtain rfl := a3.int_
  exact rfl
theorem CRoT.mk_  : SRep w lo hi CRoT.dats (.agg #[Value.string c.name, .int .i64 c.params, .int .i64 c.slots, .int .i64 c.entry]) c :=
  ⟨[_, _, _, _], rfl, .cons_ .mkStr (.cons_ .mkInt (.cons_ .mkInt (.cons_ .mkInt .nil_)))⟩
/-- element j of a row: where it lies, and its cells -/
theorem CRoT.at_ {A : Option Addr} {cap j : Nat} {l : List CRoT} (h : LRep w lo hi 4 CRoT.dats (.slice A l.length cap) l) (hc : l[j]? = some c) :
    ∃ g off, A = some ⟨g, off, none⟩ ∧ lo ≤ g ∧ g < hi ∧ c ∈ l ∧ SRep w lo hi CRoT.dats (.agg #[Value.string c.name, .int .i64 c.params, .int .i64 c.slots, .int .i64 c.entry]) c ∧ w.cell? ⟨g, off + j * 4, none⟩ = some (.string c.name) ∧ w.cell? ⟨g, off + j * 4 + 1, none⟩ = some (.int .i64 c.params) ∧ w.cell? ⟨g, off + j * 4 + 2, none⟩ = some (.int .i64 c.slots) ∧ w.cell? ⟨g, off + j * 4 + 3, none⟩ = some (.int .i64 c.entry) := by
  obtain ⟨g, off, us, hA, h1, h2, h3, h4, h5⟩ := h.elem CRoT.dats_len hc
  obtain hx := CRoT.form (w := w) (lo := lo) (hi := hi) (c := c) (x := .agg us.toArray) ⟨us, rfl, h4⟩
  injection hx with hx
  obtain rfl : us = [_, _, _, _] := congrArg Array.toList hx
  exact ⟨g, off, hA, h1, h2, List.mem_of_getElem? hc, CRoT.mk_, h5 0 _ rfl, h5 1 _ rfl, h5 2 _ rfl, h5 3 _ rfl⟩
end
end Go.Proofs.YtekobbeoaalibaaGreatDoor
