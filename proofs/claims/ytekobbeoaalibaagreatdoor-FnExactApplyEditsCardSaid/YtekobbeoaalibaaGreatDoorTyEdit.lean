/- Edit: the plain words, and how a value reads as one. No program. -/
import Derived.Test.YtekobbeoaalibaaGreatDoorRow
namespace Go.Proofs.YtekobbeoaalibaaGreatDoor
open Go.RowKit
set_option linter.unusedVariables false

structure EditT where
  kind : Int
  place : Int
def EditT.dats (c : EditT) : List Dat := [.int .i64 c.kind, .int .i64 c.place]
theorem EditT.dats_len (c : EditT) : c.dats.length = 2 := rfl
/-- what the laws' size count takes for it -/
def EditT.bulk (c : EditT) : Nat := 0
/-- every text is of a length that an int holds -/
def EditT.Fits (c : EditT) : Prop := True
section
variable {w : World} {lo hi : Nat} {x : Value} {c : EditT}
theorem EditT.form (h : SRep w lo hi EditT.dats x c) : x = .agg #[Value.int .i64 c.kind, .int .i64 c.place] := by
  obtain ⟨cs, rfl, h1⟩ := h
  unfold EditT.dats at h1
  obtain ⟨v0, t0, rfl, a0, h1⟩ := h1.out
  obtain ⟨v1, t1, rfl, a1, h1⟩ := h1.out
  obtain rfl := h1.outNil
  obtain rfl := a0.int_
  obtain rfl := a1.int_
  exact rfl
theorem EditT.mk_  : SRep w lo hi EditT.dats (.agg #[Value.int .i64 c.kind, .int .i64 c.place]) c :=
  ⟨[_, _], rfl, .cons_ .mkInt (.cons_ .mkInt .nil_)⟩
/-- element j of a row: where it lies, and its cells -/
theorem EditT.at_ {A : Option Addr} {cap j : Nat} {l : List EditT} (h : LRep w lo hi 2 EditT.dats (.slice A l.length cap) l) (hc : l[j]? = some c) :
    ∃ g off, A = some ⟨g, off, none⟩ ∧ lo ≤ g ∧ g < hi ∧ c ∈ l ∧ SRep w lo hi EditT.dats (.agg #[Value.int .i64 c.kind, .int .i64 c.place]) c ∧ w.cell? ⟨g, off + j * 2, none⟩ = some (.int .i64 c.kind) ∧ w.cell? ⟨g, off + j * 2 + 1, none⟩ = some (.int .i64 c.place) := by
  obtain ⟨g, off, us, hA, h1, h2, h3, h4, h5⟩ := h.elem EditT.dats_len hc
  obtain hx := EditT.form (w := w) (lo := lo) (hi := hi) (c := c) (x := .agg us.toArray) ⟨us, rfl, h4⟩
  injection hx with hx
  obtain rfl : us = [_, _] := congrArg Array.toList hx
  exact ⟨g, off, hA, h1, h2, List.mem_of_getElem? hc, EditT.mk_, h5 0 _ rfl, h5 1 _ rfl⟩
end
end Go.Proofs.YtekobbeoaalibaaGreatDoor
