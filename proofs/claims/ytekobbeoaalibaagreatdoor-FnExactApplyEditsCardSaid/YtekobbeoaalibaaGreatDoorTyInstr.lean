/- Instr: the plain words, and how a value reads as one. No program. -/
import Derived.Test.YtekobbeoaalibaaGreatDoorRow
namespace Go.Proofs.YtekobbeoaalibaaGreatDoor
open Go.RowKit
set_option linter.unusedVariables false

structure InsT where
  op : Int
  a : Int
  b : Int
  line : Int
  text : ByteArray
def InsT.dats (c : InsT) : List Dat := [.int .i64 c.op, .int .i64 c.a, .int .i64 c.b, .int .i64 c.line, .str c.text]
theorem InsT.dats_len (c : InsT) : c.dats.length = 5 := rfl
/-- what the laws' size count takes for it -/
def InsT.bulk (c : InsT) : Nat := c.text.size
/-- every text is of a length that an int holds -/
def InsT.Fits (c : InsT) : Prop := (c.text.size ≤ 9223372036854775807)
section
variable {w : World} {lo hi : Nat} {x : Value} {c : InsT}
theorem InsT.form (h : SRep w lo hi InsT.dats x c) : x = .agg #[Value.int .i64 c.op, .int .i64 c.a, .int .i64 c.b, .int .i64 c.line, .string c.text] := by
  obtain ⟨cs, rfl, h1⟩ := h
  unfold InsT.dats at h1
  obtain ⟨v0, t0, rfl, a0, h1⟩ := h1.out
  obtain ⟨v1, t1, rfl, a1, h1⟩ := h1.out
  obtain ⟨v2, t2, rfl, a2, h1⟩ := h1.out
  obtain ⟨v3, t3, rfl, a3, h1⟩ := h1.out
  obtain ⟨v4, t4, rfl, a4, h1⟩ := h1.out
  obtain rfl := h1.outNil
  obtain rfl := a0.int_
  obtain rfl := a1.int_
  obtain rfl := a2.int_
  obtain rfl := a3.int_
  obtain rfl := a4.str_
  exact rfl
theorem InsT.mk_  : SRep w lo hi InsT.dats (.agg #[Value.int .i64 c.op, .int .i64 c.a, .int .i64 c.b, .int .i64 c.line, .string c.text]) c :=
  ⟨[_, _, _, _, _], rfl, .cons_ .mkInt (.cons_ .mkInt (.cons_ .mkInt (.cons_ .mkInt (.cons_ .mkStr .nil_))))⟩
/-- element j of a row: where it lies, and its cells -/
theorem InsT.at_ {A : Option Addr} {cap j : Nat} {l : List InsT} (h : LRep w lo hi 5 InsT.dats (.slice A l.length cap) l) (hc : l[j]? = some c) :
    ∃ g off, A = some ⟨g, off, none⟩ ∧ lo ≤ g ∧ g < hi ∧ c ∈ l ∧ SRep w lo hi InsT.dats (.agg #[Value.int .i64 c.op, .int .i64 c.a, .int .i64 c.b, .int .i64 c.line, .string c.text]) c ∧ w.cell? ⟨g, off + j * 5, none⟩ = some (.int .i64 c.op) ∧ w.cell? ⟨g, off + j * 5 + 1, none⟩ = some (.int .i64 c.a) ∧ w.cell? ⟨g, off + j * 5 + 2, none⟩ = some (.int .i64 c.b) ∧ w.cell? ⟨g, off + j * 5 + 3, none⟩ = some (.int .i64 c.line) ∧ w.cell? ⟨g, off + j * 5 + 4, none⟩ = some (.string c.text) := by
  obtain ⟨g, off, us, hA, h1, h2, h3, h4, h5⟩ := h.elem InsT.dats_len hc
  obtain hx := InsT.form (w := w) (lo := lo) (hi := hi) (c := c) (x := .agg us.toArray) ⟨us, rfl, h4⟩
  injection hx with hx
  obtain rfl : us = [_, _, _, _, _] := congrArg Array.toList hx
  exact ⟨g, off, hA, h1, h2, List.mem_of_getElem? hc, InsT.mk_, h5 0 _ rfl, h5 1 _ rfl, h5 2 _ rfl, h5 3 _ rfl, h5 4 _ rfl⟩
end
end Go.Proofs.YtekobbeoaalibaaGreatDoor
