/- TyAll: several texts in one. -/
import Derived.Test.YtekobbeoaalibaaGreatDoorRow
section
namespace Go.Proofs.YtekobbeoaalibaaGreatDoor
open Go.RowKit
set_option linter.unusedVariables false

structure CRoT where
  name : ByteArray
  params : Int
  slots : Int
  entry : Int
def CRoT.dats (c : CRoT) : List Dat := [.str c.name, .int .i64 c.params, .int .i64 c.slots, .int .i64 c.entry]
theorem CRoT.dats_len (c : CRoT) : c.dats.length = 4 := rfl
/-- what the laws' size count takes for it -/
def CRoT.bulk (c : CRoT) : Nat := c.name.size
/-- every text is of a length that an int holds -/
def CRoT.Fits (c : CRoT) : Prop := (c.name.size ≤ 9223372036854775807)
section
variable {w : World} {lo hi : Nat} {x : Value} {c : CRoT}
theorem CRoT.form (h : SRep w lo hi CRoT.dats x c) : x = .agg #[Value.string c.name, .int .i64 c.params, .int .i64 c.slots, .int .i64 c.entry] := by
  obtain ⟨cs, rfl, h1⟩ := h
  unfold CRoT.dats at h1
  obtain ⟨v0, t0, rfl, a0, h1⟩ := h1.out
  obtain ⟨v1, t1, rfl, a1, h1⟩ := h1.out
  obtain ⟨v2, t2, rfl, a2, h1⟩ := h1.out
  obtain ⟨v3, t3, rfl, a3, h1⟩ := h1.out
  obtain rfl := h1.outNil
  obtain rfl := a0.str_
  obtain rfl := a1.int_
  obtain rfl := a2.int_
  obtain rfl := a3.int_
  exact rfl
theorem CRoT.mk_  : SRep w lo hi CRoT.dats (.agg #[Value.string c.name, .int .i64 c.params, .int .i64 c.slots, .int .i64 c.entry]) c :=
  ⟨[_, _, _, _], rfl, .cons_ .mkStr (.cons_ .mkInt (.cons_ .mkInt (.cons_ .mkInt .nil_)))⟩
/-- element j of a row: where it lies, and its cells -/
theorem CRoT.at_ {A : Option Addr} {cap j : Nat} {l : List CRoT} (h : LRep w lo hi 4 CRoT.dats (.slice A l.length cap) l) (hc : l[j]? = some c) :
    ∃ g off, A = some ⟨g, off, none⟩ ∧ lo ≤ g ∧ g < hi ∧ c ∈ l ∧ SRep w lo hi CRoT.dats (.agg #[Value.string c.name, .int .i64 c.params, .int .i64 c.slots, .int .i64 c.entry]) c ∧ w.cell? ⟨g, off + j * 4, none⟩ = some (.string c.name) ∧ w.cell? ⟨g, off + j * 4 + 1, none⟩ = some (.int .i64 c.params) ∧ w.cell? ⟨g, off + j * 4 + 2, none⟩ = some (.int .i64 c.slots) ∧ w.cell? ⟨g, off + j * 4 + 3, none⟩ = some (.int .i64 c.entry) := by
  obtain ⟨g, off, us, hA, h1, h2, h3, h4, h5⟩ := h.elem CRoT.dats_len hc
  obtain hx := CRoT.form (w := w) (lo := lo) (hi := hi) (c := c) (x := .agg us.toArray) ⟨us, rfl, h4⟩
  injection hx with hx
  obtain rfl : us = [_, _, _, _] := congrArg Array.toList hx
  exact ⟨g, off, hA, h1, h2, List.mem_of_getElem? hc, CRoT.mk_, h5 0 _ rfl, h5 1 _ rfl, h5 2 _ rfl, h5 3 _ rfl⟩
end
end Go.Proofs.YtekobbeoaalibaaGreatDoor
end

section
namespace Go.Proofs.YtekobbeoaalibaaGreatDoor
open Go.RowKit
set_option linter.unusedVariables false

structure RecT where
  name : ByteArray
  fields : List ByteArray
  line : Int
def RecT.dats (c : RecT) : List Dat := [.str c.name, .row 1 c.fields.length (flat strDats c.fields), .int .i64 c.line]
theorem RecT.dats_len (c : RecT) : c.dats.length = 3 := rfl
/-- what the laws' size count takes for it -/
def RecT.bulk (c : RecT) : Nat := c.name.size + (c.fields.length + sumOf ByteArray.size c.fields)
/-- every text is of a length that an int holds -/
def RecT.Fits (c : RecT) : Prop := (c.name.size ≤ 9223372036854775807) ∧ (∀ s ∈ c.fields, s.size ≤ 9223372036854775807)
section
variable {w : World} {lo hi : Nat} {x : Value} {c : RecT}
theorem RecT.form (h : SRep w lo hi RecT.dats x c) : ∃ Afields nfields, x = .agg #[Value.string c.name, .slice Afields c.fields.length nfields, .int .i64 c.line] ∧ LRep w lo hi 1 strDats (.slice Afields c.fields.length nfields) c.fields ∧ c.fields.length ≤ nfields ∧ nfields ≤ maxLen := by
  obtain ⟨cs, rfl, h1⟩ := h
  unfold RecT.dats at h1
  obtain ⟨v0, t0, rfl, a0, h1⟩ := h1.out
  obtain ⟨v1, t1, rfl, a1, h1⟩ := h1.out
  obtain ⟨v2, t2, rfl, a2, h1⟩ := h1.out
  obtain rfl := h1.outNil
  obtain rfl := a0.str_
  obtain ⟨A1, c1, rfl, g1, k1⟩ := LRep.shape (f := strDats) a1
  obtain rfl := a2.int_
  exact ⟨A1, c1, rfl, a1, g1, k1⟩
theorem RecT.mk_ {Afields : Option Addr} {nfields : Nat} (hfields : LRep w lo hi 1 strDats (.slice Afields c.fields.length nfields) c.fields) : SRep w lo hi RecT.dats (.agg #[Value.string c.name, .slice Afields c.fields.length nfields, .int .i64 c.line]) c :=
  ⟨[_, _, _], rfl, .cons_ .mkStr (.cons_ hfields (.cons_ .mkInt .nil_))⟩
theorem RecT.rows {Afields : Option Addr} {nfields : Nat} (h : SRep w lo hi RecT.dats (.agg #[Value.string c.name, .slice Afields c.fields.length nfields, .int .i64 c.line]) c) : LRep w lo hi 1 strDats (.slice Afields c.fields.length nfields) c.fields := by
  obtain ⟨X0, y0, hx, l0, _, _⟩ := RecT.form h
  injection hx with hx
  have hx := congrArg Array.toList hx
  simp only [List.cons.injEq, Value.slice.injEq, and_true, true_and] at hx
  obtain ⟨rfl, rfl⟩ := hx
  exact l0
/-- element j of a row: where it lies, and its cells -/
theorem RecT.at_ {A : Option Addr} {cap j : Nat} {l : List RecT} (h : LRep w lo hi 3 RecT.dats (.slice A l.length cap) l) (hc : l[j]? = some c) :
    ∃ g off Afields nfields, A = some ⟨g, off, none⟩ ∧ lo ≤ g ∧ g < hi ∧ c ∈ l ∧ SRep w lo hi RecT.dats (.agg #[Value.string c.name, .slice Afields c.fields.length nfields, .int .i64 c.line]) c ∧ w.cell? ⟨g, off + j * 3, none⟩ = some (.string c.name) ∧ w.cell? ⟨g, off + j * 3 + 1, none⟩ = some (.slice Afields c.fields.length nfields) ∧ w.cell? ⟨g, off + j * 3 + 2, none⟩ = some (.int .i64 c.line) := by
  obtain ⟨g, off, us, hA, h1, h2, h3, h4, h5⟩ := h.elem RecT.dats_len hc
  obtain ⟨B0, m0, hx, l0, _, _⟩ := RecT.form (w := w) (lo := lo) (hi := hi) (c := c) (x := .agg us.toArray) ⟨us, rfl, h4⟩
  injection hx with hx
  obtain rfl : us = [_, _, _] := congrArg Array.toList hx
  exact ⟨g, off, B0, m0, hA, h1, h2, List.mem_of_getElem? hc, RecT.mk_ l0, h5 0 _ rfl, h5 1 _ rfl, h5 2 _ rfl⟩
end
end Go.Proofs.YtekobbeoaalibaaGreatDoor
end

section
namespace Go.Proofs.YtekobbeoaalibaaGreatDoor
open Go.RowKit
set_option linter.unusedVariables false

structure InsT where
  op : Int
  a : Int
  b : Int
  line : Int
  text : ByteArray
def InsT.dats (c : InsT) : List Dat := [.int .i64 c.op, .int .i64 c.a, .int .i64 c.b, .int .i64 c.line, .str c.text]
theorem InsT.dats_len (c : InsT) : c.dats.length = 5 := rfl
/-- what the laws' size count takes for it -/
def InsT.bulk (c : InsT) : Nat := c.text.size
/-- every text is of a length that an int holds -/
def InsT.Fits (c : InsT) : Prop := (c.text.size ≤ 9223372036854775807)
section
variable {w : World} {lo hi : Nat} {x : Value} {c : InsT}
theorem InsT.form (h : SRep w lo hi InsT.dats x c) : x = .agg #[Value.int .i64 c.op, .int .i64 c.a, .int .i64 c.b, .int .i64 c.line, .string c.text] := by
  obtain ⟨cs, rfl, h1⟩ := h
  unfold InsT.dats at h1
  obtain ⟨v0, t0, rfl, a0, h1⟩ := h1.out
  obtain ⟨v1, t1, rfl, a1, h1⟩ := h1.out
  obtain ⟨v2, t2, rfl, a2, h1⟩ := h1.out
  obtain ⟨v3, t3, rfl, a3, h1⟩ := h1.out
  obtain ⟨v4, t4, rfl, a4, h1⟩ := h1.out
  obtain rfl := h1.outNil
  obtain rfl := a0.int_
  obtain rfl := a1.int_
  obtain rfl := a2.int_
  obtain rfl := a3.int_
  obtain rfl := a4.str_
  exact rfl
theorem InsT.mk_  : SRep w lo hi InsT.dats (.agg #[Value.int .i64 c.op, .int .i64 c.a, .int .i64 c.b, .int .i64 c.line, .string c.text]) c :=
  ⟨[_, _, _, _, _], rfl, .cons_ .mkInt (.cons_ .mkInt (.cons_ .mkInt (.cons_ .mkInt (.cons_ .mkStr .nil_))))⟩
/-- element j of a row: where it lies, and its cells -/
theorem InsT.at_ {A : Option Addr} {cap j : Nat} {l : List InsT} (h : LRep w lo hi 5 InsT.dats (.slice A l.length cap) l) (hc : l[j]? = some c) :
    ∃ g off, A = some ⟨g, off, none⟩ ∧ lo ≤ g ∧ g < hi ∧ c ∈ l ∧ SRep w lo hi InsT.dats (.agg #[Value.int .i64 c.op, .int .i64 c.a, .int .i64 c.b, .int .i64 c.line, .string c.text]) c ∧ w.cell? ⟨g, off + j * 5, none⟩ = some (.int .i64 c.op) ∧ w.cell? ⟨g, off + j * 5 + 1, none⟩ = some (.int .i64 c.a) ∧ w.cell? ⟨g, off + j * 5 + 2, none⟩ = some (.int .i64 c.b) ∧ w.cell? ⟨g, off + j * 5 + 3, none⟩ = some (.int .i64 c.line) ∧ w.cell? ⟨g, off + j * 5 + 4, none⟩ = some (.string c.text) := by
  obtain ⟨g, off, us, hA, h1, h2, h3, h4, h5⟩ := h.elem InsT.dats_len hc
  obtain hx := InsT.form (w := w) (lo := lo) (hi := hi) (c := c) (x := .agg us.toArray) ⟨us, rfl, h4⟩
  injection hx with hx
  obtain rfl : us = [_, _, _, _, _] := congrArg Array.toList hx
  exact ⟨g, off, hA, h1, h2, List.mem_of_getElem? hc, InsT.mk_, h5 0 _ rfl, h5 1 _ rfl, h5 2 _ rfl, h5 3 _ rfl, h5 4 _ rfl⟩
end
end Go.Proofs.YtekobbeoaalibaaGreatDoor
end

section
namespace Go.Proofs.YtekobbeoaalibaaGreatDoor
open Go.RowKit
set_option linter.unusedVariables false

structure EditT where
  kind : Int
  place : Int
def EditT.dats (c : EditT) : List Dat := [.int .i64 c.kind, .int .i64 c.place]
theorem EditT.dats_len (c : EditT) : c.dats.length = 2 := rfl
/-- what the laws' size count takes for it -/
def EditT.bulk (c : EditT) : Nat := 0
/-- every text is of a length that an int holds -/
def EditT.Fits (c : EditT) : Prop := True
section
variable {w : World} {lo hi : Nat} {x : Value} {c : EditT}
theorem EditT.form (h : SRep w lo hi EditT.dats x c) : x = .agg #[Value.int .i64 c.kind, .int .i64 c.place] := by
  obtain ⟨cs, rfl, h1⟩ := h
  unfold EditT.dats at h1
  obtain ⟨v0, t0, rfl, a0, h1⟩ := h1.out
  obtain ⟨v1, t1, rfl, a1, h1⟩ := h1.out
  obtain rfl := h1.outNil
  obtain rfl := a0.int_
  obtain rfl := a1.int_
  exact rfl
theorem EditT.mk_  : SRep w lo hi EditT.dats (.agg #[Value.int .i64 c.kind, .int .i64 c.place]) c :=
  ⟨[_, _], rfl, .cons_ .mkInt (.cons_ .mkInt .nil_)⟩
/-- element j of a row: where it lies, and its cells -/
theorem EditT.at_ {A : Option Addr} {cap j : Nat} {l : List EditT} (h : LRep w lo hi 2 EditT.dats (.slice A l.length cap) l) (hc : l[j]? = some c) :
    ∃ g off, A = some ⟨g, off, none⟩ ∧ lo ≤ g ∧ g < hi ∧ c ∈ l ∧ SRep w lo hi EditT.dats (.agg #[Value.int .i64 c.kind, .int .i64 c.place]) c ∧ w.cell? ⟨g, off + j * 2, none⟩ = some (.int .i64 c.kind) ∧ w.cell? ⟨g, off + j * 2 + 1, none⟩ = some (.int .i64 c.place) := by
  obtain ⟨g, off, us, hA, h1, h2, h3, h4, h5⟩ := h.elem EditT.dats_len hc
  obtain hx := EditT.form (w := w) (lo := lo) (hi := hi) (c := c) (x := .agg us.toArray) ⟨us, rfl, h4⟩
  injection hx with hx
  obtain rfl : us = [_, _] := congrArg Array.toList hx
  exact ⟨g, off, hA, h1, h2, List.mem_of_getElem? hc, EditT.mk_, h5 0 _ rfl, h5 1 _ rfl⟩
end
end Go.Proofs.YtekobbeoaalibaaGreatDoor
end

section
namespace Go.Proofs.YtekobbeoaalibaaGreatDoor
open Go.RowKit
set_option linter.unusedVariables false

structure CodeT where
  routines : List CRoT
  records : List RecT
  globals : List ByteArray
  main : Int
  instrs : List InsT
def CodeT.dats (c : CodeT) : List Dat := [.row 4 c.routines.length (flat CRoT.dats c.routines), .row 3 c.records.length (flat RecT.dats c.records), .row 1 c.globals.length (flat strDats c.globals), .int .i64 c.main, .row 5 c.instrs.length (flat InsT.dats c.instrs)]
theorem CodeT.dats_len (c : CodeT) : c.dats.length = 5 := rfl
/-- what the laws' size count takes for it -/
def CodeT.bulk (c : CodeT) : Nat := (c.routines.length + sumOf CRoT.bulk c.routines) + (c.records.length + sumOf RecT.bulk c.records) + (c.globals.length + sumOf ByteArray.size c.globals) + (c.instrs.length + sumOf InsT.bulk c.instrs)
/-- every text is of a length that an int holds -/
def CodeT.Fits (c : CodeT) : Prop := (∀ y ∈ c.routines, y.Fits) ∧ (∀ y ∈ c.records, y.Fits) ∧ (∀ s ∈ c.globals, s.size ≤ 9223372036854775807) ∧ (∀ y ∈ c.instrs, y.Fits)
section
variable {w : World} {lo hi : Nat} {x : Value} {c : CodeT}
theorem CodeT.form (h : SRep w lo hi CodeT.dats x c) : ∃ Aroutines nroutines Arecords nrecords Aglobals nglobals Ainstrs ninstrs, x = .agg #[Value.slice Aroutines c.routines.length nroutines, .slice Arecords c.records.length nrecords, .slice Aglobals c.globals.length nglobals, .int .i64 c.main, .slice Ainstrs c.instrs.length ninstrs] ∧ LRep w lo hi 4 CRoT.dats (.slice Aroutines c.routines.length nroutines) c.routines ∧ c.routines.length ≤ nroutines ∧ nroutines ≤ maxLen ∧ LRep w lo hi 3 RecT.dats (.slice Arecords c.records.length nrecords) c.records ∧ c.records.length ≤ nrecords ∧ nrecords ≤ maxLen ∧ LRep w lo hi 1 strDats (.slice Aglobals c.globals.length nglobals) c.globals ∧ c.globals.length ≤ nglobals ∧ nglobals ≤ maxLen ∧ LRep w lo hi 5 InsT.dats (.slice Ainstrs c.instrs.length ninstrs) c.instrs ∧ c.instrs.length ≤ ninstrs ∧ ninstrs ≤ maxLen := by
  obtain ⟨cs, rfl, h1⟩ := h
  unfold CodeT.dats at h1
  obtain ⟨v0, t0, rfl, a0, h1⟩ := h1.out
  obtain ⟨v1, t1, rfl, a1, h1⟩ := h1.out
  obtain ⟨v2, t2, rfl, a2, h1⟩ := h1.out
  obtain ⟨v3, t3, rfl, a3, h1⟩ := h1.out
  obtain ⟨v4, t4, rfl, a4, h1⟩ := h1.out
  obtain rfl := h1.outNil
  obtain ⟨A0, c0, rfl, g0, k0⟩ := LRep.shape (f := CRoT.dats) a0
  obtain ⟨A1, c1, rfl, g1, k1⟩ := LRep.shape (f := RecT.dats) a1
  obtain ⟨A2, c2, rfl, g2, k2⟩ := LRep.shape (f := strDats) a2
  obtain rfl := a3.int_
  obtain ⟨A4, c4, rfl, g4, k4⟩ := LRep.shape (f := InsT.dats) a4
  exact ⟨A0, c0, A1, c1, A2, c2, A4, c4, rfl, a0, g0, k0, a1, g1, k1, a2, g2, k2, a4, g4, k4⟩
theorem CodeT.mk_ {Aroutines : Option Addr} {nroutines : Nat} (hroutines : LRep w lo hi 4 CRoT.dats (.slice Aroutines c.routines.length nroutines) c.routines) {Arecords : Option Addr} {nrecords : Nat} (hrecords : LRep w lo hi 3 RecT.dats (.slice Arecords c.records.length nrecords) c.records) {Aglobals : Option Addr} {nglobals : Nat} (hglobals : LRep w lo hi 1 strDats (.slice Aglobals c.globals.length nglobals) c.globals) {Ainstrs : Option Addr} {ninstrs : Nat} (hinstrs : LRep w lo hi 5 InsT.dats (.slice Ainstrs c.instrs.length ninstrs) c.instrs) : SRep w lo hi CodeT.dats (.agg #[Value.slice Aroutines c.routines.length nroutines, .slice Arecords c.records.length nrecords, .slice Aglobals c.globals.length nglobals, .int .i64 c.main, .slice Ainstrs c.instrs.length ninstrs]) c :=
  ⟨[_, _, _, _, _], rfl, .cons_ hroutines (.cons_ hrecords (.cons_ hglobals (.cons_ .mkInt (.cons_ hinstrs .nil_))))⟩
theorem CodeT.rows {Aroutines : Option Addr} {nroutines : Nat} {Arecords : Option Addr} {nrecords : Nat} {Aglobals : Option Addr} {nglobals : Nat} {Ainstrs : Option Addr} {ninstrs : Nat} (h : SRep w lo hi CodeT.dats (.agg #[Value.slice Aroutines c.routines.length nroutines, .slice Arecords c.records.length nrecords, .slice Aglobals c.globals.length nglobals, .int .i64 c.main, .slice Ainstrs c.instrs.length ninstrs]) c) : LRep w lo hi 4 CRoT.dats (.slice Aroutines c.routines.length nroutines) c.routines ∧ LRep w lo hi 3 RecT.dats (.slice Arecords c.records.length nrecords) c.records ∧ LRep w lo hi 1 strDats (.slice Aglobals c.globals.length nglobals) c.globals ∧ LRep w lo hi 5 InsT.dats (.slice Ainstrs c.instrs.length ninstrs) c.instrs := by
  obtain ⟨X0, y0, X1, y1, X2, y2, X3, y3, hx, l0, _, _, l1, _, _, l2, _, _, l3, _, _⟩ := CodeT.form h
  injection hx with hx
  have hx := congrArg Array.toList hx
  simp only [List.cons.injEq, Value.slice.injEq, and_true, true_and] at hx
  obtain ⟨⟨rfl, rfl⟩, ⟨rfl, rfl⟩, ⟨rfl, rfl⟩, ⟨rfl, rfl⟩⟩ := hx
  exact ⟨l0, l1, l2, l3⟩
/-- element j of a row: where it lies, and its cells -/
theorem CodeT.at_ {A : Option Addr} {cap j : Nat} {l : List CodeT} (h : LRep w lo hi 5 CodeT.dats (.slice A l.length cap) l) (hc : l[j]? = some c) :
    ∃ g off Aroutines nroutines Arecords nrecords Aglobals nglobals Ainstrs ninstrs, A = some ⟨g, off, none⟩ ∧ lo ≤ g ∧ g < hi ∧ c ∈ l ∧ SRep w lo hi CodeT.dats (.agg #[Value.slice Aroutines c.routines.length nroutines, .slice Arecords c.records.length nrecords, .slice Aglobals c.globals.length nglobals, .int .i64 c.main, .slice Ainstrs c.instrs.length ninstrs]) c ∧ w.cell? ⟨g, off + j * 5, none⟩ = some (.slice Aroutines c.routines.length nroutines) ∧ w.cell? ⟨g, off + j * 5 + 1, none⟩ = some (.slice Arecords c.records.length nrecords) ∧ w.cell? ⟨g, off + j * 5 + 2, none⟩ = some (.slice Aglobals c.globals.length nglobals) ∧ w.cell? ⟨g, off + j * 5 + 3, none⟩ = some (.int .i64 c.main) ∧ w.cell? ⟨g, off + j * 5 + 4, none⟩ = some (.slice Ainstrs c.instrs.length ninstrs) := by
  obtain ⟨g, off, us, hA, h1, h2, h3, h4, h5⟩ := h.elem CodeT.dats_len hc
  obtain ⟨B0, m0, B1, m1, B2, m2, B3, m3, hx, l0, _, _, l1, _, _, l2, _, _, l3, _, _⟩ := CodeT.form (w := w) (lo := lo) (hi := hi) (c := c) (x := .agg us.toArray) ⟨us, rfl, h4⟩
  injection hx with hx
  obtain rfl : us = [_, _, _, _, _] := congrArg Array.toList hx
  exact ⟨g, off, B0, m0, B1, m1, B2, m2, B3, m3, hA, h1, h2, List.mem_of_getElem? hc, CodeT.mk_ l0 l1 l2 l3, h5 0 _ rfl, h5 1 _ rfl, h5 2 _ rfl, h5 3 _ rfl, h5 4 _ rfl⟩
end
end Go.Proofs.YtekobbeoaalibaaGreatDoor
end
