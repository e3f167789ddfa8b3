/- TyAll: several texts in one. Core: the plain words, and how a value reads as one. No program. Routine: the plain words, and how a value reads as one. No program. Program: the plain words, and how a value reads as one. No program. Data of a call's own, block by block: every row lies in a block of its own. Plain lemmas, no program. -/
import Derived.Test.YtjeomamdlmoghaaGreatDoorQ00
import Derived.Test.YtjeomamdlmoghaaGreatDoorQ02
import Derived.Test.YtjeomamdlmoghaaGreatDoorQ03
set_option maxRecDepth 100000
set_option maxHeartbeats 8000000
set_option linter.unusedVariables false
set_option linter.unusedSimpArgs false
section
section
namespace Go.Proofs.YtjeomamdlmoghaaGreatDoor
open Go.RowKit
structure CRoT where
 name : ByteArray
 params : Int
 slots : Int
 entry : Int
def CRoT.dats (c : CRoT) : List Dat := [.str c.name, .int .i64 c.params, .int .i64 c.slots, .int .i64 c.entry]
theorem CRoT.dats_len (c : CRoT) : c.dats.length = 4 := rfl
def CRoT.bulk (c : CRoT) : Nat := c.name.size
def CRoT.Fits (c : CRoT) : Prop := (c.name.size ≤ 9223372036854775807)
section
variable {w : World} {lo hi : Nat} {x : Value} {c : CRoT}
theorem CRoT.form (h : SRep w lo hi CRoT.dats x c) : x = .agg #[Value.string c.name, .int .i64 c.params, .int .i64 c.slots, .int .i64 c.entry] := by
 obtain ⟨cs, rfl, h1⟩ := h
 unfold CRoT.dats at h1
 obtain ⟨v0, t0, rfl, a0, h1⟩ := h1.out
 obtain ⟨v1, t1, rfl, a1, h1⟩ := h1.out
 obtain ⟨v2, t2, rfl, a2, h1⟩ := h1.out
 obtain ⟨v3, t3, rfl, a3, h1⟩ := h1.out
 obtain rfl := h1.outNil
 obtain rfl := a0.str_
 obtain rfl := a1.int_
 obtain rfl := a2.int_
 obtain rfl := a3.int_
 exact rfl
theorem CRoT.mk_  : SRep w lo hi CRoT.dats (.agg #[Value.string c.name, .int .i64 c.params, .int .i64 c.slots, .int .i64 c.entry]) c :=
 ⟨[_, _, _, _], rfl, .cons_ .mkStr (.cons_ .mkInt (.cons_ .mkInt (.cons_ .mkInt .nil_)))⟩
theorem CRoT.at_ {A : Option Addr} {cap j : Nat} {l : List CRoT} (h : LRep w lo hi 4 CRoT.dats (.slice A l.length cap) l) (hc : l[j]? = some c) :
 ∃ g off, A = some ⟨g, off, none⟩ ∧ lo ≤ g ∧ g < hi ∧ c ∈ l ∧ SRep w lo hi CRoT.dats (.agg #[Value.string c.name, .int .i64 c.params, .int .i64 c.slots, .int .i64 c.entry]) c ∧ w.cell? ⟨g, off + j * 4, none⟩ = some (.string c.name) ∧ w.cell? ⟨g, off + j * 4 + 1, none⟩ = some (.int .i64 c.params) ∧ w.cell? ⟨g, off + j * 4 + 2, none⟩ = some (.int .i64 c.slots) ∧ w.cell? ⟨g, off + j * 4 + 3, none⟩ = some (.int .i64 c.entry) := by
 obtain ⟨g, off, us, hA, h1, h2, h3, h4, h5⟩ := h.elem CRoT.dats_len hc
 obtain hx := CRoT.form (w := w) (lo := lo) (hi := hi) (c := c) (x := .agg us.toArray) ⟨us, rfl, h4⟩
 injection hx with hx
 obtain rfl : us = [_, _, _, _] := congrArg Array.toList hx
 exact ⟨g, off, hA, h1, h2, List.mem_of_getElem? hc, CRoT.mk_, h5 0 _ rfl, h5 1 _ rfl, h5 2 _ rfl, h5 3 _ rfl⟩
end
end Go.Proofs.YtjeomamdlmoghaaGreatDoor
end
section
namespace Go.Proofs.YtjeomamdlmoghaaGreatDoor
open Go.RowKit
structure RecT where
 name : ByteArray
 fields : List ByteArray
 line : Int
def RecT.dats (c : RecT) : List Dat := [.str c.name, .row 1 c.fields.length (flat strDats c.fields), .int .i64 c.line]
theorem RecT.dats_len (c : RecT) : c.dats.length = 3 := rfl
def RecT.bulk (c : RecT) : Nat := c.name.size + (c.fields.length + sumOf ByteArray.size c.fields)
def RecT.Fits (c : RecT) : Prop := (c.name.size ≤ 9223372036854775807) ∧ (∀ s ∈ c.fields, s.size ≤ 9223372036854775807)
section
variable {w : World} {lo hi : Nat} {x : Value} {c : RecT}
theorem RecT.form (h : SRep w lo hi RecT.dats x c) : ∃ Afields nfields, x = .agg #[Value.string c.name, .slice Afields c.fields.length nfields, .int .i64 c.line] ∧ LRep w lo hi 1 strDats (.slice Afields c.fields.length nfields) c.fields ∧ c.fields.length ≤ nfields ∧ nfields ≤ maxLen := by
 obtain ⟨cs, rfl, h1⟩ := h
 unfold RecT.dats at h1
 obtain ⟨v0, t0, rfl, a0, h1⟩ := h1.out
 obtain ⟨v1, t1, rfl, a1, h1⟩ := h1.out
 obtain ⟨v2, t2, rfl, a2, h1⟩ := h1.out
 obtain rfl := h1.outNil
 obtain rfl := a0.str_
 obtain ⟨A1, c1, rfl, g1, k1⟩ := LRep.shape (f := strDats) a1
 obtain rfl := a2.int_
 exact ⟨A1, c1, rfl, a1, g1, k1⟩
theorem RecT.mk_ {Afields : Option Addr} {nfields : Nat} (hfields : LRep w lo hi 1 strDats (.slice Afields c.fields.length nfields) c.fields) : SRep w lo hi RecT.dats (.agg #[Value.string c.name, .slice Afields c.fields.length nfields, .int .i64 c.line]) c :=
 ⟨[_, _, _], rfl, .cons_ .mkStr (.cons_ hfields (.cons_ .mkInt .nil_))⟩
theorem RecT.rows {Afields : Option Addr} {nfields : Nat} (h : SRep w lo hi RecT.dats (.agg #[Value.string c.name, .slice Afields c.fields.length nfields, .int .i64 c.line]) c) : LRep w lo hi 1 strDats (.slice Afields c.fields.length nfields) c.fields := by
 obtain ⟨X0, y0, hx, l0, _, _⟩ := RecT.form h
 injection hx with hx
 have hx := congrArg Array.toList hx
 simp only [List.cons.injEq, Value.slice.injEq, and_true, true_and] at hx
 obtain ⟨rfl, rfl⟩ := hx
 exact l0
theorem RecT.at_ {A : Option Addr} {cap j : Nat} {l : List RecT} (h : LRep w lo hi 3 RecT.dats (.slice A l.length cap) l) (hc : l[j]? = some c) :
 ∃ g off Afields nfields, A = some ⟨g, off, none⟩ ∧ lo ≤ g ∧ g < hi ∧ c ∈ l ∧ SRep w lo hi RecT.dats (.agg #[Value.string c.name, .slice Afields c.fields.length nfields, .int .i64 c.line]) c ∧ w.cell? ⟨g, off + j * 3, none⟩ = some (.string c.name) ∧ w.cell? ⟨g, off + j * 3 + 1, none⟩ = some (.slice Afields c.fields.length nfields) ∧ w.cell? ⟨g, off + j * 3 + 2, none⟩ = some (.int .i64 c.line) := by
 obtain ⟨g, off, us, hA, h1, h2, h3, h4, h5⟩ := h.elem RecT.dats_len hc
 obtain ⟨B0, m0, hx, l0, _, _⟩ := RecT.form (w := w) (lo := lo) (hi := hi) (c := c) (x := .agg us.toArray) ⟨us, rfl, h4⟩
 injection hx with hx
 obtain rfl : us = [_, _, _] := congrArg Array.toList hx
 exact ⟨g, off, B0, m0, hA, h1, h2, List.mem_of_getElem? hc, RecT.mk_ l0, h5 0 _ rfl, h5 1 _ rfl, h5 2 _ rfl⟩
end
end Go.Proofs.YtjeomamdlmoghaaGreatDoor
end
section
namespace Go.Proofs.YtjeomamdlmoghaaGreatDoor
open Go.RowKit
structure InsT where
 op : Int
 a : Int
 b : Int
 line : Int
 text : ByteArray
def InsT.dats (c : InsT) : List Dat := [.int .i64 c.op, .int .i64 c.a, .int .i64 c.b, .int .i64 c.line, .str c.text]
theorem InsT.dats_len (c : InsT) : c.dats.length = 5 := rfl
def InsT.bulk (c : InsT) : Nat := c.text.size
def InsT.Fits (c : InsT) : Prop := (c.text.size ≤ 9223372036854775807)
section
variable {w : World} {lo hi : Nat} {x : Value} {c : InsT}
theorem InsT.form (h : SRep w lo hi InsT.dats x c) : x = .agg #[Value.int .i64 c.op, .int .i64 c.a, .int .i64 c.b, .int .i64 c.line, .string c.text] := by
 obtain ⟨cs, rfl, h1⟩ := h
 unfold InsT.dats at h1
 obtain ⟨v0, t0, rfl, a0, h1⟩ := h1.out
 obtain ⟨v1, t1, rfl, a1, h1⟩ := h1.out
 obtain ⟨v2, t2, rfl, a2, h1⟩ := h1.out
 obtain ⟨v3, t3, rfl, a3, h1⟩ := h1.out
 obtain ⟨v4, t4, rfl, a4, h1⟩ := h1.out
 obtain rfl := h1.outNil
 obtain rfl := a0.int_
 obtain rfl := a1.int_
 obtain rfl := a2.int_
 obtain rfl := a3.int_
 obtain rfl := a4.str_
 exact rfl
theorem InsT.mk_  : SRep w lo hi InsT.dats (.agg #[Value.int .i64 c.op, .int .i64 c.a, .int .i64 c.b, .int .i64 c.line, .string c.text]) c :=
 ⟨[_, _, _, _, _], rfl, .cons_ .mkInt (.cons_ .mkInt (.cons_ .mkInt (.cons_ .mkInt (.cons_ .mkStr .nil_))))⟩
theorem InsT.at_ {A : Option Addr} {cap j : Nat} {l : List InsT} (h : LRep w lo hi 5 InsT.dats (.slice A l.length cap) l) (hc : l[j]? = some c) :
 ∃ g off, A = some ⟨g, off, none⟩ ∧ lo ≤ g ∧ g < hi ∧ c ∈ l ∧ SRep w lo hi InsT.dats (.agg #[Value.int .i64 c.op, .int .i64 c.a, .int .i64 c.b, .int .i64 c.line, .string c.text]) c ∧ w.cell? ⟨g, off + j * 5, none⟩ = some (.int .i64 c.op) ∧ w.cell? ⟨g, off + j * 5 + 1, none⟩ = some (.int .i64 c.a) ∧ w.cell? ⟨g, off + j * 5 + 2, none⟩ = some (.int .i64 c.b) ∧ w.cell? ⟨g, off + j * 5 + 3, none⟩ = some (.int .i64 c.line) ∧ w.cell? ⟨g, off + j * 5 + 4, none⟩ = some (.string c.text) := by
 obtain ⟨g, off, us, hA, h1, h2, h3, h4, h5⟩ := h.elem InsT.dats_len hc
 obtain hx := InsT.form (w := w) (lo := lo) (hi := hi) (c := c) (x := .agg us.toArray) ⟨us, rfl, h4⟩
 injection hx with hx
 obtain rfl : us = [_, _, _, _, _] := congrArg Array.toList hx
 exact ⟨g, off, hA, h1, h2, List.mem_of_getElem? hc, InsT.mk_, h5 0 _ rfl, h5 1 _ rfl, h5 2 _ rfl, h5 3 _ rfl, h5 4 _ rfl⟩
end
end Go.Proofs.YtjeomamdlmoghaaGreatDoor
end
section
namespace Go.Proofs.YtjeomamdlmoghaaGreatDoor
open Go.RowKit
structure EditT where
 kind : Int
 place : Int
def EditT.dats (c : EditT) : List Dat := [.int .i64 c.kind, .int .i64 c.place]
theorem EditT.dats_len (c : EditT) : c.dats.length = 2 := rfl
def EditT.bulk (c : EditT) : Nat := 0
def EditT.Fits (c : EditT) : Prop := True
section
variable {w : World} {lo hi : Nat} {x : Value} {c : EditT}
theorem EditT.form (h : SRep w lo hi EditT.dats x c) : x = .agg #[Value.int .i64 c.kind, .int .i64 c.place] := by
 obtain ⟨cs, rfl, h1⟩ := h
 unfold EditT.dats at h1
 obtain ⟨v0, t0, rfl, a0, h1⟩ := h1.out
 obtain ⟨v1, t1, rfl, a1, h1⟩ := h1.out
 obtain rfl := h1.outNil
 obtain rfl := a0.int_
 obtain rfl := a1.int_
 exact rfl
theorem EditT.mk_  : SRep w lo hi EditT.dats (.agg #[Value.int .i64 c.kind, .int .i64 c.place]) c :=
 ⟨[_, _], rfl, .cons_ .mkInt (.cons_ .mkInt .nil_)⟩
theorem EditT.at_ {A : Option Addr} {cap j : Nat} {l : List EditT} (h : LRep w lo hi 2 EditT.dats (.slice A l.length cap) l) (hc : l[j]? = some c) :
 ∃ g off, A = some ⟨g, off, none⟩ ∧ lo ≤ g ∧ g < hi ∧ c ∈ l ∧ SRep w lo hi EditT.dats (.agg #[Value.int .i64 c.kind, .int .i64 c.place]) c ∧ w.cell? ⟨g, off + j * 2, none⟩ = some (.int .i64 c.kind) ∧ w.cell? ⟨g, off + j * 2 + 1, none⟩ = some (.int .i64 c.place) := by
 obtain ⟨g, off, us, hA, h1, h2, h3, h4, h5⟩ := h.elem EditT.dats_len hc
 obtain hx := EditT.form (w := w) (lo := lo) (hi := hi) (c := c) (x := .agg us.toArray) ⟨us, rfl, h4⟩
 injection hx with hx
 obtain rfl : us = [_, _] := congrArg Array.toList hx
 exact ⟨g, off, hA, h1, h2, List.mem_of_getElem? hc, EditT.mk_, h5 0 _ rfl, h5 1 _ rfl⟩
end
end Go.Proofs.YtjeomamdlmoghaaGreatDoor
end
section
namespace Go.Proofs.YtjeomamdlmoghaaGreatDoor
open Go.RowKit
structure CodeT where
 routines : List CRoT
 records : List RecT
 globals : List ByteArray
 main : Int
 instrs : List InsT
def CodeT.dats (c : CodeT) : List Dat := [.row 4 c.routines.length (flat CRoT.dats c.routines), .row 3 c.records.length (flat RecT.dats c.records), .row 1 c.globals.length (flat strDats c.globals), .int .i64 c.main, .row 5 c.instrs.length (flat InsT.dats c.instrs)]
theorem CodeT.dats_len (c : CodeT) : c.dats.length = 5 := rfl
def CodeT.bulk (c : CodeT) : Nat := (c.routines.length + sumOf CRoT.bulk c.routines) + (c.records.length + sumOf RecT.bulk c.records) + (c.globals.length + sumOf ByteArray.size c.globals) + (c.instrs.length + sumOf InsT.bulk c.instrs)
def CodeT.Fits (c : CodeT) : Prop := (∀ y ∈ c.routines, y.Fits) ∧ (∀ y ∈ c.records, y.Fits) ∧ (∀ s ∈ c.globals, s.size ≤ 9223372036854775807) ∧ (∀ y ∈ c.instrs, y.Fits)
section
variable {w : World} {lo hi : Nat} {x : Value} {c : CodeT}
theorem CodeT.form (h : SRep w lo hi CodeT.dats x c) : ∃ Aroutines nroutines Arecords nrecords Aglobals nglobals Ainstrs ninstrs, x = .agg #[Value.slice Aroutines c.routines.length nroutines, .slice Arecords c.records.length nrecords, .slice Aglobals c.globals.length nglobals, .int .i64 c.main, .slice Ainstrs c.instrs.length ninstrs] ∧ LRep w lo hi 4 CRoT.dats (.slice Aroutines c.routines.length nroutines) c.routines ∧ c.routines.length ≤ nroutines ∧ nroutines ≤ maxLen ∧ LRep w lo hi 3 RecT.dats (.slice Arecords c.records.length nrecords) c.records ∧ c.records.length ≤ nrecords ∧ nrecords ≤ maxLen ∧ LRep w lo hi 1 strDats (.slice Aglobals c.globals.length nglobals) c.globals ∧ c.globals.length ≤ nglobals ∧ nglobals ≤ maxLen ∧ LRep w lo hi 5 InsT.dats (.slice Ainstrs c.instrs.length ninstrs) c.instrs ∧ c.instrs.length ≤ ninstrs ∧ ninstrs ≤ maxLen := by
 obtain ⟨cs, rfl, h1⟩ := h
 unfold CodeT.dats at h1
 obtain ⟨v0, t0, rfl, a0, h1⟩ := h1.out
 obtain ⟨v1, t1, rfl, a1, h1⟩ := h1.out
 obtain ⟨v2, t2, rfl, a2, h1⟩ := h1.out
 obtain ⟨v3, t3, rfl, a3, h1⟩ := h1.out
 obtain ⟨v4, t4, rfl, a4, h1⟩ := h1.out
 obtain rfl := h1.outNil
 obtain ⟨A0, c0, rfl, g0, k0⟩ := LRep.shape (f := CRoT.dats) a0
 obtain ⟨A1, c1, rfl, g1, k1⟩ := LRep.shape (f := RecT.dats) a1
 obtain ⟨A2, c2, rfl, g2, k2⟩ := LRep.shape (f := strDats) a2
 obtain rfl := a3.int_
 obtain ⟨A4, c4, rfl, g4, k4⟩ := LRep.shape (f := InsT.dats) a4
 exact ⟨A0, c0, A1, c1, A2, c2, A4, c4, rfl, a0, g0, k0, a1, g1, k1, a2, g2, k2, a4, g4, k4⟩
theorem CodeT.mk_ {Aroutines : Option Addr} {nroutines : Nat} (hroutines : LRep w lo hi 4 CRoT.dats (.slice Aroutines c.routines.length nroutines) c.routines) {Arecords : Option Addr} {nrecords : Nat} (hrecords : LRep w lo hi 3 RecT.dats (.slice Arecords c.records.length nrecords) c.records) {Aglobals : Option Addr} {nglobals : Nat} (hglobals : LRep w lo hi 1 strDats (.slice Aglobals c.globals.length nglobals) c.globals) {Ainstrs : Option Addr} {ninstrs : Nat} (hinstrs : LRep w lo hi 5 InsT.dats (.slice Ainstrs c.instrs.length ninstrs) c.instrs) : SRep w lo hi CodeT.dats (.agg #[Value.slice Aroutines c.routines.length nroutines, .slice Arecords c.records.length nrecords, .slice Aglobals c.globals.length nglobals, .int .i64 c.main, .slice Ainstrs c.instrs.length ninstrs]) c :=
 ⟨[_, _, _, _, _], rfl, .cons_ hroutines (.cons_ hrecords (.cons_ hglobals (.cons_ .mkInt (.cons_ hinstrs .nil_))))⟩
theorem CodeT.rows {Aroutines : Option Addr} {nroutines : Nat} {Arecords : Option Addr} {nrecords : Nat} {Aglobals : Option Addr} {nglobals : Nat} {Ainstrs : Option Addr} {ninstrs : Nat} (h : SRep w lo hi CodeT.dats (.agg #[Value.slice Aroutines c.routines.length nroutines, .slice Arecords c.records.length nrecords, .slice Aglobals c.globals.length nglobals, .int .i64 c.main, .slice Ainstrs c.instrs.length ninstrs]) c) : LRep w lo hi 4 CRoT.dats (.slice Aroutines c.routines.length nroutines) c.routines ∧ LRep w lo hi 3 RecT.dats (.slice Arecords c.records.length nrecords) c.records ∧ LRep w lo hi 1 strDats (.slice Aglobals c.globals.length nglobals) c.globals ∧ LRep w lo hi 5 InsT.dats (.slice Ainstrs c.instrs.length ninstrs) c.instrs := by
 obtain ⟨X0, y0, X1, y1, X2, y2, X3, y3, hx, l0, _, _, l1, _, _, l2, _, _, l3, _, _⟩ := CodeT.form h
 injection hx with hx
 have hx := congrArg Array.toList hx
 simp only [List.cons.injEq, Value.slice.injEq, and_true, true_and] at hx
 obtain ⟨⟨rfl, rfl⟩, ⟨rfl, rfl⟩, ⟨rfl, rfl⟩, ⟨rfl, rfl⟩⟩ := hx
 exact ⟨l0, l1, l2, l3⟩
theorem CodeT.at_ {A : Option Addr} {cap j : Nat} {l : List CodeT} (h : LRep w lo hi 5 CodeT.dats (.slice A l.length cap) l) (hc : l[j]? = some c) :
 ∃ g off Aroutines nroutines Arecords nrecords Aglobals nglobals Ainstrs ninstrs, A = some ⟨g, off, none⟩ ∧ lo ≤ g ∧ g < hi ∧ c ∈ l ∧ SRep w lo hi CodeT.dats (.agg #[Value.slice Aroutines c.routines.length nroutines, .slice Arecords c.records.length nrecords, .slice Aglobals c.globals.length nglobals, .int .i64 c.main, .slice Ainstrs c.instrs.length ninstrs]) c ∧ w.cell? ⟨g, off + j * 5, none⟩ = some (.slice Aroutines c.routines.length nroutines) ∧ w.cell? ⟨g, off + j * 5 + 1, none⟩ = some (.slice Arecords c.records.length nrecords) ∧ w.cell? ⟨g, off + j * 5 + 2, none⟩ = some (.slice Aglobals c.globals.length nglobals) ∧ w.cell? ⟨g, off + j * 5 + 3, none⟩ = some (.int .i64 c.main) ∧ w.cell? ⟨g, off + j * 5 + 4, none⟩ = some (.slice Ainstrs c.instrs.length ninstrs) := by
 obtain ⟨g, off, us, hA, h1, h2, h3, h4, h5⟩ := h.elem CodeT.dats_len hc
 obtain ⟨B0, m0, B1, m1, B2, m2, B3, m3, hx, l0, _, _, l1, _, _, l2, _, _, l3, _, _⟩ := CodeT.form (w := w) (lo := lo) (hi := hi) (c := c) (x := .agg us.toArray) ⟨us, rfl, h4⟩
 injection hx with hx
 obtain rfl : us = [_, _, _, _, _] := congrArg Array.toList hx
 exact ⟨g, off, B0, m0, B1, m1, B2, m2, B3, m3, hA, h1, h2, List.mem_of_getElem? hc, CodeT.mk_ l0 l1 l2 l3, h5 0 _ rfl, h5 1 _ rfl, h5 2 _ rfl, h5 3 _ rfl, h5 4 _ rfl⟩
end
end Go.Proofs.YtjeomamdlmoghaaGreatDoor
end
end
section
namespace Go.Proofs.YtjeomamdlmoghaaGreatDoor
open Go.RowKit
theorem coreDats_flat (l : List CoreT) : coreDats l = flat CoreT.dats l := by
 induction l with
 | nil => rfl
 | cons c l ih => rw [flat_cons, ← ih]; rfl
theorem CoreT.dats_g (c : CoreT) : c.dats = [.int .i64 c.kind, .int .i64 c.op, .int .i64 c.number, .int .i64 c.line, .str c.text, .row 6 c.kids.length (flat CoreT.dats c.kids)] := by rw [← coreDats_flat]; exact c.dats_eq
theorem KRep.lrep {w : World} {lo hi : Nat} {v : Value} {l : List CoreT} (h : KRep w lo hi v l) : LRep w lo hi 6 CoreT.dats v l := by unfold KRep at h; rw [coreDats_flat] at h; exact h
theorem bulkL_sum (l : List CoreT) : bulkL l = sumOf CoreT.bulk l := by
 induction l with
 | nil => rfl
 | cons c l ih => simp only [bulkL, sumOf, ih]
section
variable {w : World} {lo hi : Nat} {x : Value} {c : CoreT}
theorem CoreT.form (h : SRep w lo hi CoreT.dats x c) : ∃ Akids nkids, x = .agg #[Value.int .i64 c.kind, .int .i64 c.op, .int .i64 c.number, .int .i64 c.line, .string c.text, .slice Akids c.kids.length nkids] ∧ LRep w lo hi 6 CoreT.dats (.slice Akids c.kids.length nkids) c.kids ∧ c.kids.length ≤ nkids ∧ nkids ≤ maxLen := by
 obtain ⟨cs, rfl, h1⟩ := h
 rw [CoreT.dats_g] at h1
 obtain ⟨v0, t0, rfl, a0, h1⟩ := h1.out
 obtain ⟨v1, t1, rfl, a1, h1⟩ := h1.out
 obtain ⟨v2, t2, rfl, a2, h1⟩ := h1.out
 obtain ⟨v3, t3, rfl, a3, h1⟩ := h1.out
 obtain ⟨v4, t4, rfl, a4, h1⟩ := h1.out
 obtain ⟨v5, t5, rfl, a5, h1⟩ := h1.out
 obtain rfl := h1.outNil
 obtain rfl := a0.int_
 obtain rfl := a1.int_
 obtain rfl := a2.int_
 obtain rfl := a3.int_
 obtain rfl := a4.str_
 obtain ⟨A5, c5, rfl, g5, k5⟩ := LRep.shape (f := CoreT.dats) a5
 exact ⟨A5, c5, rfl, a5, g5, k5⟩
theorem CoreT.mk_ {Akids : Option Addr} {nkids : Nat} (hkids : LRep w lo hi 6 CoreT.dats (.slice Akids c.kids.length nkids) c.kids) : SRep w lo hi CoreT.dats (.agg #[Value.int .i64 c.kind, .int .i64 c.op, .int .i64 c.number, .int .i64 c.line, .string c.text, .slice Akids c.kids.length nkids]) c :=
 ⟨[_, _, _, _, _, _], rfl, by rw [CoreT.dats_g]; exact (.cons_ .mkInt (.cons_ .mkInt (.cons_ .mkInt (.cons_ .mkInt (.cons_ .mkStr (.cons_ hkids .nil_))))))⟩
theorem CoreT.rows {Akids : Option Addr} {nkids : Nat} (h : SRep w lo hi CoreT.dats (.agg #[Value.int .i64 c.kind, .int .i64 c.op, .int .i64 c.number, .int .i64 c.line, .string c.text, .slice Akids c.kids.length nkids]) c) : LRep w lo hi 6 CoreT.dats (.slice Akids c.kids.length nkids) c.kids := by
 obtain ⟨X0, y0, hx, l0, _, _⟩ := CoreT.form h
 injection hx with hx
 have hx := congrArg Array.toList hx
 simp only [List.cons.injEq, Value.slice.injEq, and_true, true_and] at hx
 obtain ⟨rfl, rfl⟩ := hx
 exact l0
theorem CoreT.at_ {A : Option Addr} {cap j : Nat} {l : List CoreT} (h : LRep w lo hi 6 CoreT.dats (.slice A l.length cap) l) (hc : l[j]? = some c) :
 ∃ g off Akids nkids, A = some ⟨g, off, none⟩ ∧ lo ≤ g ∧ g < hi ∧ c ∈ l ∧ SRep w lo hi CoreT.dats (.agg #[Value.int .i64 c.kind, .int .i64 c.op, .int .i64 c.number, .int .i64 c.line, .string c.text, .slice Akids c.kids.length nkids]) c ∧ w.cell? ⟨g, off + j * 6, none⟩ = some (.int .i64 c.kind) ∧ w.cell? ⟨g, off + j * 6 + 1, none⟩ = some (.int .i64 c.op) ∧ w.cell? ⟨g, off + j * 6 + 2, none⟩ = some (.int .i64 c.number) ∧ w.cell? ⟨g, off + j * 6 + 3, none⟩ = some (.int .i64 c.line) ∧ w.cell? ⟨g, off + j * 6 + 4, none⟩ = some (.string c.text) ∧ w.cell? ⟨g, off + j * 6 + 5, none⟩ = some (.slice Akids c.kids.length nkids) := by
 obtain ⟨g, off, us, hA, h1, h2, h3, h4, h5⟩ := h.elem CoreT.dats_len hc
 obtain ⟨B0, m0, hx, l0, _, _⟩ := CoreT.form (w := w) (lo := lo) (hi := hi) (c := c) (x := .agg us.toArray) ⟨us, rfl, h4⟩
 injection hx with hx
 obtain rfl : us = [_, _, _, _, _, _] := congrArg Array.toList hx
 exact ⟨g, off, B0, m0, hA, h1, h2, List.mem_of_getElem? hc, CoreT.mk_ l0, h5 0 _ rfl, h5 1 _ rfl, h5 2 _ rfl, h5 3 _ rfl, h5 4 _ rfl, h5 5 _ rfl⟩
end
end Go.Proofs.YtjeomamdlmoghaaGreatDoor
end
section
namespace Go.Proofs.YtjeomamdlmoghaaGreatDoor
open Go.RowKit
structure RouT where
 name : ByteArray
 params : Int
 slots : List ByteArray
 body : CoreT
abbrev RouT.body_kind (c : RouT) : Int := c.body.kind
abbrev RouT.body_op (c : RouT) : Int := c.body.op
abbrev RouT.body_number (c : RouT) : Int := c.body.number
abbrev RouT.body_line (c : RouT) : Int := c.body.line
abbrev RouT.body_text (c : RouT) : ByteArray := c.body.text
abbrev RouT.body_kids (c : RouT) : List CoreT := c.body.kids
def RouT.dats (c : RouT) : List Dat := [.str c.name, .int .i64 c.params, .row 1 c.slots.length (flat strDats c.slots), .int .i64 c.body_kind, .int .i64 c.body_op, .int .i64 c.body_number, .int .i64 c.body_line, .str c.body_text, .row 6 c.body_kids.length (flat CoreT.dats c.body_kids)]
theorem RouT.dats_len (c : RouT) : c.dats.length = 9 := rfl
def RouT.bulk (c : RouT) : Nat := c.name.size + (c.slots.length + sumOf ByteArray.size c.slots) + c.body.bulk
def RouT.Fits (c : RouT) : Prop := (c.name.size ≤ 9223372036854775807) ∧ (∀ s ∈ c.slots, s.size ≤ 9223372036854775807) ∧ (c.body.Fits)
section
variable {w : World} {lo hi : Nat} {x : Value} {c : RouT}
theorem RouT.form (h : SRep w lo hi RouT.dats x c) : ∃ Aslots nslots Abody_kids nbody_kids, x = .agg #[Value.string c.name, .int .i64 c.params, .slice Aslots c.slots.length nslots, .int .i64 c.body_kind, .int .i64 c.body_op, .int .i64 c.body_number, .int .i64 c.body_line, .string c.body_text, .slice Abody_kids c.body_kids.length nbody_kids] ∧ LRep w lo hi 1 strDats (.slice Aslots c.slots.length nslots) c.slots ∧ c.slots.length ≤ nslots ∧ nslots ≤ maxLen ∧ LRep w lo hi 6 CoreT.dats (.slice Abody_kids c.body_kids.length nbody_kids) c.body_kids ∧ c.body_kids.length ≤ nbody_kids ∧ nbody_kids ≤ maxLen := by
 obtain ⟨cs, rfl, h1⟩ := h
 unfold RouT.dats at h1
 obtain ⟨v0, t0, rfl, a0, h1⟩ := h1.out
 obtain ⟨v1, t1, rfl, a1, h1⟩ := h1.out
 obtain ⟨v2, t2, rfl, a2, h1⟩ := h1.out
 obtain ⟨v3, t3, rfl, a3, h1⟩ := h1.out
 obtain ⟨v4, t4, rfl, a4, h1⟩ := h1.out
 obtain ⟨v5, t5, rfl, a5, h1⟩ := h1.out
 obtain ⟨v6, t6, rfl, a6, h1⟩ := h1.out
 obtain ⟨v7, t7, rfl, a7, h1⟩ := h1.out
 obtain ⟨v8, t8, rfl, a8, h1⟩ := h1.out
 obtain rfl := h1.outNil
 obtain rfl := a0.str_
 obtain rfl := a1.int_
 obtain ⟨A2, c2, rfl, g2, k2⟩ := LRep.shape (f := strDats) a2
 obtain rfl := a3.int_
 obtain rfl := a4.int_
 obtain rfl := a5.int_
 obtain rfl := a6.int_
 obtain rfl := a7.str_
 obtain ⟨A8, c8, rfl, g8, k8⟩ := LRep.shape (f := CoreT.dats) a8
 exact ⟨A2, c2, A8, c8, rfl, a2, g2, k2, a8, g8, k8⟩
theorem RouT.mk_ {Aslots : Option Addr} {nslots : Nat} (hslots : LRep w lo hi 1 strDats (.slice Aslots c.slots.length nslots) c.slots) {Abody_kids : Option Addr} {nbody_kids : Nat} (hbody_kids : LRep w lo hi 6 CoreT.dats (.slice Abody_kids c.body_kids.length nbody_kids) c.body_kids) : SRep w lo hi RouT.dats (.agg #[Value.string c.name, .int .i64 c.params, .slice Aslots c.slots.length nslots, .int .i64 c.body_kind, .int .i64 c.body_op, .int .i64 c.body_number, .int .i64 c.body_line, .string c.body_text, .slice Abody_kids c.body_kids.length nbody_kids]) c :=
 ⟨[_, _, _, _, _, _, _, _, _], rfl, .cons_ .mkStr (.cons_ .mkInt (.cons_ hslots (.cons_ .mkInt (.cons_ .mkInt (.cons_ .mkInt (.cons_ .mkInt (.cons_ .mkStr (.cons_ hbody_kids .nil_))))))))⟩
theorem RouT.rows {Aslots : Option Addr} {nslots : Nat} {Abody_kids : Option Addr} {nbody_kids : Nat} (h : SRep w lo hi RouT.dats (.agg #[Value.string c.name, .int .i64 c.params, .slice Aslots c.slots.length nslots, .int .i64 c.body_kind, .int .i64 c.body_op, .int .i64 c.body_number, .int .i64 c.body_line, .string c.body_text, .slice Abody_kids c.body_kids.length nbody_kids]) c) : LRep w lo hi 1 strDats (.slice Aslots c.slots.length nslots) c.slots ∧ LRep w lo hi 6 CoreT.dats (.slice Abody_kids c.body_kids.length nbody_kids) c.body_kids := by
 obtain ⟨X0, y0, X1, y1, hx, l0, _, _, l1, _, _⟩ := RouT.form h
 injection hx with hx
 have hx := congrArg Array.toList hx
 simp only [List.cons.injEq, Value.slice.injEq, and_true, true_and] at hx
 obtain ⟨⟨rfl, rfl⟩, ⟨rfl, rfl⟩⟩ := hx
 exact ⟨l0, l1⟩
theorem RouT.at_ {A : Option Addr} {cap j : Nat} {l : List RouT} (h : LRep w lo hi 9 RouT.dats (.slice A l.length cap) l) (hc : l[j]? = some c) :
 ∃ g off Aslots nslots Abody_kids nbody_kids, A = some ⟨g, off, none⟩ ∧ lo ≤ g ∧ g < hi ∧ c ∈ l ∧ SRep w lo hi RouT.dats (.agg #[Value.string c.name, .int .i64 c.params, .slice Aslots c.slots.length nslots, .int .i64 c.body_kind, .int .i64 c.body_op, .int .i64 c.body_number, .int .i64 c.body_line, .string c.body_text, .slice Abody_kids c.body_kids.length nbody_kids]) c ∧ w.cell? ⟨g, off + j * 9, none⟩ = some (.string c.name) ∧ w.cell? ⟨g, off + j * 9 + 1, none⟩ = some (.int .i64 c.params) ∧ w.cell? ⟨g, off + j * 9 + 2, none⟩ = some (.slice Aslots c.slots.length nslots) ∧ w.cell? ⟨g, off + j * 9 + 3, none⟩ = some (.int .i64 c.body_kind) ∧ w.cell? ⟨g, off + j * 9 + 4, none⟩ = some (.int .i64 c.body_op) ∧ w.cell? ⟨g, off + j * 9 + 5, none⟩ = some (.int .i64 c.body_number) ∧ w.cell? ⟨g, off + j * 9 + 6, none⟩ = some (.int .i64 c.body_line) ∧ w.cell? ⟨g, off + j * 9 + 7, none⟩ = some (.string c.body_text) ∧ w.cell? ⟨g, off + j * 9 + 8, none⟩ = some (.slice Abody_kids c.body_kids.length nbody_kids) := by
 obtain ⟨g, off, us, hA, h1, h2, h3, h4, h5⟩ := h.elem RouT.dats_len hc
 obtain ⟨B0, m0, B1, m1, hx, l0, _, _, l1, _, _⟩ := RouT.form (w := w) (lo := lo) (hi := hi) (c := c) (x := .agg us.toArray) ⟨us, rfl, h4⟩
 injection hx with hx
 obtain rfl : us = [_, _, _, _, _, _, _, _, _] := congrArg Array.toList hx
 exact ⟨g, off, B0, m0, B1, m1, hA, h1, h2, List.mem_of_getElem? hc, RouT.mk_ l0 l1, h5 0 _ rfl, h5 1 _ rfl, h5 2 _ rfl, h5 3 _ rfl, h5 4 _ rfl, h5 5 _ rfl, h5 6 _ rfl, h5 7 _ rfl, h5 8 _ rfl⟩
end
end Go.Proofs.YtjeomamdlmoghaaGreatDoor
end
section
namespace Go.Proofs.YtjeomamdlmoghaaGreatDoor
open Go.RowKit
structure ProgT where
 routines : List RouT
 records : List RecT
 globals : List ByteArray
 main : Int
def ProgT.dats (c : ProgT) : List Dat := [.row 9 c.routines.length (flat RouT.dats c.routines), .row 3 c.records.length (flat RecT.dats c.records), .row 1 c.globals.length (flat strDats c.globals), .int .i64 c.main]
theorem ProgT.dats_len (c : ProgT) : c.dats.length = 4 := rfl
def ProgT.bulk (c : ProgT) : Nat := (c.routines.length + sumOf RouT.bulk c.routines) + (c.records.length + sumOf RecT.bulk c.records) + (c.globals.length + sumOf ByteArray.size c.globals)
def ProgT.Fits (c : ProgT) : Prop := (∀ y ∈ c.routines, y.Fits) ∧ (∀ y ∈ c.records, y.Fits) ∧ (∀ s ∈ c.globals, s.size ≤ 9223372036854775807)
section
variable {w : World} {lo hi : Nat} {x : Value} {c : ProgT}
theorem ProgT.form (h : SRep w lo hi ProgT.dats x c) : ∃ Aroutines nroutines Arecords nrecords Aglobals nglobals, x = .agg #[Value.slice Aroutines c.routines.length nroutines, .slice Arecords c.records.length nrecords, .slice Aglobals c.globals.length nglobals, .int .i64 c.main] ∧ LRep w lo hi 9 RouT.dats (.slice Aroutines c.routines.length nroutines) c.routines ∧ c.routines.length ≤ nroutines ∧ nroutines ≤ maxLen ∧ LRep w lo hi 3 RecT.dats (.slice Arecords c.records.length nrecords) c.records ∧ c.records.length ≤ nrecords ∧ nrecords ≤ maxLen ∧ LRep w lo hi 1 strDats (.slice Aglobals c.globals.length nglobals) c.globals ∧ c.globals.length ≤ nglobals ∧ nglobals ≤ maxLen := by
 obtain ⟨cs, rfl, h1⟩ := h
 unfold ProgT.dats at h1
 obtain ⟨v0, t0, rfl, a0, h1⟩ := h1.out
 obtain ⟨v1, t1, rfl, a1, h1⟩ := h1.out
 obtain ⟨v2, t2, rfl, a2, h1⟩ := h1.out
 obtain ⟨v3, t3, rfl, a3, h1⟩ := h1.out
 obtain rfl := h1.outNil
 obtain ⟨A0, c0, rfl, g0, k0⟩ := LRep.shape (f := RouT.dats) a0
 obtain ⟨A1, c1, rfl, g1, k1⟩ := LRep.shape (f := RecT.dats) a1
 obtain ⟨A2, c2, rfl, g2, k2⟩ := LRep.shape (f := strDats) a2
 obtain rfl := a3.int_
 exact ⟨A0, c0, A1, c1, A2, c2, rfl, a0, g0, k0, a1, g1, k1, a2, g2, k2⟩
theorem ProgT.mk_ {Aroutines : Option Addr} {nroutines : Nat} (hroutines : LRep w lo hi 9 RouT.dats (.slice Aroutines c.routines.length nroutines) c.routines) {Arecords : Option Addr} {nrecords : Nat} (hrecords : LRep w lo hi 3 RecT.dats (.slice Arecords c.records.length nrecords) c.records) {Aglobals : Option Addr} {nglobals : Nat} (hglobals : LRep w lo hi 1 strDats (.slice Aglobals c.globals.length nglobals) c.globals) : SRep w lo hi ProgT.dats (.agg #[Value.slice Aroutines c.routines.length nroutines, .slice Arecords c.records.length nrecords, .slice Aglobals c.globals.length nglobals, .int .i64 c.main]) c :=
 ⟨[_, _, _, _], rfl, .cons_ hroutines (.cons_ hrecords (.cons_ hglobals (.cons_ .mkInt .nil_)))⟩
theorem ProgT.rows {Aroutines : Option Addr} {nroutines : Nat} {Arecords : Option Addr} {nrecords : Nat} {Aglobals : Option Addr} {nglobals : Nat} (h : SRep w lo hi ProgT.dats (.agg #[Value.slice Aroutines c.routines.length nroutines, .slice Arecords c.records.length nrecords, .slice Aglobals c.globals.length nglobals, .int .i64 c.main]) c) : LRep w lo hi 9 RouT.dats (.slice Aroutines c.routines.length nroutines) c.routines ∧ LRep w lo hi 3 RecT.dats (.slice Arecords c.records.length nrecords) c.records ∧ LRep w lo hi 1 strDats (.slice Aglobals c.globals.length nglobals) c.globals := by
 obtain ⟨X0, y0, X1, y1, X2, y2, hx, l0, _, _, l1, _, _, l2, _, _⟩ := ProgT.form h
 injection hx with hx
 have hx := congrArg Array.toList hx
 simp only [List.cons.injEq, Value.slice.injEq, and_true, true_and] at hx
 obtain ⟨⟨rfl, rfl⟩, ⟨rfl, rfl⟩, ⟨rfl, rfl⟩⟩ := hx
 exact ⟨l0, l1, l2⟩
theorem ProgT.at_ {A : Option Addr} {cap j : Nat} {l : List ProgT} (h : LRep w lo hi 4 ProgT.dats (.slice A l.length cap) l) (hc : l[j]? = some c) :
 ∃ g off Aroutines nroutines Arecords nrecords Aglobals nglobals, A = some ⟨g, off, none⟩ ∧ lo ≤ g ∧ g < hi ∧ c ∈ l ∧ SRep w lo hi ProgT.dats (.agg #[Value.slice Aroutines c.routines.length nroutines, .slice Arecords c.records.length nrecords, .slice Aglobals c.globals.length nglobals, .int .i64 c.main]) c ∧ w.cell? ⟨g, off + j * 4, none⟩ = some (.slice Aroutines c.routines.length nroutines) ∧ w.cell? ⟨g, off + j * 4 + 1, none⟩ = some (.slice Arecords c.records.length nrecords) ∧ w.cell? ⟨g, off + j * 4 + 2, none⟩ = some (.slice Aglobals c.globals.length nglobals) ∧ w.cell? ⟨g, off + j * 4 + 3, none⟩ = some (.int .i64 c.main) := by
 obtain ⟨g, off, us, hA, h1, h2, h3, h4, h5⟩ := h.elem ProgT.dats_len hc
 obtain ⟨B0, m0, B1, m1, B2, m2, hx, l0, _, _, l1, _, _, l2, _, _⟩ := ProgT.form (w := w) (lo := lo) (hi := hi) (c := c) (x := .agg us.toArray) ⟨us, rfl, h4⟩
 injection hx with hx
 obtain rfl : us = [_, _, _, _] := congrArg Array.toList hx
 exact ⟨g, off, B0, m0, B1, m1, B2, m2, hA, h1, h2, List.mem_of_getElem? hc, ProgT.mk_ l0 l1 l2, h5 0 _ rfl, h5 1 _ rfl, h5 2 _ rfl, h5 3 _ rfl⟩
end
end Go.Proofs.YtjeomamdlmoghaaGreatDoor
end
section
namespace Go.Proofs.YtjeomamdlmoghaaGreatDoor
open Go.RowKit
theorem own_block {w w' : World} {base : Nat} {e : TypeId} {size n : Nat} {v : Value} {xs : List Value} (h : w.ownsRow base e size v n xs) (hk : ∀ g, v.ownBlock = some g → w'.heap[g]? = w.heap[g]?) : w'.ownsRow base e size v n xs := by
 refine ⟨h.1, ?_⟩
 rcases h.2 with h | ⟨g, cap, cur, rfl, hb, hg, h⟩
 ·exact .inl h
 ·exact .inr ⟨g, cap, cur, rfl, hb, by rw [hk g rfl]; exact hg, h⟩
theorem own_base {w : World} {base base' : Nat} {e : TypeId} {size n : Nat} {v : Value} {xs : List Value} (h : w.ownsRow base e size v n xs) (hb : ∀ g, v.ownBlock = some g → base' ≤ g) : w.ownsRow base' e size v n xs := by
 refine ⟨h.1, ?_⟩
 rcases h.2 with h | ⟨g, cap, cur, rfl, _, hg, h⟩
 ·exact .inl h
 ·exact .inr ⟨g, cap, cur, rfl, hb g rfl, hg, h⟩
theorem Rds.own_in {w : World} {base lo hi : Nat} {e : TypeId} {size n : Nat} {v : Value} {xs : List Value} (h : w.ownsRow base e size v n xs) (hb : ∀ g, v.ownBlock = some g → lo ≤ g ∧ g < hi) : Rds w lo hi size v n xs := by
 obtain ⟨A, c, hv, h1, h2, h3, h5, h4⟩ := Rds.of_own h
 refine ⟨A, c, hv, h1, h2, h3, h5, fun hn => ?_⟩
 obtain ⟨g, off, hA, hg1, hg2, hc⟩ := h4 hn
 subst hv hA
 have ho : off = 0 := by
  rcases h.2 with ⟨h, _⟩ | ⟨g', cap, cur, h, _⟩
  ·cases h
  ·injection h with h; injection h with h; injection h
 subst ho
 obtain ⟨b1, b2⟩ := hb g rfl
 exact ⟨g, 0, rfl, b1, b2, hc⟩
mutual
def OwnV (w : World) : Dat → List Nat → Value → Prop
 | .int k n, F, v => F = [] ∧ v = .int k n
 | .str s, F, v => F = [] ∧ v = .string s
 | .bool b, F, v => F = [] ∧ v = .bool b
 | .row size n ds, F, v => ∃ e vs F', w.ownsRow 0 e size v n vs ∧ F = v.ownBlock.toList ++ F' ∧ OwnVs w ds F' vs
def OwnVs (w : World) : List Dat → List Nat → List Value → Prop
 | [], F, vs => F = [] ∧ vs = []
 | d :: ds, F, vs => ∃ F1 F2 v vs', F = F1 ++ F2 ∧ vs = v :: vs' ∧ OwnV w d F1 v ∧ OwnVs w ds F2 vs'
end
section
variable {w w' : World}
mutual
theorem OwnV.kept : ∀ {d : Dat} {F : List Nat} {v : Value}, OwnV w d F v → (∀ g ∈ F, w'.heap[g]? = w.heap[g]?) → OwnV w' d F v
 | .int _ _, _, _, h, _ => by simp only [OwnV] at h ⊢; exact h
 | .str _, _, _, h, _ => by simp only [OwnV] at h ⊢; exact h
 | .bool _, _, _, h, _ => by simp only [OwnV] at h ⊢; exact h
 | .row size n ds, F, v, h, hk => by
   simp only [OwnV] at h ⊢
   obtain ⟨e, vs, F', h1, h2, h3⟩ := h
   exact ⟨e, vs, F', own_block h1 fun g hg => hk g (by rw [h2, hg]; simp), h2, OwnVs.kept h3 fun g hg => hk g (by rw [h2]; simp [hg])⟩
theorem OwnVs.kept : ∀ {ds : List Dat} {F : List Nat} {vs : List Value}, OwnVs w ds F vs → (∀ g ∈ F, w'.heap[g]? = w.heap[g]?) → OwnVs w' ds F vs
 | [], _, _, h, _ => by simp only [OwnVs] at h ⊢; exact h
 | d :: ds, F, vs, h, hk => by
   simp only [OwnVs] at h ⊢
   obtain ⟨F1, F2, v, vs', h1, h2, h3, h4⟩ := h
   exact ⟨F1, F2, v, vs', h1, h2, OwnV.kept h3 fun g hg => hk g (by rw [h1]; simp [hg]), OwnVs.kept h4 fun g hg => hk g (by rw [h1]; simp [hg])⟩
end
mutual
theorem OwnV.rep {lo hi : Nat} : ∀ {d : Dat} {F : List Nat} {v : Value}, OwnV w d F v → (∀ g ∈ F, lo ≤ g ∧ g < hi) → Rep w lo hi d v
 | .int _ _, _, _, h, _ => by simp only [OwnV] at h; rw [h.2]; exact .mkInt
 | .str _, _, _, h, _ => by simp only [OwnV] at h; rw [h.2]; exact .mkStr
 | .bool _, _, _, h, _ => by simp only [OwnV] at h; rw [h.2]; exact .mkBool
 | .row size n ds, F, v, h, hk => by
   simp only [OwnV] at h
   obtain ⟨e, vs, F', h1, h2, h3⟩ := h
   exact .mkRow (Rds.own_in h1 fun g hg => hk g (by rw [h2, hg]; simp)) (OwnVs.rep h3 fun g hg => hk g (by rw [h2]; simp [hg]))
theorem OwnVs.rep {lo hi : Nat} : ∀ {ds : List Dat} {F : List Nat} {vs : List Value}, OwnVs w ds F vs → (∀ g ∈ F, lo ≤ g ∧ g < hi) → RepL w lo hi ds vs
 | [], _, _, h, _ => by simp only [OwnVs] at h; rw [h.2]; exact .nil_
 | d :: ds, F, vs, h, hk => by
   simp only [OwnVs] at h
   obtain ⟨F1, F2, v, vs', h1, rfl, h3, h4⟩ := h
   exact .cons_ (OwnV.rep h3 fun g hg => hk g (by rw [h1]; simp [hg])) (OwnVs.rep h4 fun g hg => hk g (by rw [h1]; simp [hg]))
end
mutual
theorem OwnV.lt : ∀ {d : Dat} {F : List Nat} {v : Value}, OwnV w d F v → ∀ g ∈ F, g < w.heap.size
 | .int _ _, _, _, h => by simp only [OwnV] at h; rw [h.1]; simp
 | .str _, _, _, h => by simp only [OwnV] at h; rw [h.1]; simp
 | .bool _, _, _, h => by simp only [OwnV] at h; rw [h.1]; simp
 | .row size n ds, F, v, h => by
   simp only [OwnV] at h
   obtain ⟨e, vs, F', h1, h2, h3⟩ := h
   intro g hg
   rw [h2] at hg
   rcases List.mem_append.1 hg with hg | hg
   ·exact (h1.lt g (by simpa using hg)).2
   ·exact OwnVs.lt h3 g hg
theorem OwnVs.lt : ∀ {ds : List Dat} {F : List Nat} {vs : List Value}, OwnVs w ds F vs → ∀ g ∈ F, g < w.heap.size
 | [], _, _, h => by simp only [OwnVs] at h; rw [h.1]; simp
 | d :: ds, F, vs, h => by
   simp only [OwnVs] at h
   obtain ⟨F1, F2, v, vs', h1, rfl, h3, h4⟩ := h
   intro g hg
   rw [h1] at hg
   rcases List.mem_append.1 hg with hg | hg
   ·exact OwnV.lt h3 g hg
   ·exact OwnVs.lt h4 g hg
end
theorem OwnVs.nil_ : OwnVs w [] [] [] := by simp [OwnVs]
theorem OwnVs.cons_ {d : Dat} {ds : List Dat} {F1 F2 : List Nat} {v : Value} {vs : List Value} (h : OwnV w d F1 v) (h' : OwnVs w ds F2 vs) : OwnVs w (d :: ds) (F1 ++ F2) (v :: vs) := by simp only [OwnVs]; exact ⟨F1, F2, v, vs, rfl, rfl, h, h'⟩
theorem OwnVs.out {d : Dat} {ds : List Dat} {F : List Nat} {vs : List Value} (h : OwnVs w (d :: ds) F vs) : ∃ F1 F2 v vs', F = F1 ++ F2 ∧ vs = v :: vs' ∧ OwnV w d F1 v ∧ OwnVs w ds F2 vs' := by simpa only [OwnVs] using h
theorem OwnVs.outNil {F : List Nat} {vs : List Value} (h : OwnVs w [] F vs) : F = [] ∧ vs = [] := by simpa only [OwnVs] using h
theorem OwnV.int_ {k : IntKind} {n : Int} {F : List Nat} {v : Value} (h : OwnV w (.int k n) F v) : F = [] ∧ v = .int k n := by simpa only [OwnV] using h
theorem OwnV.str_ {s : ByteArray} {F : List Nat} {v : Value} (h : OwnV w (.str s) F v) : F = [] ∧ v = .string s := by simpa only [OwnV] using h
theorem OwnV.bool_ {b : Bool} {F : List Nat} {v : Value} (h : OwnV w (.bool b) F v) : F = [] ∧ v = .bool b := by simpa only [OwnV] using h
theorem OwnV.row_ {size n : Nat} {ds : List Dat} {F : List Nat} {v : Value} (h : OwnV w (.row size n ds) F v) : ∃ e vs F', w.ownsRow 0 e size v n vs ∧ F = v.ownBlock.toList ++ F' ∧ OwnVs w ds F' vs := by simpa only [OwnV] using h
theorem OwnV.mkInt {k : IntKind} {n : Int} : OwnV w (.int k n) [] (.int k n) := by simp [OwnV]
theorem OwnV.mkStr {s : ByteArray} : OwnV w (.str s) [] (.string s) := by simp [OwnV]
theorem OwnV.mkBool {b : Bool} : OwnV w (.bool b) [] (.bool b) := by simp [OwnV]
theorem OwnV.mkRow {base size n : Nat} {e : TypeId} {ds : List Dat} {F : List Nat} {v : Value} {vs : List Value} (h : w.ownsRow base e size v n vs) (h' : OwnVs w ds F vs) : OwnV w (.row size n ds) (v.ownBlock.toList ++ F) v := by
 simp only [OwnV]
 exact ⟨e, vs, F, own_base h fun _ _ => Nat.zero_le _, rfl, h'⟩
theorem OwnV.nilRow {size : Nat} : OwnV w (.row size 0 []) [] (.slice none 0 0) := OwnV.mkRow (World.ownsRow_nil w 0 0 size) .nil_
theorem OwnVs.len : ∀ {ds : List Dat} {F : List Nat} {vs : List Value}, OwnVs w ds F vs → vs.length = ds.length
 | [], _, _, h => by rw [h.outNil.2]; rfl
 | _ :: ds, _, _, h => by
   obtain ⟨F1, F2, v, vs', -, rfl, -, h4⟩ := h.out
   simp [OwnVs.len h4]
theorem OwnVs.app : ∀ {ds es : List Dat} {F G : List Nat} {vs us : List Value}, OwnVs w ds F vs → OwnVs w es G us → OwnVs w (ds ++ es) (F ++ G) (vs ++ us)
 | [], _, _, _, _, _, h, h' => by obtain ⟨rfl, rfl⟩ := h.outNil; exact h'
 | _ :: ds, _, _, _, _, _, h, h' => by
   obtain ⟨F1, F2, v, vs', rfl, rfl, h3, h4⟩ := h.out
   rw [List.append_assoc]
   exact .cons_ h3 (OwnVs.app h4 h')
theorem OwnVs.parts : ∀ {ds es : List Dat} {F : List Nat} {vs : List Value}, OwnVs w (ds ++ es) F vs → ∃ F1 F2 v1 v2, F = F1 ++ F2 ∧ vs = v1 ++ v2 ∧ OwnVs w ds F1 v1 ∧ OwnVs w es F2 v2
 | [], _, F, vs, h => ⟨[], F, [], vs, rfl, rfl, .nil_, h⟩
 | _ :: ds, _, _, _, h => by
   obtain ⟨F1, F2, v, vs', rfl, rfl, h3, h4⟩ := OwnVs.out h
   obtain ⟨G1, G2, v1, v2, rfl, rfl, h5, h6⟩ := OwnVs.parts h4
   exact ⟨F1 ++ G1, G2, v :: v1, v2, by simp, by simp, .cons_ h3 h5, h6⟩
theorem OwnVs.flatNil : ∀ {ds : List Dat} {F : List Nat} {vs : List Value}, OwnVs w ds F vs → (∀ d ∈ ds, (match d with | .row _ _ _ => False | _ => True)) → F = []
 | [], _, _, h, _ => h.outNil.1
 | d :: ds, _, _, h, hd => by
   obtain ⟨F1, F2, v, vs', rfl, rfl, h3, h4⟩ := h.out
   have h2 := OwnVs.flatNil h4 fun d hd' => hd d (by simp [hd'])
   have h1 := hd d (by simp)
   cases d with
   | int => rw [h2, h3.int_.1]; rfl
   | str => rw [h2, h3.str_.1]; rfl
   | bool => rw [h2, h3.bool_.1]; rfl
   | row => exact absurd h1 (by simp)
end
def OwnR (w : World) (lo hi : Nat) (ds : List Dat) (vs : List Value) : Prop := ∃ F : List Nat, OwnVs w ds F vs ∧ F.Nodup ∧ ∀ g ∈ F, lo ≤ g ∧ g < hi
section
variable {w w' : World} {lo mid hi : Nat} {ds es : List Dat} {vs us : List Value}
theorem OwnR.rep (h : OwnR w lo hi ds vs) : RepL w lo hi ds vs := by obtain ⟨F, h1, _, h3⟩ := h; exact h1.rep h3
theorem OwnR.len (h : OwnR w lo hi ds vs) : vs.length = ds.length := by obtain ⟨F, h1, _⟩ := h; exact h1.len
theorem OwnR.wide {lo' hi' : Nat} (h : OwnR w lo hi ds vs) (h1 : lo' ≤ lo) (h2 : hi ≤ hi') : OwnR w lo' hi' ds vs := by
 obtain ⟨F, g1, g2, g3⟩ := h
 exact ⟨F, g1, g2, fun g hg => ⟨Nat.le_trans h1 (g3 g hg).1, Nat.lt_of_lt_of_le (g3 g hg).2 h2⟩⟩
theorem OwnR.kept (h : OwnR w lo hi ds vs) (hk : ∀ g, lo ≤ g → g < hi → w'.heap[g]? = w.heap[g]?) : OwnR w' lo hi ds vs := by
 obtain ⟨F, g1, g2, g3⟩ := h
 exact ⟨F, g1.kept fun g hg => hk g (g3 g hg).1 (g3 g hg).2, g2, g3⟩
theorem OwnR.below {B : Nat} (h : OwnR w lo hi ds vs) (hb : Below B w w') (hB : hi ≤ B) : OwnR w' lo hi ds vs := h.kept fun g _ h2 => hb.block g (Nat.lt_of_lt_of_le h2 hB)
theorem OwnR.same (h : OwnR w lo hi ds vs) (hs : Same w w') : OwnR w' lo hi ds vs := h.kept fun g _ _ => by rw [hs.heap]
theorem OwnR.setFar (h : OwnR w lo hi ds vs) {p : Addr} (hp : p.block < lo ∨ hi ≤ p.block) (u : Value) : OwnR (w.setCell p u) lo hi ds vs := h.kept fun g h1 h2 => Below.heap_setCell w p u g (by omega)
theorem OwnR.alloc (h : OwnR w lo hi ds vs) (hB : hi ≤ w.heap.size) (o : Obj) : OwnR (w.alloc o) lo hi ds vs := h.below ((Below.refl w.heap.size w).alloc (Nat.le_refl _) o) hB
theorem OwnR.putAll {g : Nat} (hg : g < lo ∨ hi ≤ g) : ∀ (us : List Value) (w : World) (p : Nat), OwnR w lo hi ds vs → OwnR (putAll w g p us) lo hi ds vs
 | [], _, _, h => h
 | u :: us, w, p, h => OwnR.putAll hg us _ (p + 1) (h.setFar (p := ⟨g, p, none⟩) hg u)
theorem OwnR.nil_ : OwnR w lo hi [] [] := ⟨[], .nil_, List.nodup_nil, by simp⟩
theorem nodup_parts {F G : List Nat} (hF : F.Nodup) (hG : G.Nodup) (h1 : ∀ g ∈ F, g < mid) (h2 : ∀ g ∈ G, mid ≤ g) : (F ++ G).Nodup := by
 refine List.nodup_append.2 ⟨hF, hG, fun a ha b hb e => ?_⟩
 subst e
 have := h1 a ha; have := h2 a hb; omega
theorem OwnR.app (h : OwnR w lo mid ds vs) (h' : OwnR w mid hi es us) (h1 : lo ≤ mid) (h2 : mid ≤ hi) : OwnR w lo hi (ds ++ es) (vs ++ us) := by
 obtain ⟨F, a1, a2, a3⟩ := h
 obtain ⟨G, b1, b2, b3⟩ := h'
 refine ⟨F ++ G, a1.app b1, nodup_parts a2 b2 (fun g hg => (a3 g hg).2) (fun g hg => (b3 g hg).1), fun g hg => ?_⟩
 rcases List.mem_append.1 hg with hg | hg
 ·have := a3 g hg; omega
 ·have := b3 g hg; omega
theorem OwnR.int_ {k : IntKind} {n : Int} (h : OwnR w lo hi ds vs) : OwnR w lo hi (.int k n :: ds) (.int k n :: vs) := by
 obtain ⟨F, a1, a2, a3⟩ := h; exact ⟨[] ++ F, .cons_ .mkInt a1, a2, a3⟩
theorem OwnR.str_ {s : ByteArray} (h : OwnR w lo hi ds vs) : OwnR w lo hi (.str s :: ds) (.string s :: vs) := by
 obtain ⟨F, a1, a2, a3⟩ := h; exact ⟨[] ++ F, .cons_ .mkStr a1, a2, a3⟩
theorem OwnR.bool_ {b : Bool} (h : OwnR w lo hi ds vs) : OwnR w lo hi (.bool b :: ds) (.bool b :: vs) := by
 obtain ⟨F, a1, a2, a3⟩ := h; exact ⟨[] ++ F, .cons_ .mkBool a1, a2, a3⟩
end
def OwnLR {α : Type} (w : World) (lo hi k : Nat) (f : α → List Dat) (v : Value) (l : List α) : Prop := ∃ F : List Nat, OwnV w (.row k l.length (flat f l)) F v ∧ F.Nodup ∧ ∀ g ∈ F, lo ≤ g ∧ g < hi
section
variable {α : Type} {f : α → List Dat} {k : Nat} {w w' : World} {lo mid hi : Nat} {v : Value} {l : List α} {ds : List Dat} {vs : List Value}
theorem OwnLR.rep (h : OwnLR w lo hi k f v l) : LRep w lo hi k f v l := by obtain ⟨F, h1, _, h3⟩ := h; exact h1.rep h3
theorem OwnLR.wide {lo' hi' : Nat} (h : OwnLR w lo hi k f v l) (h1 : lo' ≤ lo) (h2 : hi ≤ hi') : OwnLR w lo' hi' k f v l := by
 obtain ⟨F, g1, g2, g3⟩ := h
 exact ⟨F, g1, g2, fun g hg => ⟨Nat.le_trans h1 (g3 g hg).1, Nat.lt_of_lt_of_le (g3 g hg).2 h2⟩⟩
theorem OwnLR.kept (h : OwnLR w lo hi k f v l) (hk : ∀ g, lo ≤ g → g < hi → w'.heap[g]? = w.heap[g]?) : OwnLR w' lo hi k f v l := by
 obtain ⟨F, g1, g2, g3⟩ := h
 exact ⟨F, g1.kept fun g hg => hk g (g3 g hg).1 (g3 g hg).2, g2, g3⟩
theorem OwnLR.below {B : Nat} (h : OwnLR w lo hi k f v l) (hb : Below B w w') (hB : hi ≤ B) : OwnLR w' lo hi k f v l := h.kept fun g _ h2 => hb.block g (Nat.lt_of_lt_of_le h2 hB)
theorem OwnLR.same (h : OwnLR w lo hi k f v l) (hs : Same w w') : OwnLR w' lo hi k f v l := h.kept fun g _ _ => by rw [hs.heap]
theorem OwnLR.setFar (h : OwnLR w lo hi k f v l) {p : Addr} (hp : p.block < lo ∨ hi ≤ p.block) (u : Value) : OwnLR (w.setCell p u) lo hi k f v l := h.kept fun g h1 h2 => Below.heap_setCell w p u g (by omega)
theorem OwnLR.alloc (h : OwnLR w lo hi k f v l) (hB : hi ≤ w.heap.size) (o : Obj) : OwnLR (w.alloc o) lo hi k f v l := h.below ((Below.refl w.heap.size w).alloc (Nat.le_refl _) o) hB
theorem OwnLR.mk_ {e : TypeId} (h : w.ownsRow lo e k v l.length vs) (h' : OwnR w mid hi (flat f l) vs) (hg : ∀ g, v.ownBlock = some g → g < mid) (h1 : lo ≤ mid) (h2 : mid ≤ hi) : OwnLR w lo hi k f v l := by
 obtain ⟨F, a1, a2, a3⟩ := h'
 refine ⟨_, OwnV.mkRow h a1, nodup_parts (mid := mid) ?_ a2 (fun g hv => hg g (by simpa using hv)) (fun g hv => (a3 g hv).1), fun g hv => ?_⟩
 ·cases v.ownBlock <;> simp
 ·rcases List.mem_append.1 hv with hv | hv
  ·have hv : v.ownBlock = some g := by simpa using hv
   have := (h.lt g hv).1; have := hg g hv; omega
  ·have := a3 g hv; omega
theorem OwnR.row_ (h : OwnLR w lo mid k f v l) (h' : OwnR w mid hi ds vs) (h1 : lo ≤ mid) (h2 : mid ≤ hi) : OwnR w lo hi (.row k l.length (flat f l) :: ds) (v :: vs) := by
 obtain ⟨F, a1, a2, a3⟩ := h
 obtain ⟨G, b1, b2, b3⟩ := h'
 refine ⟨F ++ G, .cons_ a1 b1, nodup_parts a2 b2 (fun g hg => (a3 g hg).2) (fun g hg => (b3 g hg).1), fun g hg => ?_⟩
 rcases List.mem_append.1 hg with hg | hg
 ·have := a3 g hg; omega
 ·have := b3 g hg; omega
end
theorem OwnR.texts {w : World} {lo hi : Nat} : ∀ (l : List ByteArray), OwnR w lo hi (flat strDats l) (l.map .string)
 | [] => by rw [flat_nil]; exact .nil_
 | s :: l => by rw [flat_cons]; exact OwnR.str_ (OwnR.texts l)
theorem OwnLR.texts {w : World} {lo hi : Nat} {e : TypeId} {v : Value} {l : List ByteArray} (h : w.ownsRow lo e 1 v l.length (l.map .string)) (hhi : w.heap.size ≤ hi) : OwnLR w lo hi 1 strDats v l := by
 obtain ⟨F, a1, a2, a3⟩ := OwnR.texts (w := w) (lo := 0) (hi := 0) l
 have hF : F = [] := List.eq_nil_iff_forall_not_mem.2 fun g hg => by have := a3 g hg; omega
 subst hF
 refine ⟨_, OwnV.mkRow h a1, ?_, fun g hv => ?_⟩
 ·cases v.ownBlock <;> simp
 ·have hv : v.ownBlock = some g := by simpa using hv
  have := h.lt g hv; omega
def MadeS {α : Type} (f : α → List Dat) (c : α) (w : World) (e : Ending) (w' : World) : Prop := ∃ cs : List Value, e = .returned (.agg cs.toArray) ∧ OwnR w' w.heap.size w'.heap.size (f c) cs ∧ Below w.heap.size w w'
def MadeL {α : Type} (k : Nat) (f : α → List Dat) (l : List α) (w : World) (e : Ending) (w' : World) : Prop := ∃ v, e = .returned v ∧ OwnLR w' w.heap.size w'.heap.size k f v l ∧ Below w.heap.size w w'
theorem MadeS.own {α : Type} {f : α → List Dat} {c : α} {w w' : World} {e : Ending} (h : MadeS f c w e w') : OwnS f c w e w' := by
 obtain ⟨cs, he, h1, hb⟩ := h; exact ⟨_, he, ⟨cs, rfl, h1.rep⟩, hb⟩
theorem MadeL.own {α : Type} {k : Nat} {f : α → List Dat} {l : List α} {w w' : World} {e : Ending} (h : MadeL k f l w e w') : OwnL k f l w e w' := by
 obtain ⟨v, he, h1, hb⟩ := h; exact ⟨_, he, h1.rep, hb⟩
end Go.Proofs.YtjeomamdlmoghaaGreatDoor
end
