/- ApAll: several texts in one. -/
import Derived.Test.YtekobbeoaalibaaGreatDoorEdB
import Derived.Test.YtekobbeoaalibaaGreatDoorMarkAll
import Derived.Deep.RegionHeld3
import Derived.BigRegion
import Derived.Deep.QuietTactic
import Derived.Test.YtekobbeoaalibaaGreatDoorLawsAll
import Derived.Test.YtekobbeoaalibaaGreatDoorTyAll
section
namespace Go.Proofs.YtekobbeoaalibaaGreatDoor
open Go.RowKit
set_option linter.unusedVariables false

def insVals (l : List InsT) : List Value := l.flatMap fun x => [.int .i64 x.op, .int .i64 x.a, .int .i64 x.b, .int .i64 x.line, .string x.text]
theorem insVals_len : ∀ l : List InsT, (insVals l).length = l.length * 5
  | [] => rfl
  | x :: l => by have := insVals_len l; simp only [insVals, List.flatMap_cons, List.length_append, List.length_cons, List.length_nil] at this ⊢; omega
theorem insVals_at {l : List InsT} {p : Nat} {x : InsT} (h : l[p]? = some x) : insVals l = insVals (l.take p) ++ ([.int .i64 x.op, .int .i64 x.a, .int .i64 x.b, .int .i64 x.line, .string x.text] ++ insVals (l.drop (p + 1))) := by
  obtain ⟨hp, rfl⟩ := List.getElem?_eq_some_iff.1 h
  have e : l = l.take p ++ (l[p] :: l.drop (p + 1)) := by rw [← List.drop_eq_getElem_cons hp, List.take_append_drop]
  conv => lhs; rw [e]
  unfold insVals
  rw [List.flatMap_append, List.flatMap_cons]
theorem insVals_put {l : List InsT} {p : Nat} {x y : InsT} (h : l[p]? = some x) : insVals (l.set p y) = insVals (l.take p) ++ ([.int .i64 y.op, .int .i64 y.a, .int .i64 y.b, .int .i64 y.line, .string y.text] ++ insVals (l.drop (p + 1))) := by
  obtain ⟨hp, rfl⟩ := List.getElem?_eq_some_iff.1 h
  have h2 : (l.set p y)[p]? = some y := by rw [List.getElem?_set]; simp [hp]
  rw [insVals_at h2, List.take_set, List.drop_set_of_lt (by omega), List.set_eq_of_length_le (by simp; omega)]
theorem insVals_a {l : List InsT} {p : Nat} {x : InsT} (h : l[p]? = some x) (a : Int) : (insVals l).set (p * 5 + 1) (.int .i64 a) = insVals (l.set p { x with a := a }) := by
  have hp := (List.getElem?_eq_some_iff.1 h).1
  rw [insVals_put h, insVals_at h, set_mid (by rw [insVals_len, List.length_take, Nat.min_eq_left (by omega)]) (by simp)]
  rfl
theorem insVals_all {l : List InsT} {p : Nat} {x : InsT} (h : l[p]? = some x) (y : InsT) : (((((insVals l).set (p * 5) (.int .i64 y.op)).set (p * 5 + 1) (.int .i64 y.a)).set (p * 5 + 2) (.int .i64 y.b)).set (p * 5 + 3) (.int .i64 y.line)).set (p * 5 + 4) (.string y.text) = insVals (l.set p y) := by
  have hp := (List.getElem?_eq_some_iff.1 h).1
  have hl : (insVals (l.take p)).length = p * 5 := by rw [insVals_len, List.length_take, Nat.min_eq_left (by omega)]
  rw [insVals_put h, insVals_at h]
  simp (disch := simp) only [set_mid0 hl, set_mid hl]
  rfl
theorem own_cap {w : World} {base : Nat} {e : TypeId} {K n cap : Nat} {A : Option Addr} {xs : List Value} (h : w.ownsRow base e K (.slice A n cap) n xs) : n ≤ cap ∧ cap ≤ maxLen := by
  obtain ⟨A', C', hv, h1, h2, -⟩ := (Rds.of_own h).shape
  injection hv with e1 e2 e3
  subst e3
  exact ⟨h1, h2⟩
/-- the instructions behind an edit of kind k at p -/
def applyI (l : List InsT) (k : Int) (p : Nat) (x : InsT) : List InsT :=
  if k = 1 then (match l[x.a.toNat]? with | some y => l.set p { x with a := y.a } | none => l)
  else if k = 2 then (match closeP l p with | some e => (match l[e]? with | some z => (l.set p ⟨15, (p : Int) + 1, 0, x.line, ⟨#[]⟩⟩).set e ⟨30, 0, 0, z.line, ⟨#[]⟩⟩ | none => l) | none => l)
  else l.set p ⟨16, 0, 0, 0, ⟨#[]⟩⟩
/-- what an edit asks for to be carried out -/
def CanE (l : List InsT) (k : Int) (p : Nat) (x : InsT) : Prop := (k = 1 ∨ k = 2 ∨ k = 3) ∧ (k = 1 → 0 ≤ x.a ∧ x.a < l.length) ∧ (k = 2 → x.op = 13 ∧ ∃ e, closeP l p = some e)
theorem close_lt {l : List InsT} {p e : Nat} (h : closeP l p = some e) : p < e ∧ e < l.length := by
  have := closeT_ge h
  rw [List.length_drop] at this
  omega
theorem Fr.new_ {F : List Nat} {w w' : World} (h : Fr F w w') {p : Addr} (hp : w.heap.size ≤ p.block) (u : Value) : Fr F w (w'.setCell p u) :=
  ⟨h.os, h.tape, h.output, by simpa [World.setCell] using h.size, fun b hb hn => (Below.heap_setCell w' p u b (by omega)).trans (h.block b hb hn)⟩
theorem Fr.drew {F : List Nat} {w w' : World} (h : Fr F w w') : Fr F w w'.drew := ⟨h.os, h.tape, h.output, h.size, h.block⟩
set_option maxRecDepth 100000 in
set_option maxHeartbeats 2000000 in
theorem apply_thread (c : CodeT) (x y : InsT) (p q : Nat) (w : World) (lo hi : Nat) (A1 A2 A3 : Option Addr) (n1 n2 n3 g cap : Nat) (t : TypeId) (h : SRep w lo hi CodeT.dats (.agg #[Value.slice A1 c.routines.length n1, .slice A2 c.records.length n2, .slice A3 c.globals.length n3, .int .i64 c.main, .slice (some ⟨g, 0, none⟩) c.instrs.length cap]) c) (hhi : hi ≤ w.heap.size) (hn : c.instrs.length ≤ 60000)
    (hown : w.ownsRow 0 t 5 (.slice (some ⟨g, 0, none⟩) c.instrs.length cap) c.instrs.length (insVals c.instrs)) (hx : c.instrs[p]? = some x) (hq : x.a = (q : Int)) (hy : c.instrs[q]? = some y) :
    Calls Tryz.prog 63 #[.agg #[Value.slice A1 c.routines.length n1, .slice A2 c.records.length n2, .slice A3 c.globals.length n3, .int .i64 c.main, .slice (some ⟨g, 0, none⟩) c.instrs.length cap], .agg #[Value.int .i64 1, .int .i64 p]] w fun e w' => e = .returned (.agg #[Value.slice A1 c.routines.length n1, .slice A2 c.records.length n2, .slice A3 c.globals.length n3, .int .i64 c.main, .slice (some ⟨g, 0, none⟩) c.instrs.length cap]) ∧ w'.ownsRow 0 t 5 (.slice (some ⟨g, 0, none⟩) c.instrs.length cap) c.instrs.length (insVals (c.instrs.set p { x with a := y.a })) ∧ Fr [g] w w' := by
  have h0 := Lib.hid h
  have hpl : p < c.instrs.length := (List.getElem?_eq_some_iff.1 hx).1
  have hi1 := (CodeT.rows h).2.2.2
  obtain ⟨g', off', hA, hg1, hg2, hmem, -, q0, q1, q2, q3, q4⟩ := InsT.at_ hi1 hx
  injection hA with hA
  injection hA with hA1 hA2
  subst hA1 hA2
  rw [Nat.zero_add] at q0 q1 q2 q3 q4
  have hgl : g < w.heap.size := (hown.lt g rfl).2
  obtain ⟨hc1, hc2⟩ := own_cap hown
  unfold maxLen at hc2
  have hql : q < c.instrs.length := (List.getElem?_eq_some_iff.1 hy).1
  obtain ⟨g', off', hA, -, -, -, -, -, y1, -, -, -⟩ := InsT.at_ hi1 hy
  injection hA with hA
  injection hA with hA1 hA2
  subst hA1 hA2
  rw [Nat.zero_add] at y1
  have HA := Lib.hid (insVals_a hx y.a)
  rw [hq] at q1
  have hw3 : Below w.heap.size w (((w.alloc (.cells #[Value.slice A1 c.routines.length n1, .slice A2 c.records.length n2, .slice A3 c.globals.length n3, .int .i64 c.main, .slice (some ⟨g, 0, none⟩) c.instrs.length cap] 34)).alloc (.cells #[Value.int .i64 1, .int .i64 p] 46)).alloc (.cells #[Value.slice none 0 0, .slice none 0 0, .slice none 0 0, .int .i64 0, .slice none 0 0] 34)) := ((((Below.refl _ _).alloc (Nat.le_refl _) _).alloc (by simp) _).alloc (by simp; omega) _)
  have hw : Below w.heap.size w ((((w.alloc (.cells #[Value.slice A1 c.routines.length n1, .slice A2 c.records.length n2, .slice A3 c.globals.length n3, .int .i64 c.main, .slice (some ⟨g, 0, none⟩) c.instrs.length cap] 34)).alloc (.cells #[Value.int .i64 1, .int .i64 p] 46)).alloc (.cells #[Value.slice none 0 0, .slice none 0 0, .slice none 0 0, .int .i64 0, .slice none 0 0] 34)).alloc (.cells #[Value.int .i64 x.op, .int .i64 (q : Nat), .int .i64 x.b, .int .i64 x.line, .string x.text] 79)) := hw3.alloc hw3.size _
  have ba : Blk ((((w.alloc (.cells #[Value.slice A1 c.routines.length n1, .slice A2 c.records.length n2, .slice A3 c.globals.length n3, .int .i64 c.main, .slice (some ⟨g, 0, none⟩) c.instrs.length cap] 34)).alloc (.cells #[Value.int .i64 1, .int .i64 p] 46)).alloc (.cells #[Value.slice none 0 0, .slice none 0 0, .slice none 0 0, .int .i64 0, .slice none 0 0] 34)).alloc (.cells #[Value.int .i64 x.op, .int .i64 (q : Nat), .int .i64 x.b, .int .i64 x.line, .string x.text] 79)) w.heap.size 34 #[Value.slice A1 c.routines.length n1, .slice A2 c.records.length n2, .slice A3 c.globals.length n3, .int .i64 c.main, .slice (some ⟨g, 0, none⟩) c.instrs.length cap] := (((Blk.new w _ _).alloc _).alloc _).alloc _
  have be : Blk ((((w.alloc (.cells #[Value.slice A1 c.routines.length n1, .slice A2 c.records.length n2, .slice A3 c.globals.length n3, .int .i64 c.main, .slice (some ⟨g, 0, none⟩) c.instrs.length cap] 34)).alloc (.cells #[Value.int .i64 1, .int .i64 p] 46)).alloc (.cells #[Value.slice none 0 0, .slice none 0 0, .slice none 0 0, .int .i64 0, .slice none 0 0] 34)).alloc (.cells #[Value.int .i64 x.op, .int .i64 (q : Nat), .int .i64 x.b, .int .i64 x.line, .string x.text] 79)) (w.heap.size + 1) 46 #[Value.int .i64 1, .int .i64 p] := ((Blk.newAt _ _ _ _ (by simp)).alloc _).alloc _
  have bz : Blk ((((w.alloc (.cells #[Value.slice A1 c.routines.length n1, .slice A2 c.records.length n2, .slice A3 c.globals.length n3, .int .i64 c.main, .slice (some ⟨g, 0, none⟩) c.instrs.length cap] 34)).alloc (.cells #[Value.int .i64 1, .int .i64 p] 46)).alloc (.cells #[Value.slice none 0 0, .slice none 0 0, .slice none 0 0, .int .i64 0, .slice none 0 0] 34)).alloc (.cells #[Value.int .i64 x.op, .int .i64 (q : Nat), .int .i64 x.b, .int .i64 x.line, .string x.text] 79)) (w.heap.size + 2) 34 #[Value.slice none 0 0, .slice none 0 0, .slice none 0 0, .int .i64 0, .slice none 0 0] := (Blk.newAt _ _ _ _ (by simp)).alloc _
  have bx : Blk ((((w.alloc (.cells #[Value.slice A1 c.routines.length n1, .slice A2 c.records.length n2, .slice A3 c.globals.length n3, .int .i64 c.main, .slice (some ⟨g, 0, none⟩) c.instrs.length cap] 34)).alloc (.cells #[Value.int .i64 1, .int .i64 p] 46)).alloc (.cells #[Value.slice none 0 0, .slice none 0 0, .slice none 0 0, .int .i64 0, .slice none 0 0] 34)).alloc (.cells #[Value.int .i64 x.op, .int .i64 (q : Nat), .int .i64 x.b, .int .i64 x.line, .string x.text] 79)) (w.heap.size + 3) 79 #[Value.int .i64 x.op, .int .i64 (q : Nat), .int .i64 x.b, .int .i64 x.line, .string x.text] := Blk.newAt _ _ _ _ (by simp)
  have p0 := (hw3.cell (p := ⟨g, p * 5, none⟩) hgl).trans q0
  have p1 := (hw3.cell (p := ⟨g, p * 5 + 1, none⟩) hgl).trans q1
  have p2 := (hw3.cell (p := ⟨g, p * 5 + 2, none⟩) hgl).trans q2
  have p3 := (hw3.cell (p := ⟨g, p * 5 + 3, none⟩) hgl).trans q3
  have p4 := (hw3.cell (p := ⟨g, p * 5 + 4, none⟩) hgl).trans q4
  clear h hi1 hx hy hmem hq
  go_enter Tryz.func63, Tryz.ntmps63
  go_wp2_with fail
  obtain ⟨W, hW⟩ : ∃ W, ((((w.alloc (.cells #[Value.slice A1 c.routines.length n1, .slice A2 c.records.length n2, .slice A3 c.globals.length n3, .int .i64 c.main, .slice (some ⟨g, 0, none⟩) c.instrs.length cap] 34)).alloc (.cells #[Value.int .i64 1, .int .i64 p] 46)).alloc (.cells #[Value.slice none 0 0, .slice none 0 0, .slice none 0 0, .int .i64 0, .slice none 0 0] 34)).alloc (.cells #[Value.int .i64 x.op, .int .i64 (q : Nat), .int .i64 x.b, .int .i64 x.line, .string x.text] 79)) = W := ⟨_, rfl⟩
  rw [hW] at hw ba be bz bx ⊢
  clear hW
  have ownW := own_later hown hw
  have q1' := (hw.cell (p := ⟨g, p * 5 + 1, none⟩) hgl).trans q1
  have y1' := (hw.cell (p := ⟨g, q * 5 + 1, none⟩) hgl).trans y1
  obtain ⟨⟨u1, d1⟩, f1⟩ := own_at ownW (p * 5 + 1) (by omega)
  clear p0 p1 p2 p3 p4 q0 q1 q2 q3 q4 y1 hw3
  have cba := ba.cell
  have cbe := be.cell
  have cbz := bz.cell
  have cbx := bx.cell
  have fbz := bz.frozen
  have lba := ba.lt
  have lbe := be.lt
  have lbz := bz.lt
  have lbx := bx.lt
  have e0 : (0 : Int) ≤ (p : Int) := by omega
  have e1 : (p : Int) < (c.instrs.length : Int) := by omega
  have e2 : (0 : Int) ≤ (q : Int) := by omega
  have e3 : (q : Int) < (c.instrs.length : Int) := by omega
  go_region
  go_wp2_with fail
  refine bodyPost_ret (v := .agg #[Value.slice A1 c.routines.length n1, .slice A2 c.records.length n2, .slice A3 c.globals.length n3, .int .i64 c.main, .slice (some ⟨g, 0, none⟩) c.instrs.length cap]) ?_ rfl ⟨rfl, ?_, ?_⟩
  · simp [results, Tryz.results63, go_sem, cbz]
  · refine World.ownsRow.drew ?_
    iterate 5 refine ownsRow_setCell_other ?_ (by simp [Value.ownBlock] <;> omega) _
    rw [← HA.out]; exact (ownW.stored _ _).1
  · refine Fr.drew ?_
    iterate 5 refine Fr.new_ ?_ (by simp <;> omega) _
    exact (Fr.of_below hw).set_ (by simp) _
set_option maxRecDepth 100000 in
set_option maxHeartbeats 2000000 in
theorem apply_dead (c : CodeT) (x : InsT) (p : Nat) (w : World) (lo hi : Nat) (A1 A2 A3 : Option Addr) (n1 n2 n3 g cap : Nat) (t : TypeId) (h : SRep w lo hi CodeT.dats (.agg #[Value.slice A1 c.routines.length n1, .slice A2 c.records.length n2, .slice A3 c.globals.length n3, .int .i64 c.main, .slice (some ⟨g, 0, none⟩) c.instrs.length cap]) c) (hhi : hi ≤ w.heap.size) (hn : c.instrs.length ≤ 60000)
    (hown : w.ownsRow 0 t 5 (.slice (some ⟨g, 0, none⟩) c.instrs.length cap) c.instrs.length (insVals c.instrs)) (hx : c.instrs[p]? = some x) :
    Calls Tryz.prog 63 #[.agg #[Value.slice A1 c.routines.length n1, .slice A2 c.records.length n2, .slice A3 c.globals.length n3, .int .i64 c.main, .slice (some ⟨g, 0, none⟩) c.instrs.length cap], .agg #[Value.int .i64 3, .int .i64 p]] w fun e w' => e = .returned (.agg #[Value.slice A1 c.routines.length n1, .slice A2 c.records.length n2, .slice A3 c.globals.length n3, .int .i64 c.main, .slice (some ⟨g, 0, none⟩) c.instrs.length cap]) ∧ w'.ownsRow 0 t 5 (.slice (some ⟨g, 0, none⟩) c.instrs.length cap) c.instrs.length (insVals (c.instrs.set p ⟨16, 0, 0, 0, ⟨#[]⟩⟩)) ∧ Fr [g] w w' := by
  have h0 := Lib.hid h
  have hpl : p < c.instrs.length := (List.getElem?_eq_some_iff.1 hx).1
  have hi1 := (CodeT.rows h).2.2.2
  obtain ⟨g', off', hA, hg1, hg2, hmem, -, q0, q1, q2, q3, q4⟩ := InsT.at_ hi1 hx
  injection hA with hA
  injection hA with hA1 hA2
  subst hA1 hA2
  rw [Nat.zero_add] at q0 q1 q2 q3 q4
  have hgl : g < w.heap.size := (hown.lt g rfl).2
  obtain ⟨hc1, hc2⟩ := own_cap hown
  unfold maxLen at hc2
  have HA := Lib.hid (insVals_all hx ⟨16, 0, 0, 0, ⟨#[]⟩⟩)
  have hw3 : Below w.heap.size w (((w.alloc (.cells #[Value.slice A1 c.routines.length n1, .slice A2 c.records.length n2, .slice A3 c.globals.length n3, .int .i64 c.main, .slice (some ⟨g, 0, none⟩) c.instrs.length cap] 34)).alloc (.cells #[Value.int .i64 3, .int .i64 p] 46)).alloc (.cells #[Value.slice none 0 0, .slice none 0 0, .slice none 0 0, .int .i64 0, .slice none 0 0] 34)) := ((((Below.refl _ _).alloc (Nat.le_refl _) _).alloc (by simp) _).alloc (by simp; omega) _)
  have hw : Below w.heap.size w ((((w.alloc (.cells #[Value.slice A1 c.routines.length n1, .slice A2 c.records.length n2, .slice A3 c.globals.length n3, .int .i64 c.main, .slice (some ⟨g, 0, none⟩) c.instrs.length cap] 34)).alloc (.cells #[Value.int .i64 3, .int .i64 p] 46)).alloc (.cells #[Value.slice none 0 0, .slice none 0 0, .slice none 0 0, .int .i64 0, .slice none 0 0] 34)).alloc (.cells #[Value.int .i64 x.op, .int .i64 x.a, .int .i64 x.b, .int .i64 x.line, .string x.text] 79)) := hw3.alloc hw3.size _
  have ba : Blk ((((w.alloc (.cells #[Value.slice A1 c.routines.length n1, .slice A2 c.records.length n2, .slice A3 c.globals.length n3, .int .i64 c.main, .slice (some ⟨g, 0, none⟩) c.instrs.length cap] 34)).alloc (.cells #[Value.int .i64 3, .int .i64 p] 46)).alloc (.cells #[Value.slice none 0 0, .slice none 0 0, .slice none 0 0, .int .i64 0, .slice none 0 0] 34)).alloc (.cells #[Value.int .i64 x.op, .int .i64 x.a, .int .i64 x.b, .int .i64 x.line, .string x.text] 79)) w.heap.size 34 #[Value.slice A1 c.routines.length n1, .slice A2 c.records.length n2, .slice A3 c.globals.length n3, .int .i64 c.main, .slice (some ⟨g, 0, none⟩) c.instrs.length cap] := (((Blk.new w _ _).alloc _).alloc _).alloc _
  have be : Blk ((((w.alloc (.cells #[Value.slice A1 c.routines.length n1, .slice A2 c.records.length n2, .slice A3 c.globals.length n3, .int .i64 c.main, .slice (some ⟨g, 0, none⟩) c.instrs.length cap] 34)).alloc (.cells #[Value.int .i64 3, .int .i64 p] 46)).alloc (.cells #[Value.slice none 0 0, .slice none 0 0, .slice none 0 0, .int .i64 0, .slice none 0 0] 34)).alloc (.cells #[Value.int .i64 x.op, .int .i64 x.a, .int .i64 x.b, .int .i64 x.line, .string x.text] 79)) (w.heap.size + 1) 46 #[Value.int .i64 3, .int .i64 p] := ((Blk.newAt _ _ _ _ (by simp)).alloc _).alloc _
  have bz : Blk ((((w.alloc (.cells #[Value.slice A1 c.routines.length n1, .slice A2 c.records.length n2, .slice A3 c.globals.length n3, .int .i64 c.main, .slice (some ⟨g, 0, none⟩) c.instrs.length cap] 34)).alloc (.cells #[Value.int .i64 3, .int .i64 p] 46)).alloc (.cells #[Value.slice none 0 0, .slice none 0 0, .slice none 0 0, .int .i64 0, .slice none 0 0] 34)).alloc (.cells #[Value.int .i64 x.op, .int .i64 x.a, .int .i64 x.b, .int .i64 x.line, .string x.text] 79)) (w.heap.size + 2) 34 #[Value.slice none 0 0, .slice none 0 0, .slice none 0 0, .int .i64 0, .slice none 0 0] := (Blk.newAt _ _ _ _ (by simp)).alloc _
  have bx : Blk ((((w.alloc (.cells #[Value.slice A1 c.routines.length n1, .slice A2 c.records.length n2, .slice A3 c.globals.length n3, .int .i64 c.main, .slice (some ⟨g, 0, none⟩) c.instrs.length cap] 34)).alloc (.cells #[Value.int .i64 3, .int .i64 p] 46)).alloc (.cells #[Value.slice none 0 0, .slice none 0 0, .slice none 0 0, .int .i64 0, .slice none 0 0] 34)).alloc (.cells #[Value.int .i64 x.op, .int .i64 x.a, .int .i64 x.b, .int .i64 x.line, .string x.text] 79)) (w.heap.size + 3) 79 #[Value.int .i64 x.op, .int .i64 x.a, .int .i64 x.b, .int .i64 x.line, .string x.text] := Blk.newAt _ _ _ _ (by simp)
  have p0 := (hw3.cell (p := ⟨g, p * 5, none⟩) hgl).trans q0
  have p1 := (hw3.cell (p := ⟨g, p * 5 + 1, none⟩) hgl).trans q1
  have p2 := (hw3.cell (p := ⟨g, p * 5 + 2, none⟩) hgl).trans q2
  have p3 := (hw3.cell (p := ⟨g, p * 5 + 3, none⟩) hgl).trans q3
  have p4 := (hw3.cell (p := ⟨g, p * 5 + 4, none⟩) hgl).trans q4
  obtain ⟨⟨u0, d0⟩, f0⟩ := own_at (own_later hown hw) (p * 5) (by omega)
  obtain ⟨⟨u1, d1⟩, f1⟩ := own_at (own_later hown hw) (p * 5 + 1) (by omega)
  obtain ⟨⟨u2, d2⟩, f2⟩ := own_at (own_later hown hw) (p * 5 + 2) (by omega)
  obtain ⟨⟨u3, d3⟩, f3⟩ := own_at (own_later hown hw) (p * 5 + 3) (by omega)
  obtain ⟨⟨u4, d4⟩, f4⟩ := own_at (own_later hown hw) (p * 5 + 4) (by omega)
  have ownW := own_later hown hw
  clear h hi1 hx hmem q0 q1 q2 q3 q4
  have cba := ba.cell
  have cbe := be.cell
  have cbz := bz.cell
  have cbx := bx.cell
  have fbz := bz.frozen
  have lba := ba.lt
  have lbe := be.lt
  have lbz := bz.lt
  have lbx := bx.lt
  go_enter Tryz.func63, Tryz.ntmps63
  go_wp2_with fail
  refine bodyPost_ret (v := .agg #[Value.slice A1 c.routines.length n1, .slice A2 c.records.length n2, .slice A3 c.globals.length n3, .int .i64 c.main, .slice (some ⟨g, 0, none⟩) c.instrs.length cap]) ?_ rfl ⟨rfl, ?_, ?_⟩
  · simp [results, Tryz.results63, go_sem, cbz]
  · iterate 5 refine ownsRow_setCell_other ?_ (by simp [Value.ownBlock] <;> omega) _
    rw [← HA.out]
    exact (((((ownW.stored _ _).1.stored _ _).1.stored _ _).1.stored _ _).1.stored _ _).1
  · iterate 5 refine Fr.new_ ?_ (by simp <;> omega) _
    exact (((((Fr.of_below hw).set_ (by simp) _).set_ (by simp) _).set_ (by simp) _).set_ (by simp) _).set_ (by simp) _
set_option maxRecDepth 100000 in
set_option maxHeartbeats 2000000 in
theorem apply_unmark (c : CodeT) (x z : InsT) (p q : Nat) (w : World) (lo hi : Nat) (A1 A2 A3 : Option Addr) (n1 n2 n3 g cap : Nat) (t : TypeId) (h : SRep w lo hi CodeT.dats (.agg #[Value.slice A1 c.routines.length n1, .slice A2 c.records.length n2, .slice A3 c.globals.length n3, .int .i64 c.main, .slice (some ⟨g, 0, none⟩) c.instrs.length cap]) c) (hhi : hi ≤ w.heap.size) (hn : c.instrs.length ≤ 60000)
    (hown : w.ownsRow 0 t 5 (.slice (some ⟨g, 0, none⟩) c.instrs.length cap) c.instrs.length (insVals c.instrs)) (hx : c.instrs[p]? = some x) (hv : ∀ x ∈ c.instrs, InsV c.instrs.length x) (hc : closeP c.instrs p = some q) (hz : c.instrs[q]? = some z) :
    Calls Tryz.prog 63 #[.agg #[Value.slice A1 c.routines.length n1, .slice A2 c.records.length n2, .slice A3 c.globals.length n3, .int .i64 c.main, .slice (some ⟨g, 0, none⟩) c.instrs.length cap], .agg #[Value.int .i64 2, .int .i64 p]] w fun e w' => e = .returned (.agg #[Value.slice A1 c.routines.length n1, .slice A2 c.records.length n2, .slice A3 c.globals.length n3, .int .i64 c.main, .slice (some ⟨g, 0, none⟩) c.instrs.length cap]) ∧ w'.ownsRow 0 t 5 (.slice (some ⟨g, 0, none⟩) c.instrs.length cap) c.instrs.length (insVals ((c.instrs.set p ⟨15, (p : Int) + 1, 0, x.line, ⟨#[]⟩⟩).set q ⟨30, 0, 0, z.line, ⟨#[]⟩⟩)) ∧ Fr [g] w w' := by
  have h0 := Lib.hid h
  have hpl : p < c.instrs.length := (List.getElem?_eq_some_iff.1 hx).1
  have hi1 := (CodeT.rows h).2.2.2
  obtain ⟨g', off', hA, hg1, hg2, hmem, -, q0, q1, q2, q3, q4⟩ := InsT.at_ hi1 hx
  injection hA with hA
  injection hA with hA1 hA2
  subst hA1 hA2
  rw [Nat.zero_add] at q0 q1 q2 q3 q4
  have hgl : g < w.heap.size := (hown.lt g rfl).2
  obtain ⟨hc1, hc2⟩ := own_cap hown
  unfold maxLen at hc2
  have hpq := close_lt hc
  obtain ⟨hpq, hql⟩ := hpq
  have hz2 : (c.instrs.set p ⟨15, (p : Int) + 1, 0, x.line, ⟨#[]⟩⟩)[q]? = some z := by rw [List.getElem?_set_ne (by omega)]; exact hz
  have HA := Lib.hid (insVals_all hx ⟨15, (p : Int) + 1, 0, x.line, ⟨#[]⟩⟩)
  have HB := Lib.hid (insVals_all hz2 ⟨30, 0, 0, z.line, ⟨#[]⟩⟩)
  have HZ := Lib.hid (insVals_at hz2)
  have HL : Hid ((insVals ((c.instrs.set p ⟨15, (p : Int) + 1, 0, x.line, ⟨#[]⟩⟩).take q)).length = q * 5) := by show _ = _; rw [insVals_len, List.length_take, List.length_set, Nat.min_eq_left (by omega)]
  have hw3 : Below w.heap.size w (((w.alloc (.cells #[Value.slice A1 c.routines.length n1, .slice A2 c.records.length n2, .slice A3 c.globals.length n3, .int .i64 c.main, .slice (some ⟨g, 0, none⟩) c.instrs.length cap] 34)).alloc (.cells #[Value.int .i64 2, .int .i64 p] 46)).alloc (.cells #[Value.slice none 0 0, .slice none 0 0, .slice none 0 0, .int .i64 0, .slice none 0 0] 34)) := ((((Below.refl _ _).alloc (Nat.le_refl _) _).alloc (by simp) _).alloc (by simp; omega) _)
  have hw : Below w.heap.size w ((((w.alloc (.cells #[Value.slice A1 c.routines.length n1, .slice A2 c.records.length n2, .slice A3 c.globals.length n3, .int .i64 c.main, .slice (some ⟨g, 0, none⟩) c.instrs.length cap] 34)).alloc (.cells #[Value.int .i64 2, .int .i64 p] 46)).alloc (.cells #[Value.slice none 0 0, .slice none 0 0, .slice none 0 0, .int .i64 0, .slice none 0 0] 34)).alloc (.cells #[Value.int .i64 x.op, .int .i64 x.a, .int .i64 x.b, .int .i64 x.line, .string x.text] 79)) := hw3.alloc hw3.size _
  have ba : Blk ((((w.alloc (.cells #[Value.slice A1 c.routines.length n1, .slice A2 c.records.length n2, .slice A3 c.globals.length n3, .int .i64 c.main, .slice (some ⟨g, 0, none⟩) c.instrs.length cap] 34)).alloc (.cells #[Value.int .i64 2, .int .i64 p] 46)).alloc (.cells #[Value.slice none 0 0, .slice none 0 0, .slice none 0 0, .int .i64 0, .slice none 0 0] 34)).alloc (.cells #[Value.int .i64 x.op, .int .i64 x.a, .int .i64 x.b, .int .i64 x.line, .string x.text] 79)) w.heap.size 34 #[Value.slice A1 c.routines.length n1, .slice A2 c.records.length n2, .slice A3 c.globals.length n3, .int .i64 c.main, .slice (some ⟨g, 0, none⟩) c.instrs.length cap] := (((Blk.new w _ _).alloc _).alloc _).alloc _
  have be : Blk ((((w.alloc (.cells #[Value.slice A1 c.routines.length n1, .slice A2 c.records.length n2, .slice A3 c.globals.length n3, .int .i64 c.main, .slice (some ⟨g, 0, none⟩) c.instrs.length cap] 34)).alloc (.cells #[Value.int .i64 2, .int .i64 p] 46)).alloc (.cells #[Value.slice none 0 0, .slice none 0 0, .slice none 0 0, .int .i64 0, .slice none 0 0] 34)).alloc (.cells #[Value.int .i64 x.op, .int .i64 x.a, .int .i64 x.b, .int .i64 x.line, .string x.text] 79)) (w.heap.size + 1) 46 #[Value.int .i64 2, .int .i64 p] := ((Blk.newAt _ _ _ _ (by simp)).alloc _).alloc _
  have bz : Blk ((((w.alloc (.cells #[Value.slice A1 c.routines.length n1, .slice A2 c.records.length n2, .slice A3 c.globals.length n3, .int .i64 c.main, .slice (some ⟨g, 0, none⟩) c.instrs.length cap] 34)).alloc (.cells #[Value.int .i64 2, .int .i64 p] 46)).alloc (.cells #[Value.slice none 0 0, .slice none 0 0, .slice none 0 0, .int .i64 0, .slice none 0 0] 34)).alloc (.cells #[Value.int .i64 x.op, .int .i64 x.a, .int .i64 x.b, .int .i64 x.line, .string x.text] 79)) (w.heap.size + 2) 34 #[Value.slice none 0 0, .slice none 0 0, .slice none 0 0, .int .i64 0, .slice none 0 0] := (Blk.newAt _ _ _ _ (by simp)).alloc _
  have bx : Blk ((((w.alloc (.cells #[Value.slice A1 c.routines.length n1, .slice A2 c.records.length n2, .slice A3 c.globals.length n3, .int .i64 c.main, .slice (some ⟨g, 0, none⟩) c.instrs.length cap] 34)).alloc (.cells #[Value.int .i64 2, .int .i64 p] 46)).alloc (.cells #[Value.slice none 0 0, .slice none 0 0, .slice none 0 0, .int .i64 0, .slice none 0 0] 34)).alloc (.cells #[Value.int .i64 x.op, .int .i64 x.a, .int .i64 x.b, .int .i64 x.line, .string x.text] 79)) (w.heap.size + 3) 79 #[Value.int .i64 x.op, .int .i64 x.a, .int .i64 x.b, .int .i64 x.line, .string x.text] := Blk.newAt _ _ _ _ (by simp)
  have p0 := (hw3.cell (p := ⟨g, p * 5, none⟩) hgl).trans q0
  have p1 := (hw3.cell (p := ⟨g, p * 5 + 1, none⟩) hgl).trans q1
  have p2 := (hw3.cell (p := ⟨g, p * 5 + 2, none⟩) hgl).trans q2
  have p3 := (hw3.cell (p := ⟨g, p * 5 + 3, none⟩) hgl).trans q3
  have p4 := (hw3.cell (p := ⟨g, p * 5 + 4, none⟩) hgl).trans q4
  have HC := Lib.hid (spec_l35Close c _ p _ lo hi (h0.out.below hw hhi) (Nat.le_trans hhi hw.size) hpl hn hv)
  have HQ := Lib.hid hc
  clear h hi1 hx hmem hv hc hz hz2
  go_enter Tryz.func63, Tryz.ntmps63
  go_wp2_with fail
  refine HC.out.mono ?_; rw [HQ.out]; rintro e w4 ⟨rfl, hb⟩
  have o0 : optI (some q) = (q : Int) := rfl
  rw [o0]
  have own4 := own_later (own_later hown hw) hb
  have ba4 := ba.later hb
  have be4 := be.later hb
  have bz4 := bz.later hb
  have bx4 := bx.later hb
  have hw4 := hw.trans (hb.mono hw.size)
  clear o0 p0 p1 p2 p3 p4 q0 q1 q2 q3 q4 hw3 hb hw ba be bz bx HC
  obtain ⟨⟨u0, d0⟩, f0⟩ := own_at own4 (p * 5) (by omega)
  obtain ⟨⟨u1, d1⟩, f1⟩ := own_at own4 (p * 5 + 1) (by omega)
  obtain ⟨⟨u2, d2⟩, f2⟩ := own_at own4 (p * 5 + 2) (by omega)
  obtain ⟨⟨u3, d3⟩, f3⟩ := own_at own4 (p * 5 + 3) (by omega)
  obtain ⟨⟨u4, d4⟩, f4⟩ := own_at own4 (p * 5 + 4) (by omega)
  have cba := ba4.cell
  have cbe := be4.cell
  have cbz := bz4.cell
  have cbx := bx4.cell
  have fbz := bz4.frozen
  have lba := ba4.lt
  have lbe := be4.lt
  have lbz := bz4.lt
  have lbx := bx4.lt
  go_wp2_with fail
  have fr5 : Fr [g] w (((((w4.setCell ⟨g, p * 5, none⟩ (Value.int .i64 15)).setCell ⟨g, p * 5 + 1, none⟩ (.int .i64 ((p : Int) + 1))).setCell ⟨g, p * 5 + 2, none⟩ (.int .i64 0)).setCell ⟨g, p * 5 + 3, none⟩ (.int .i64 x.line)).setCell ⟨g, p * 5 + 4, none⟩ (.string ⟨#[]⟩)) := (((((Fr.of_below hw4).set_ (by simp) _).set_ (by simp) _).set_ (by simp) _).set_ (by simp) _).set_ (by simp) _
  have own5 : ((((((w4.setCell ⟨g, p * 5, none⟩ (Value.int .i64 15)).setCell ⟨g, p * 5 + 1, none⟩ (.int .i64 ((p : Int) + 1))).setCell ⟨g, p * 5 + 2, none⟩ (.int .i64 0)).setCell ⟨g, p * 5 + 3, none⟩ (.int .i64 x.line)).setCell ⟨g, p * 5 + 4, none⟩ (.string ⟨#[]⟩))).ownsRow 0 t 5 (.slice (some ⟨g, 0, none⟩) c.instrs.length cap) c.instrs.length (insVals (c.instrs.set p ⟨15, (p : Int) + 1, 0, x.line, ⟨#[]⟩⟩)) := by
    rw [← HA.out]
    exact (((((own4.stored _ _).1.stored _ _).1.stored _ _).1.stored _ _).1.stored _ _).1
  have ba5 : Blk (((((w4.setCell ⟨g, p * 5, none⟩ (Value.int .i64 15)).setCell ⟨g, p * 5 + 1, none⟩ (.int .i64 ((p : Int) + 1))).setCell ⟨g, p * 5 + 2, none⟩ (.int .i64 0)).setCell ⟨g, p * 5 + 3, none⟩ (.int .i64 x.line)).setCell ⟨g, p * 5 + 4, none⟩ (.string ⟨#[]⟩)) w.heap.size 34 #[Value.slice A1 c.routines.length n1, .slice A2 c.records.length n2, .slice A3 c.globals.length n3, .int .i64 c.main, .slice (some ⟨g, 0, none⟩) c.instrs.length cap] := ((((ba4.far (by simp; omega) _).far (by simp; omega) _).far (by simp; omega) _).far (by simp; omega) _).far (by simp; omega) _
  have bz5 : Blk (((((w4.setCell ⟨g, p * 5, none⟩ (Value.int .i64 15)).setCell ⟨g, p * 5 + 1, none⟩ (.int .i64 ((p : Int) + 1))).setCell ⟨g, p * 5 + 2, none⟩ (.int .i64 0)).setCell ⟨g, p * 5 + 3, none⟩ (.int .i64 x.line)).setCell ⟨g, p * 5 + 4, none⟩ (.string ⟨#[]⟩)) (w.heap.size + 2) 34 #[Value.slice none 0 0, .slice none 0 0, .slice none 0 0, .int .i64 0, .slice none 0 0] := ((((bz4.far (by simp; omega) _).far (by simp; omega) _).far (by simp; omega) _).far (by simp; omega) _).far (by simp; omega) _
  have s5 : ((((((w4.setCell ⟨g, p * 5, none⟩ (Value.int .i64 15)).setCell ⟨g, p * 5 + 1, none⟩ (.int .i64 ((p : Int) + 1))).setCell ⟨g, p * 5 + 2, none⟩ (.int .i64 0)).setCell ⟨g, p * 5 + 3, none⟩ (.int .i64 x.line)).setCell ⟨g, p * 5 + 4, none⟩ (.string ⟨#[]⟩))).heap.size = w4.heap.size := by simp [World.setCell]
  clear cba cbe cbz cbx fbz u0 d0 f0 d1 f1 d2 f2 d3 f3 d4 f4
  obtain ⟨W, hW⟩ : ∃ W, (((((w4.setCell ⟨g, p * 5, none⟩ (Value.int .i64 15)).setCell ⟨g, p * 5 + 1, none⟩ (.int .i64 ((p : Int) + 1))).setCell ⟨g, p * 5 + 2, none⟩ (.int .i64 0)).setCell ⟨g, p * 5 + 3, none⟩ (.int .i64 x.line)).setCell ⟨g, p * 5 + 4, none⟩ (.string ⟨#[]⟩)) = W := ⟨_, rfl⟩
  rw [hW] at fr5 own5 ba5 bz5 s5 ⊢
  clear hW
  have own5' := own5
  rw [HZ.out] at own5'
  have c3 := own_mid own5' HL.out (i := 3) (by omega) rfl
  obtain ⟨⟨v0, d0⟩, f0⟩ := own_at own5 (q * 5) (by omega)
  obtain ⟨⟨v1, d1⟩, f1⟩ := own_at own5 (q * 5 + 1) (by omega)
  obtain ⟨⟨v2, d2⟩, f2⟩ := own_at own5 (q * 5 + 2) (by omega)
  obtain ⟨⟨v3, d3⟩, f3⟩ := own_at own5 (q * 5 + 3) (by omega)
  obtain ⟨⟨v4, d4⟩, f4⟩ := own_at own5 (q * 5 + 4) (by omega)
  have cba := ba5.cell
  have cbz := bz5.cell
  have fbz := bz5.frozen
  have e0 : (0 : Int) ≤ (p : Int) := by omega
  have e1 : (p : Int) < (c.instrs.length : Int) := by omega
  have e2 : (0 : Int) ≤ (q : Int) := by omega
  have e3 : (q : Int) < (c.instrs.length : Int) := by omega
  go_region
  go_wp2_with fail
  refine bodyPost_ret (v := .agg #[Value.slice A1 c.routines.length n1, .slice A2 c.records.length n2, .slice A3 c.globals.length n3, .int .i64 c.main, .slice (some ⟨g, 0, none⟩) c.instrs.length cap]) ?_ rfl ⟨rfl, ?_, ?_⟩
  · simp [results, Tryz.results63, go_sem, cbz]
  · refine World.ownsRow.drew ?_
    iterate 5 refine ownsRow_setCell_other ?_ (by simp [Value.ownBlock] <;> omega) _
    rw [← HB.out]; exact (((((own5.stored _ _).1.stored _ _).1.stored _ _).1.stored _ _).1.stored _ _).1
  · refine Fr.drew ?_
    iterate 5 refine Fr.new_ ?_ (by simp <;> omega) _
    exact ((((fr5.set_ (by simp) _).set_ (by simp) _).set_ (by simp) _).set_ (by simp) _).set_ (by simp) _
end Go.Proofs.YtekobbeoaalibaaGreatDoor
end

section
namespace Go.Proofs.YtekobbeoaalibaaGreatDoor
open Go.RowKit
set_option linter.unusedVariables false

set_option maxRecDepth 100000 in
set_option maxHeartbeats 2000000 in
theorem make_thread (c : CodeT) (x y : InsT) (p q : Nat) (w : World) (lo hi : Nat) (A1 A2 A3 : Option Addr) (n1 n2 n3 g cap b : Nat) (t : TypeId) (h : SRep w lo hi CodeT.dats (.agg #[Value.slice A1 c.routines.length n1, .slice A2 c.records.length n2, .slice A3 c.globals.length n3, .int .i64 c.main, .slice (some ⟨g, 0, none⟩) c.instrs.length cap]) c) (hhi : hi ≤ w.heap.size) (hn : c.instrs.length ≤ 60000)
    (hown : w.ownsRow 0 t 5 (.slice (some ⟨g, 0, none⟩) c.instrs.length cap) c.instrs.length (insVals c.instrs)) (hb : Blk w b 34 #[Value.slice A1 c.routines.length n1, .slice A2 c.records.length n2, .slice A3 c.globals.length n3, .int .i64 c.main, .slice (some ⟨g, 0, none⟩) c.instrs.length cap]) (hbg : b ≠ g) (hx : c.instrs[p]? = some x) (hq : x.a = (q : Int)) (hy : c.instrs[q]? = some y) :
    Calls Tryz.prog 65 #[.pointer (some ⟨b, 0, none⟩), .agg #[Value.int .i64 1, .int .i64 p]] w fun e w' => e = .returned (.tuple #[]) ∧ w'.ownsRow 0 t 5 (.slice (some ⟨g, 0, none⟩) c.instrs.length cap) c.instrs.length (insVals (c.instrs.set p { x with a := y.a })) ∧ Fr [g] w w' := by
  have h0 := Lib.hid h
  have hpl : p < c.instrs.length := (List.getElem?_eq_some_iff.1 hx).1
  have hi1 := (CodeT.rows h).2.2.2
  obtain ⟨g', off', hA, hg1, hg2, hmem, -, q0, q1, q2, q3, q4⟩ := InsT.at_ hi1 hx
  injection hA with hA
  injection hA with hA1 hA2
  subst hA1 hA2
  rw [Nat.zero_add] at q0 q1 q2 q3 q4
  have hgl : g < w.heap.size := (hown.lt g rfl).2
  obtain ⟨hc1, hc2⟩ := own_cap hown
  unfold maxLen at hc2
  have hbl := hb.lt
  have hw : Below w.heap.size w (w.alloc (.cells #[Value.int .i64 1, .int .i64 p] 46)) := (Below.refl _ _).alloc (Nat.le_refl _) _
  have bb := hb.alloc (.cells #[Value.int .i64 1, .int .i64 p] 46)
  have be := Blk.new w 46 #[Value.int .i64 1, .int .i64 p]
  have hql : q < c.instrs.length := (List.getElem?_eq_some_iff.1 hy).1
  obtain ⟨g', off', hA, -, -, -, -, -, y1, -, -, -⟩ := InsT.at_ hi1 hy
  injection hA with hA
  injection hA with hA1 hA2
  subst hA1 hA2
  rw [Nat.zero_add] at y1
  have HA := Lib.hid (insVals_a hx y.a)
  rw [hq] at q1
  have ownW := own_later hown hw
  have q1' := (hw.cell (p := ⟨g, p * 5 + 1, none⟩) hgl).trans q1
  have y1' := (hw.cell (p := ⟨g, q * 5 + 1, none⟩) hgl).trans y1
  have f1 := ownW.frozenAt (p * 5 + 1)
  clear h hi1 hx hy hmem hq q0 q1 q2 q3 q4 y1
  have e0 : (0 : Int) ≤ (p : Int) := by omega
  have e1 : (p : Int) < (c.instrs.length : Int) := by omega
  have e2 : (0 : Int) ≤ (q : Int) := by omega
  have e3 : (q : Int) < (c.instrs.length : Int) := by omega
  go_enter Tryz.func65, Tryz.ntmps65
  go_wp2_with fail
  obtain ⟨W, hW⟩ : ∃ W, (w.alloc (.cells #[Value.int .i64 1, .int .i64 p] 46)) = W := ⟨_, rfl⟩
  rw [hW] at hw bb be ownW q1' y1' f1 ⊢
  clear hW hb
  have cbb := bb.cell
  have fbb := bb.frozen
  have lbb := bb.lt
  have cbe := be.cell
  have fbe := be.frozen
  have lbe := be.lt
  go_region
  go_wp2_with fail
  go_region
  go_wp2_with fail
  go_end0
  refine ⟨rfl, ?_, ?_⟩
  · rw [← HA.out]
    exact (ownW.stored _ _).1
  · exact Fr.drew (Fr.drew ((Fr.of_below hw).set_ (by simp) _))
set_option maxRecDepth 100000 in
set_option maxHeartbeats 2000000 in
theorem make_dead (c : CodeT) (x : InsT) (p : Nat) (w : World) (lo hi : Nat) (A1 A2 A3 : Option Addr) (n1 n2 n3 g cap b : Nat) (t : TypeId) (h : SRep w lo hi CodeT.dats (.agg #[Value.slice A1 c.routines.length n1, .slice A2 c.records.length n2, .slice A3 c.globals.length n3, .int .i64 c.main, .slice (some ⟨g, 0, none⟩) c.instrs.length cap]) c) (hhi : hi ≤ w.heap.size) (hn : c.instrs.length ≤ 60000)
    (hown : w.ownsRow 0 t 5 (.slice (some ⟨g, 0, none⟩) c.instrs.length cap) c.instrs.length (insVals c.instrs)) (hb : Blk w b 34 #[Value.slice A1 c.routines.length n1, .slice A2 c.records.length n2, .slice A3 c.globals.length n3, .int .i64 c.main, .slice (some ⟨g, 0, none⟩) c.instrs.length cap]) (hbg : b ≠ g) (hx : c.instrs[p]? = some x) :
    Calls Tryz.prog 65 #[.pointer (some ⟨b, 0, none⟩), .agg #[Value.int .i64 3, .int .i64 p]] w fun e w' => e = .returned (.tuple #[]) ∧ w'.ownsRow 0 t 5 (.slice (some ⟨g, 0, none⟩) c.instrs.length cap) c.instrs.length (insVals (c.instrs.set p ⟨16, 0, 0, 0, ⟨#[]⟩⟩)) ∧ Fr [g] w w' := by
  have h0 := Lib.hid h
  have hpl : p < c.instrs.length := (List.getElem?_eq_some_iff.1 hx).1
  have hi1 := (CodeT.rows h).2.2.2
  obtain ⟨g', off', hA, hg1, hg2, hmem, -, q0, q1, q2, q3, q4⟩ := InsT.at_ hi1 hx
  injection hA with hA
  injection hA with hA1 hA2
  subst hA1 hA2
  rw [Nat.zero_add] at q0 q1 q2 q3 q4
  have hgl : g < w.heap.size := (hown.lt g rfl).2
  obtain ⟨hc1, hc2⟩ := own_cap hown
  unfold maxLen at hc2
  have hbl := hb.lt
  have hw : Below w.heap.size w (w.alloc (.cells #[Value.int .i64 3, .int .i64 p] 46)) := (Below.refl _ _).alloc (Nat.le_refl _) _
  have bb := hb.alloc (.cells #[Value.int .i64 3, .int .i64 p] 46)
  have be := Blk.new w 46 #[Value.int .i64 3, .int .i64 p]
  have HA := Lib.hid (insVals_all hx ⟨16, 0, 0, 0, ⟨#[]⟩⟩)
  have ownW := own_later hown hw
  obtain ⟨⟨u0, d0⟩, f0⟩ := own_at ownW (p * 5) (by omega)
  obtain ⟨⟨u1, d1⟩, f1⟩ := own_at ownW (p * 5 + 1) (by omega)
  obtain ⟨⟨u2, d2⟩, f2⟩ := own_at ownW (p * 5 + 2) (by omega)
  obtain ⟨⟨u3, d3⟩, f3⟩ := own_at ownW (p * 5 + 3) (by omega)
  obtain ⟨⟨u4, d4⟩, f4⟩ := own_at ownW (p * 5 + 4) (by omega)
  clear h hi1 hx hmem q0 q1 q2 q3 q4
  have e0 : (0 : Int) ≤ (p : Int) := by omega
  have e1 : (p : Int) < (c.instrs.length : Int) := by omega
  go_enter Tryz.func65, Tryz.ntmps65
  go_wp2_with fail
  obtain ⟨W, hW⟩ : ∃ W, (w.alloc (.cells #[Value.int .i64 3, .int .i64 p] 46)) = W := ⟨_, rfl⟩
  rw [hW] at hw bb be ownW d0 f0 d1 f1 d2 f2 d3 f3 d4 f4 ⊢
  clear hW hb
  have cbb := bb.cell
  have fbb := bb.frozen
  have lbb := bb.lt
  have cbe := be.cell
  have fbe := be.frozen
  have lbe := be.lt
  go_region
  go_wp2_with fail
  go_end0
  refine ⟨rfl, ?_, ?_⟩
  · rw [← HA.out]
    exact (((((ownW.stored _ _).1.stored _ _).1.stored _ _).1.stored _ _).1.stored _ _).1
  · exact Fr.drew ((((((Fr.of_below hw).set_ (by simp) _).set_ (by simp) _).set_ (by simp) _).set_ (by simp) _).set_ (by simp) _)
set_option maxRecDepth 100000 in
set_option maxHeartbeats 2000000 in
theorem make_unmark (c : CodeT) (x z : InsT) (p q : Nat) (w : World) (lo hi : Nat) (A1 A2 A3 : Option Addr) (n1 n2 n3 g cap b : Nat) (t : TypeId) (h : SRep w lo hi CodeT.dats (.agg #[Value.slice A1 c.routines.length n1, .slice A2 c.records.length n2, .slice A3 c.globals.length n3, .int .i64 c.main, .slice (some ⟨g, 0, none⟩) c.instrs.length cap]) c) (hhi : hi ≤ w.heap.size) (hn : c.instrs.length ≤ 60000)
    (hown : w.ownsRow 0 t 5 (.slice (some ⟨g, 0, none⟩) c.instrs.length cap) c.instrs.length (insVals c.instrs)) (hb : Blk w b 34 #[Value.slice A1 c.routines.length n1, .slice A2 c.records.length n2, .slice A3 c.globals.length n3, .int .i64 c.main, .slice (some ⟨g, 0, none⟩) c.instrs.length cap]) (hbg : b ≠ g) (hx : c.instrs[p]? = some x) (hv : ∀ x ∈ c.instrs, InsV c.instrs.length x) (h13 : x.op = 13) (hc : closeP c.instrs p = some q) (hz : c.instrs[q]? = some z) :
    Calls Tryz.prog 65 #[.pointer (some ⟨b, 0, none⟩), .agg #[Value.int .i64 2, .int .i64 p]] w fun e w' => e = .returned (.tuple #[]) ∧ w'.ownsRow 0 t 5 (.slice (some ⟨g, 0, none⟩) c.instrs.length cap) c.instrs.length (insVals ((c.instrs.set p ⟨15, (p : Int) + 1, 0, x.line, ⟨#[]⟩⟩).set q ⟨30, 0, 0, z.line, ⟨#[]⟩⟩)) ∧ Fr [g] w w' := by
  have h0 := Lib.hid h
  have hpl : p < c.instrs.length := (List.getElem?_eq_some_iff.1 hx).1
  have hi1 := (CodeT.rows h).2.2.2
  obtain ⟨g', off', hA, hg1, hg2, hmem, -, q0, q1, q2, q3, q4⟩ := InsT.at_ hi1 hx
  injection hA with hA
  injection hA with hA1 hA2
  subst hA1 hA2
  rw [Nat.zero_add] at q0 q1 q2 q3 q4
  have hgl : g < w.heap.size := (hown.lt g rfl).2
  obtain ⟨hc1, hc2⟩ := own_cap hown
  unfold maxLen at hc2
  have hbl := hb.lt
  have hw : Below w.heap.size w (w.alloc (.cells #[Value.int .i64 2, .int .i64 p] 46)) := (Below.refl _ _).alloc (Nat.le_refl _) _
  have bb := hb.alloc (.cells #[Value.int .i64 2, .int .i64 p] 46)
  have be := Blk.new w 46 #[Value.int .i64 2, .int .i64 p]
  have hpq := close_lt hc
  obtain ⟨hpq, hql⟩ := hpq
  have hz3 : ∀ y, (c.instrs.set q y)[p]? = some x := fun y => by rw [List.getElem?_set_ne (by omega)]; exact hx
  have hsw : (c.instrs.set q ⟨30, 0, 0, z.line, ⟨#[]⟩⟩).set p ⟨15, (p : Int) + 1, 0, x.line, ⟨#[]⟩⟩ = (c.instrs.set p ⟨15, (p : Int) + 1, 0, x.line, ⟨#[]⟩⟩).set q ⟨30, 0, 0, z.line, ⟨#[]⟩⟩ := List.set_comm _ _ (by omega)
  have HA := Lib.hid (insVals_all hz ⟨30, 0, 0, z.line, ⟨#[]⟩⟩)
  have HB := Lib.hid (insVals_all (hz3 ⟨30, 0, 0, z.line, ⟨#[]⟩⟩) ⟨15, (p : Int) + 1, 0, x.line, ⟨#[]⟩⟩)
  have HS := Lib.hid hsw
  have HX := Lib.hid (insVals_at (hz3 ⟨30, 0, 0, z.line, ⟨#[]⟩⟩))
  have HL : Hid ((insVals ((c.instrs.set q ⟨30, 0, 0, z.line, ⟨#[]⟩⟩).take p)).length = p * 5) := by show _ = _; rw [insVals_len, List.length_take, List.length_set, Nat.min_eq_left (by omega)]
  have HU : Hid (unmarkT c.instrs noTg x p = some q) := by show _ = _; unfold unmarkT; rw [if_pos h13]; exact hc
  have HV := Lib.hid hv
  have HXX := Lib.hid hx
  obtain ⟨g', off', hA, -, -, -, -, -, -, -, z3, -⟩ := InsT.at_ hi1 hz
  injection hA with hA
  injection hA with hA1 hA2
  subst hA1 hA2
  rw [Nat.zero_add] at z3
  have ownW := own_later hown hw
  have q0' := (hw.cell (p := ⟨g, p * 5, none⟩) hgl).trans q0
  have z3' := (hw.cell (p := ⟨g, q * 5 + 3, none⟩) hgl).trans z3
  obtain ⟨i0, hi0, hz0, hz1, hz2⟩ := info_parts info_bool
  clear h hi1 hx hmem q0 q1 q2 q3 q4 hv h13 hc hz hz3 hsw z3
  have e0 : (0 : Int) ≤ (p : Int) := by omega
  have e1 : (p : Int) < (c.instrs.length : Int) := by omega
  have e2 : (0 : Int) ≤ (q : Int) := by omega
  have e3 : (q : Int) < (c.instrs.length : Int) := by omega
  go_enter Tryz.func65, Tryz.ntmps65
  go_wp2_with fail
  obtain ⟨W, hW⟩ : ∃ W, (w.alloc (.cells #[Value.int .i64 2, .int .i64 p] 46)) = W := ⟨_, rfl⟩
  rw [hW] at hw bb be ownW q0' z3' ⊢
  clear hW hb
  have cbb := bb.cell
  have fbb := bb.frozen
  have lbb := bb.lt
  have cbe := be.cell
  have fbe := be.frozen
  have lbe := be.lt
  go_region
  go_wp2_with fail
  obtain ⟨w3, hrun, hown3, hgr⟩ := run_make_full (P := Tryz.prog) W.drew.drew W.heap.size 94 4 i0 _ 1 Tryz.underlying94 hi0 hz0 hz1 .i64 .i64 c.instrs.length (by rw [hz2]; omega) (by unfold maxLen; omega) (Nat.le_refl _)
  have hown3 : w3.ownsRow W.heap.size 4 1 (.slice (some ⟨W.heap.size, 0, none⟩) c.instrs.length c.instrs.length) c.instrs.length (flags c.instrs.length noTg) := by
    have hh := hown3
    rw [Nat.mul_one] at hh
    have e9 : (madeCells #[Value.bool false] c.instrs.length).toList = flags c.instrs.length noTg := made_flags _
    rw [← e9]; exact hh
  have hrun : (Instr.makeSlice 94 (.int .i64 (c.instrs.length : Int)) (.int .i64 (c.instrs.length : Int))).run Tryz.prog W.drew.drew = .ok (.slice (some ⟨W.heap.size, 0, none⟩) c.instrs.length c.instrs.length) w3 := hrun
  have hb3 : Below W.heap.size W w3 := ((Below.refl W.heap.size W).drew.drew).trans (below_of_grown hgr (Nat.le_refl _) (fun g hg => by cases hg))
  have bb3 := bb.later hb3
  have be3 := be.later hb3
  have cb3 := bb3.cell
  have ce3 := be3.cell
  have hw3 := hw.trans (hb3.mono hw.size)
  have o0 : optI (some q) = (q : Int) := rfl
  clear hgr hi0 hz0 hz1 hz2
  go_region_held3 (fun w' => (∀ i, w'.cell? ⟨b, i, none⟩ = #[Value.slice A1 c.routines.length n1, .slice A2 c.records.length n2, .slice A3 c.globals.length n3, .int .i64 c.main, .slice (some ⟨g, 0, none⟩) c.instrs.length cap][i]?) ∧ (∀ i, w'.cell? ⟨w.heap.size, i, none⟩ = #[Value.int .i64 2, .int .i64 p][i]?))
    (first | exact ⟨cbb, cbe⟩ | exact ⟨cb3, ce3⟩ | exact ⟨(bb3.later hbA).cell, (be3.later hbA).cell⟩)
    (first
      | (go_at_call 101; refine (impl_unmarkOf c _ _ noTg x p w3 lo hi W.heap.size w3.heap.size (h0.out.below hw3 hhi) (Nat.le_trans hhi hw3.size) (Rds.of_own hown3) (Nat.le_refl _) hn HV.out HXX.out).mono ?_; rw [HU.out, o0]; rintro e wA ⟨rfl, hbA⟩))
  have hwA := hw3.trans (hbA.mono hw3.size)
  have bbA := bb3.later hbA
  have beA := be3.later hbA
  have ownA := own_later (own_later ownW hb3) hbA
  have zA := (hbA.cell (p := ⟨g, q * 5 + 3, none⟩) (Nat.lt_of_lt_of_le hgl hw3.size)).trans ((hb3.cell (p := ⟨g, q * 5 + 3, none⟩) (Nat.lt_of_lt_of_le hgl hw.size)).trans z3')
  clear cbb fbb lbb cbe fbe lbe cb3 ce3 bb3 be3 bb be hbA hb3 hown3 hrun o0 hw3 hw ownW z3' q0'
  have f0 := ownA.frozenAt (q * 5)
  have f1 := ownA.frozenAt (q * 5 + 1)
  have f2 := ownA.frozenAt (q * 5 + 2)
  have f3 := ownA.frozenAt (q * 5 + 3)
  have f4 := ownA.frozenAt (q * 5 + 4)
  obtain ⟨u0, d0⟩ := (own_at ownA (q * 5) (by omega)).1
  obtain ⟨u1, d1⟩ := (own_at ownA (q * 5 + 1) (by omega)).1
  obtain ⟨u2, d2⟩ := (own_at ownA (q * 5 + 2) (by omega)).1
  obtain ⟨u4, d4⟩ := (own_at ownA (q * 5 + 4) (by omega)).1
  have cbbA := bbA.cell
  have fbbA := bbA.frozen
  have lbbA := bbA.lt
  have cbeA := beA.cell
  have fbeA := beA.frozen
  have lbeA := beA.lt
  go_wp2_with fail
  go_region
  go_wp2_with fail
  have fr7 : Fr [g] w (((((wA.setCell ⟨g, q * 5, none⟩ (Value.int .i64 30)).setCell ⟨g, q * 5 + 1, none⟩ (.int .i64 0)).setCell ⟨g, q * 5 + 2, none⟩ (.int .i64 0)).setCell ⟨g, q * 5 + 3, none⟩ (.int .i64 z.line)).setCell ⟨g, q * 5 + 4, none⟩ (.string ⟨#[]⟩)) := (((((Fr.of_below hwA).set_ (by simp) _).set_ (by simp) _).set_ (by simp) _).set_ (by simp) _).set_ (by simp) _
  have own7 : ((((((wA.setCell ⟨g, q * 5, none⟩ (Value.int .i64 30)).setCell ⟨g, q * 5 + 1, none⟩ (.int .i64 0)).setCell ⟨g, q * 5 + 2, none⟩ (.int .i64 0)).setCell ⟨g, q * 5 + 3, none⟩ (.int .i64 z.line)).setCell ⟨g, q * 5 + 4, none⟩ (.string ⟨#[]⟩))).ownsRow 0 t 5 (.slice (some ⟨g, 0, none⟩) c.instrs.length cap) c.instrs.length (insVals (c.instrs.set q ⟨30, 0, 0, z.line, ⟨#[]⟩⟩)) := by
    rw [← HA.out]
    exact (((((ownA.stored _ _).1.stored _ _).1.stored _ _).1.stored _ _).1.stored _ _).1
  have be7 : Blk (((((wA.setCell ⟨g, q * 5, none⟩ (Value.int .i64 30)).setCell ⟨g, q * 5 + 1, none⟩ (.int .i64 0)).setCell ⟨g, q * 5 + 2, none⟩ (.int .i64 0)).setCell ⟨g, q * 5 + 3, none⟩ (.int .i64 z.line)).setCell ⟨g, q * 5 + 4, none⟩ (.string ⟨#[]⟩)) w.heap.size 46 #[Value.int .i64 2, .int .i64 p] := ((((beA.far (by simp; omega) _).far (by simp; omega) _).far (by simp; omega) _).far (by simp; omega) _).far (by simp; omega) _
  clear cbbA fbbA lbbA cbeA fbeA lbeA f0 f1 f2 f3 f4 u0 d0 u1 d1 u2 d2 u4 d4 zA
  obtain ⟨V, hV⟩ : ∃ V, (((((wA.setCell ⟨g, q * 5, none⟩ (Value.int .i64 30)).setCell ⟨g, q * 5 + 1, none⟩ (.int .i64 0)).setCell ⟨g, q * 5 + 2, none⟩ (.int .i64 0)).setCell ⟨g, q * 5 + 3, none⟩ (.int .i64 z.line)).setCell ⟨g, q * 5 + 4, none⟩ (.string ⟨#[]⟩)) = V := ⟨_, rfl⟩
  rw [hV] at fr7 own7 be7 ⊢
  clear hV
  have own7' := own7
  rw [HX.out] at own7'
  have c3 := own_mid own7' HL.out (i := 3) (by omega) rfl
  have f0 := own7.frozenAt (p * 5)
  have f1 := own7.frozenAt (p * 5 + 1)
  have f2 := own7.frozenAt (p * 5 + 2)
  have f3 := own7.frozenAt (p * 5 + 3)
  have f4 := own7.frozenAt (p * 5 + 4)
  obtain ⟨u0, d0⟩ := (own_at own7 (p * 5) (by omega)).1
  obtain ⟨u1, d1⟩ := (own_at own7 (p * 5 + 1) (by omega)).1
  obtain ⟨u2, d2⟩ := (own_at own7 (p * 5 + 2) (by omega)).1
  obtain ⟨u4, d4⟩ := (own_at own7 (p * 5 + 4) (by omega)).1
  have cbe7 := be7.cell
  have fbe7 := be7.frozen
  have lbe7 := be7.lt
  go_region
  go_wp2_with fail
  go_end0
  refine ⟨rfl, ?_, ?_⟩
  · rw [← HS.out, ← HB.out]
    exact (((((own7.stored _ _).1.stored _ _).1.stored _ _).1.stored _ _).1.stored _ _).1
  · exact Fr.drew (Fr.drew (((((fr7.set_ (by simp) _).set_ (by simp) _).set_ (by simp) _).set_ (by simp) _).set_ (by simp) _))
end Go.Proofs.YtekobbeoaalibaaGreatDoor
end

section
namespace Go.Proofs.YtekobbeoaalibaaGreatDoor
open Go.RowKit
set_option linter.unusedVariables false

def Dat.flatB : Dat → Bool
  | .row _ _ _ => false
  | _ => true
theorem RepL.ownFlat {w w' : World} {lo hi : Nat} : ∀ {ds : List Dat} {vs : List Value}, (∀ d ∈ ds, d.flatB = true) → RepL w lo hi ds vs → OwnVs w' ds [] vs
  | [], _, _, h => by rw [h.outNil]; exact .nil_
  | d :: ds, _, hd, h => by
    obtain ⟨v, vs', rfl, h1, h2⟩ := h.out
    have ht := RepL.ownFlat (w' := w') (fun d hx => hd d (by simp [hx])) h2
    have h0 := hd d (by simp)
    cases d with
    | int k n => rw [h1.int_]; exact OwnVs.cons_ (F1 := []) (F2 := []) .mkInt ht
    | str s => rw [h1.str_]; exact OwnVs.cons_ (F1 := []) (F2 := []) .mkStr ht
    | bool b => rw [h1.bool_]; exact OwnVs.cons_ (F1 := []) (F2 := []) .mkBool ht
    | row => cases h0
theorem RepL.one {w : World} {lo hi : Nat} : ∀ {ds : List Dat} {vs : List Value}, RepL w lo hi ds vs → ∀ u ∈ vs, u.oneCell' = true
  | [], _, h, u, hu => by rw [h.outNil] at hu; cases hu
  | d :: ds, _, h, u, hu => by
    obtain ⟨v, vs', rfl, h1, h2⟩ := h.out
    rcases List.mem_cons.1 hu with rfl | hu
    · cases d with
      | int k n => rw [h1.int_]; rfl
      | str s => rw [h1.str_]; rfl
      | bool b => rw [h1.bool_]; rfl
      | row => obtain ⟨A, c, rfl, -⟩ := h1.shape; rfl
    · exact RepL.one h2 u hu
theorem flat_flat {α : Type} {f : α → List Dat} (hf : ∀ c, ∀ d ∈ f c, d.flatB = true) (l : List α) : ∀ d ∈ flat f l, d.flatB = true := by
  intro d hd
  obtain ⟨c, -, hc⟩ := List.mem_flatMap.1 hd
  exact hf c d hc
/-- a row of elements without rows of their own -/
theorem OwnLR.flatRow {α : Type} {f : α → List Dat} {K : Nat} {w w' : World} {lo hi lo' hi' : Nat} {e : TypeId} {v : Value} {l : List α} {vs : List Value} (hf : ∀ c, ∀ d ∈ f c, d.flatB = true) (h : w'.ownsRow lo e K v l.length vs) (hr : RepL w lo' hi' (flat f l) vs) (hhi : w'.heap.size ≤ hi) : OwnLR w' lo hi K f v l := by
  refine ⟨_, OwnV.mkRow h (hr.ownFlat (flat_flat hf l)), ?_, fun g hv => ?_⟩
  · cases v.ownBlock <;> simp
  · have hv : v.ownBlock = some g := by simpa using hv
    have := h.lt g hv; omega
theorem CRoT.flat_ (c : CRoT) : ∀ d ∈ c.dats, d.flatB = true := by intro d hd; simp [CRoT.dats] at hd; rcases hd with rfl | rfl | rfl | rfl <;> rfl
theorem InsT.flat_ (c : InsT) : ∀ d ∈ c.dats, d.flatB = true := by intro d hd; simp [InsT.dats] at hd; rcases hd with rfl | rfl | rfl | rfl | rfl <;> rfl
theorem str_flat (c : ByteArray) : ∀ d ∈ strDats c, d.flatB = true := by intro d hd; simp [strDats] at hd; subst hd; rfl
set_option maxRecDepth 100000 in
set_option maxHeartbeats 1000000 in
theorem clone_CRo (l : List CRoT) (v : Value) (w : World) (lo hi : Nat) (h : LRep w lo hi 4 CRoT.dats v l) (hhi : hi ≤ w.heap.size) (hl : l.length ≤ 1048576) :
    Calls Tryz.prog 104 #[v] w (MadeL 4 CRoT.dats l w) := by
  obtain ⟨i0, hi0, hz0, hz1, hz2⟩ := info_parts info_CRoT
  obtain ⟨A, cap, rfl, hc1, hc2⟩ := h.shape
  unfold maxLen at hc2
  obtain ⟨vs, hv, hvs⟩ := Rep.row_ h
  have q22 : ∀ (w : World) (a : Option Addr) (n c n' c' : Nat), (binOp .eql 30 (.slice a n c) (.slice none n' c')).run Tryz.prog w = .ok (.bool a.isNone) w := fun w a n c n' c' => Lib.run_eql_slice_nil w _ _ a n c n' c' Tryz.underlying30
  rcases A with _ | ad
  · obtain ⟨h0, rfl⟩ := hv.nilCap rfl
    obtain rfl : l = [] := List.eq_nil_of_length_eq_zero h0
    clear h hv hvs
    go_enter Tryz.func104, Tryz.ntmps104
    go_wp2_with fail
    go_ret
    exact ⟨_, rfl, ⟨[], OwnV.nilRow, List.nodup_nil, by simp⟩, Below.refl _ _⟩
  · have hva := hv.alloc hhi (.cells #[] 76)
    have hone := hvs.one
    have own0 := World.ownsRow_made (base := w.heap.size) (e := 76) (size := 4) w #[] 0 (Nat.le_refl _) (by unfold maxLen; omega) rfl
    have hwa : Below w.heap.size w (w.alloc (.cells #[] 76)) := (Below.refl _ _).alloc (Nat.le_refl _) _
    have HVS := Lib.hid (And.intro hvs hone)
    clear h hv hvs hone
    go_enter Tryz.func104, Tryz.ntmps104
    go_wp2_with (first | (at_builtin; refine wpList_append_any _ rfl (.tmp 5) (.tmp 6) 30 rfl w.heap.size 76 i0 _ 4 40 Tryz.underlying30 hi0 hz0 hz1 hz2 rfl (by decide) _ 0 [] rfl own0 lo hi _ l.length vs rfl hva HVS.out.2 (by unfold maxLen; omega) (by omega) (by simp) ?_))
    intro v' w1 hown hg hat
    have hb := hwa.trans (below_of_grown hg (by simp) (fun g hg => by simp [Value.ownBlock] at hg; omega))
    clear hg hat
    go_wp2_with fail
    go_ret
    exact ⟨_, rfl, OwnLR.flatRow CRoT.flat_ hown HVS.out.1 (Nat.le_refl _), hb⟩
set_option maxRecDepth 100000 in
set_option maxHeartbeats 1000000 in
theorem clone_Ins (l : List InsT) (v : Value) (w : World) (lo hi : Nat) (h : LRep w lo hi 5 InsT.dats v l) (hhi : hi ≤ w.heap.size) (hl : l.length ≤ 1048576) :
    Calls Tryz.prog 107 #[v] w (MadeL 5 InsT.dats l w) := by
  obtain ⟨i0, hi0, hz0, hz1, hz2⟩ := info_parts info_InsT
  obtain ⟨A, cap, rfl, hc1, hc2⟩ := h.shape
  unfold maxLen at hc2
  obtain ⟨vs, hv, hvs⟩ := Rep.row_ h
  have q22 : ∀ (w : World) (a : Option Addr) (n c n' c' : Nat), (binOp .eql 32 (.slice a n c) (.slice none n' c')).run Tryz.prog w = .ok (.bool a.isNone) w := fun w a n c n' c' => Lib.run_eql_slice_nil w _ _ a n c n' c' Tryz.underlying32
  rcases A with _ | ad
  · obtain ⟨h0, rfl⟩ := hv.nilCap rfl
    obtain rfl : l = [] := List.eq_nil_of_length_eq_zero h0
    clear h hv hvs
    go_enter Tryz.func107, Tryz.ntmps107
    go_wp2_with fail
    go_ret
    exact ⟨_, rfl, ⟨[], OwnV.nilRow, List.nodup_nil, by simp⟩, Below.refl _ _⟩
  · have hva := hv.alloc hhi (.cells #[] 79)
    have hone := hvs.one
    have own0 := World.ownsRow_made (base := w.heap.size) (e := 79) (size := 5) w #[] 0 (Nat.le_refl _) (by unfold maxLen; omega) rfl
    have hwa : Below w.heap.size w (w.alloc (.cells #[] 79)) := (Below.refl _ _).alloc (Nat.le_refl _) _
    have HVS := Lib.hid (And.intro hvs hone)
    clear h hv hvs hone
    go_enter Tryz.func107, Tryz.ntmps107
    go_wp2_with (first | (at_builtin; refine wpList_append_any _ rfl (.tmp 5) (.tmp 6) 32 rfl w.heap.size 79 i0 _ 5 48 Tryz.underlying32 hi0 hz0 hz1 hz2 rfl (by decide) _ 0 [] rfl own0 lo hi _ l.length vs rfl hva HVS.out.2 (by unfold maxLen; omega) (by omega) (by simp) ?_))
    intro v' w1 hown hg hat
    have hb := hwa.trans (below_of_grown hg (by simp) (fun g hg => by simp [Value.ownBlock] at hg; omega))
    clear hg hat
    go_wp2_with fail
    go_ret
    exact ⟨_, rfl, OwnLR.flatRow InsT.flat_ hown HVS.out.1 (Nat.le_refl _), hb⟩
set_option maxRecDepth 100000 in
set_option maxHeartbeats 1000000 in
theorem clone_Str (l : List ByteArray) (v : Value) (w : World) (lo hi : Nat) (h : LRep w lo hi 1 strDats v l) (hhi : hi ≤ w.heap.size) (hl : l.length ≤ 1048576) :
    Calls Tryz.prog 106 #[v] w (MadeL 1 strDats l w) := by
  obtain ⟨i0, hi0, hz0, hz1, hz2⟩ := info_parts info_strs
  obtain ⟨A, cap, rfl, hc1, hc2⟩ := h.shape
  unfold maxLen at hc2
  obtain ⟨vs, hv, hvs⟩ := Rep.row_ h
  have q22 : ∀ (w : World) (a : Option Addr) (n c n' c' : Nat), (binOp .eql 24 (.slice a n c) (.slice none n' c')).run Tryz.prog w = .ok (.bool a.isNone) w := fun w a n c n' c' => Lib.run_eql_slice_nil w _ _ a n c n' c' Tryz.underlying24
  rcases A with _ | ad
  · obtain ⟨h0, rfl⟩ := hv.nilCap rfl
    obtain rfl : l = [] := List.eq_nil_of_length_eq_zero h0
    clear h hv hvs
    go_enter Tryz.func106, Tryz.ntmps106
    go_wp2_with fail
    go_ret
    exact ⟨_, rfl, ⟨[], OwnV.nilRow, List.nodup_nil, by simp⟩, Below.refl _ _⟩
  · have hva := hv.alloc hhi (.cells #[] 9)
    have hone := hvs.one
    have own0 := World.ownsRow_made (base := w.heap.size) (e := 9) (size := 1) w #[] 0 (Nat.le_refl _) (by unfold maxLen; omega) rfl
    have hwa : Below w.heap.size w (w.alloc (.cells #[] 9)) := (Below.refl _ _).alloc (Nat.le_refl _) _
    have HVS := Lib.hid (And.intro hvs hone)
    clear h hv hvs hone
    go_enter Tryz.func106, Tryz.ntmps106
    go_wp2_with (first | (at_builtin; refine wpList_append_any _ rfl (.tmp 5) (.tmp 6) 24 rfl w.heap.size 9 i0 _ 1 16 Tryz.underlying24 hi0 hz0 hz1 hz2 rfl (by decide) _ 0 [] rfl own0 lo hi _ l.length vs rfl hva HVS.out.2 (by unfold maxLen; omega) (by omega) (by simp) ?_))
    intro v' w1 hown hg hat
    have hb := hwa.trans (below_of_grown hg (by simp) (fun g hg => by simp [Value.ownBlock] at hg; omega))
    clear hg hat
    go_wp2_with fail
    go_ret
    exact ⟨_, rfl, OwnLR.flatRow str_flat hown HVS.out.1 (Nat.le_refl _), hb⟩
end Go.Proofs.YtekobbeoaalibaaGreatDoor
end

section
namespace Go.Proofs.YtekobbeoaalibaaGreatDoor
open Go.RowKit
set_option linter.unusedVariables false

/-- 'append([]T{}, u...)' in a region that draws: the empty row was laid just before at p -/
theorem step_clone {P : Program} {w W : World} {ops : Array Oper} {o : Oper} {a : Act} {K : Act → World → Prop} {Q : Exit → Act → World → Prop} {E : Prop} (p : Nat) (hp : p = w.heap.size) (hgd : o.guard = none) (s x : Operand) (t : TypeId)
    (ho : o.op = .call { callee := .builtin .append, args := #[s, x], argTypes := #[t, t] })
    (e : TypeId) (z : Value) (size bytes : Nat) (hinfo : (P.info? e).map (fun i => (i.zero, i.size, i.bytes)) = some (some z, size, bytes)) (ht : P.underlying t = some (.slice e)) (hzs : z.cells.size = size) (hsz : 0 < size)
    (hs : a.eval s = .slice (some ⟨p, 0, none⟩) 0 0) (hW : Same (w.alloc (.cells #[] e)) W)
    (lo hi' : Nat) (u : Value) (m : Nat) (news : List Value) (hx : a.eval x = u) (hr : Rds W lo hi' size u m news) (h1 : ∀ u ∈ news, u.oneCell' = true)
    (h63 : m ≤ maxLen) (hbytes : m * bytes ≤ 140737488355328)
    (h : ∀ v' w', w'.ownsRow w.heap.size e size v' m news → Below w.heap.size w w' → K (a.put o.dst v') w') :
    if Region.wanted o (yielded ops a.tmps) = true then Oper.wp P o a W K Q else E := by
  have hw : Region.wanted o (yielded ops a.tmps) = true := by simp [Region.wanted, hgd]
  rw [if_pos hw]
  subst hp
  obtain ⟨i0, hi0, hz0, hz1, hz2⟩ := info_parts hinfo
  have hWs : W.heap.size = w.heap.size + 1 := by rw [hW.size]; simp
  have hown := hW.own (World.ownsRow_made (base := w.heap.size) (e := e) (size := size) w #[] 0 (Nat.le_refl _) (Nat.zero_le _) (by simp))
  refine wp_append_any W s x t ho w.heap.size e i0 z size bytes ht hi0 hz0 hz1 hz2 hzs hsz _ 0 [] hs hown lo hi' u m news hx hr h1 (by omega) (by rw [Nat.zero_add]; exact hbytes) (by omega) ?_
  intro v' w' g1 g2 g3
  exact h v' w' (by simpa using g1) ((((Below.refl w.heap.size w).alloc (Nat.le_refl _) _).trans (hW.below _)).grown g2 (by omega) (fun g hg => by simp [Value.ownBlock] at hg; omega))
theorem step_push_at {P : Program} {w W : World} {ops : Array Oper} {o : Oper} {a : Act} {K : Act → World → Prop} {Q : Exit → Act → World → Prop} {E : Prop} (p : Nat) (hp : p = w.heap.size) (hgd : o.guard = none) (s x : Operand) (t : TypeId)
    (ho : o.op = .call { callee := .builtin .append, args := #[s, x], argTypes := #[t, t] })
    (e : TypeId) (z : Value) (size bytes : Nat) (hinfo : (P.info? e).map (fun i => (i.zero, i.size, i.bytes)) = some (some z, size, bytes)) (ht : P.underlying t = some (.slice e)) (hzs : z.cells.size = size) (hsz : 0 < size) (hby : 0 < bytes)
    (base : Nat) (v : Value) (n : Nat) (xs : List Value) (hs : a.eval s = v) (hown : w.ownsRow base e size v n xs)
    (cs : Array Value) (c : Nat) (t' : TypeId) (hx : a.eval x = .slice (some ⟨p, 0, none⟩) 1 c) (hW : Same (w.alloc (.cells cs t')) W) (hl : cs.size = size) (h1 : ∀ u ∈ cs.toList, u.oneCell' = true)
    (hroom : (n + 1) * bytes ≤ 140737488355328) (hbase : base ≤ w.heap.size)
    (h : ∀ v' w', w'.ownsRow base e size v' (n + 1) (xs ++ cs.toList) → w.grownBy w' v.ownBlock → (v'.ownBlock = v.ownBlock ∨ v'.ownBlock = some (w.heap.size + 1)) → K (a.put o.dst v') w') :
    if Region.wanted o (yielded ops a.tmps) = true then Oper.wp P o a W K Q else E := by
  subst hp
  exact step_push hgd s x t ho e z size bytes hinfo ht hzs hsz hby base v n xs hs hown cs c t' hx hW hl h1 hroom hbase h
/-- the first k record types, copied; out: v, its cells vs -/
def RecOwn (w wr : World) (l : List RecT) (k : Nat) (v : Value) (vs : List Value) : Prop :=
  ∃ F, wr.ownsRow w.heap.size 110 3 v k vs ∧ OwnVs wr (flat RecT.dats (l.take k)) F vs ∧ F.Nodup ∧ (∀ g ∈ F, w.heap.size ≤ g) ∧ (∀ g, v.ownBlock = some g → g ∉ F) ∧ Below w.heap.size w wr
section
variable {w wr w1 w2 : World} {l : List RecT} {k : Nat} {v v' v1 : Value} {vs : List Value} {c : RecT}
theorem RecOwn.bel (h : RecOwn w wr l k v vs) : Below w.heap.size w wr := by obtain ⟨F, -, -, -, -, -, h⟩ := h; exact h
theorem RecOwn.own (h : RecOwn w wr l k v vs) : wr.ownsRow w.heap.size 110 3 v k vs := by obtain ⟨F, h, -⟩ := h; exact h
theorem RecOwn.later (h : RecOwn w wr l k v vs) (hb : Below wr.heap.size wr w1) : RecOwn w w1 l k v vs := by
  obtain ⟨F, h1, h2, h3, h4, h5, h6⟩ := h
  exact ⟨F, own_later h1 hb, h2.fr (Fr.of_below (F := []) hb) (fun _ _ => by simp), h3, h4, h5, h6.trans (hb.mono h6.size)⟩
theorem RecOwn.push (h : RecOwn w wr l k v vs) (hc : l[k]? = some c) (hb : Below wr.heap.size wr w1) (hf : w1.ownsRow wr.heap.size 9 1 v1 c.fields.length (c.fields.map .string))
    (ho' : w2.ownsRow w.heap.size 110 3 v' (k + 1) (vs ++ [.string c.name, v1, .int .i64 c.line])) (hg : w1.grownBy w2 v.ownBlock) (hat : v'.ownBlock = v.ownBlock ∨ v'.ownBlock = some (w1.heap.size + 1)) : RecOwn w w2 l (k + 1) v' (vs ++ [.string c.name, v1, .int .i64 c.line]) := by
  obtain ⟨F, h1, h2, h3, h4, h5, h6⟩ := h
  have hlt := h2.lt
  have hF : ∀ b ∈ F, b < wr.heap.size := hlt
  have h2' : OwnVs w2 (flat RecT.dats (l.take k)) F vs := h2.kept fun g hgF => (hg.block g (Nat.lt_of_lt_of_le (hF g hgF) hb.size) (fun e => h5 g e.symm hgF)).trans (hb.block g (hF g hgF))
  have hne : v1.ownBlock = none ∨ v1.ownBlock ≠ v.ownBlock := by
    cases e1 : v1.ownBlock with
    | none => exact .inl rfl
    | some b => exact .inr fun e2 => by have := (hf.lt b e1).1; have := (h1.lt b e2.symm).2; omega
  have hf2 := hf.kept hg hne
  obtain ⟨G, a1, a2, a3⟩ := OwnLR.texts (lo := wr.heap.size) (hi := w2.heap.size) hf2 (Nat.le_refl _)
  have hel : OwnVs w2 c.dats G [.string c.name, v1, .int .i64 c.line] := by
    have H : OwnVs w2 [.str c.name, .row 1 c.fields.length (flat strDats c.fields), .int .i64 c.line] _ [.string c.name, v1, .int .i64 c.line] := OwnVs.cons_ .mkStr (OwnVs.cons_ a1 (OwnVs.cons_ .mkInt .nil_))
    simpa [RecT.dats] using H
  have z1 := h6.size
  have z2 := hb.size
  refine ⟨F ++ G, ho', by rw [flat_snoc hc]; exact h2'.app hel, nodup_parts (mid := wr.heap.size) h3 a2 hF (fun g hg => (a3 g hg).1), fun g hg => ?_, fun g hv hm => ?_, (h6.trans (hb.mono z1)).grown hg (by omega) (fun g hg => (h1.lt g hg).1)⟩
  · rcases List.mem_append.1 hg with hg | hg
    · exact h4 g hg
    · have := a3 g hg; omega
  · rcases List.mem_append.1 hm with hm | hm
    · rcases hat with e | e
      · exact h5 g (by rw [← e]; exact hv) hm
      · rw [e] at hv; injection hv with hv; have := hF g hm; omega
    · rcases hat with e | e
      · have h7 := (h1.lt g (by rw [← e]; exact hv)).2; have := a3 g hm; omega
      · rw [e] at hv; injection hv with hv
        have h8 := OwnV.lt (w := w1) (d := .row 1 c.fields.length (flat strDats c.fields)) (F := G) (v := v1) ?_ g hm
        · omega
        · have a0 := OwnLR.texts (lo := wr.heap.size) (hi := w1.heap.size) hf (Nat.le_refl _)
          obtain ⟨G', b1, -, -⟩ := a0
          obtain ⟨e3, u3, F1, o3, rfl, c3⟩ := a1.row_
          obtain ⟨e4, u4, F2, o4, rfl, d3⟩ := b1.row_
          have e1 : F1 = [] := c3.flatNil fun d hd => by
            obtain ⟨s, -, hs⟩ := List.mem_flatMap.1 hd
            simp [strDats] at hs; subst hs; trivial
          have e2 : F2 = [] := d3.flatNil fun d hd => by
            obtain ⟨s, -, hs⟩ := List.mem_flatMap.1 hd
            simp [strDats] at hs; subst hs; trivial
          rw [e1]; rw [e2] at b1; exact b1
theorem RecOwn.made (h : RecOwn w wr l l.length v vs) : OwnLR wr w.heap.size wr.heap.size 3 RecT.dats v l := by
  obtain ⟨F, h1, h2, h3, h4, h5, h6⟩ := h
  rw [List.take_length] at h2
  refine ⟨_, OwnV.mkRow h1 h2, List.nodup_append.2 ⟨?_, h3, fun a ha b hb e => ?_⟩, fun g hg => ?_⟩
  · cases v.ownBlock <;> simp
  · subst e; exact h5 a (by simpa using ha) hb
  · rcases List.mem_append.1 hg with hg | hg
    · exact h1.lt g (by simpa using hg)
    · exact ⟨h4 g hg, h2.lt g hg⟩
end
set_option maxRecDepth 100000 in
set_option maxHeartbeats 2000000 in
theorem impl_copyRecords (l : List RecT) (v : Value) (w : World) (lo hi : Nat) (h : LRep w lo hi 3 RecT.dats v l) (hhi : hi ≤ w.heap.size) (hl : l.length + sumOf RecT.bulk l ≤ 1048576) :
    Calls Tryz.prog 105 #[v] w (MadeL 3 RecT.dats l w) := by
  obtain ⟨A, cap, rfl, hc1, hc2⟩ := h.shape
  unfold maxLen at hc2
  have hwa : Below w.heap.size w (w.alloc (.cells #[] 110)) := (Below.refl _ _).alloc (Nat.le_refl _) _
  have own0 := World.ownsRow_made (base := w.heap.size) (e := 110) (size := 3) w #[] 0 (Nat.le_refl _) (by unfold maxLen; omega) rfl
  have hR0 : RecOwn w (w.alloc (.cells #[] 110)) l 0 (.slice (some ⟨w.heap.size, 0, none⟩) 0 0) [] := ⟨[], own0, by simp only [List.take_zero, flat_nil]; exact .nil_, List.nodup_nil, by simp, by simp, hwa⟩
  go_enter Tryz.func105, Tryz.ntmps105
  go_wp2_with fail
  go_loopw [3, 9] (fun ov i wr => ∃ (k : Nat) (vs : List Value), k ≤ l.length ∧ i = .int .i64 k ∧ RecOwn w wr l k ov vs) (fun _ i _ => l.length - (intOf i).toNat)
  case atStart => exact ⟨0, [], Nat.zero_le _, rfl, hR0⟩
  case round =>
    clear hR0 own0 hwa
    obtain ⟨k, vs, hk, rfl, hR⟩ := hrel
    obtain ⟨wo, rfl⟩ : ∃ wo : World, wo = wr := ⟨_, rfl⟩
    have hw := hR.bel
    by_cases hlt : k < l.length
    · obtain ⟨c, hc⟩ : ∃ c, l[k]? = some c := ⟨_, List.getElem?_eq_getElem hlt⟩
      obtain ⟨g, off, Af, nf, rfl, hg1, hg2, hmem, hcr, q0, q1, q2⟩ := RecT.at_ (h.below hw hhi) hc
      have hfl := RecT.rows hcr
      have hbm := sumOf_mem (b := RecT.bulk) hmem
      have hbb : c.fields.length ≤ c.bulk := by unfold RecT.bulk; omega
      have hbc : c.fields.length ≤ 1048576 := by omega
      have hown := hR.own
      have hiw : hi ≤ wo.heap.size := Nat.le_trans hhi hw.size
      have bw : Below wo.heap.size wo (wo.alloc (.cells #[Value.string c.name, .slice Af c.fields.length nf, .int .i64 c.line] 110)) := (Below.refl _ _).alloc (Nat.le_refl _) _
      have hrf := LRep.rds.1 ((hfl.alloc hiw (.cells #[Value.string c.name, .slice Af c.fields.length nf, .int .i64 c.line] 110)).alloc (by simp; omega) (.cells #[] 9))
      have hone : ∀ u ∈ c.fields.map Value.string, u.oneCell' = true := by intro u hu; obtain ⟨s, -, rfl⟩ := List.mem_map.1 hu; rfl
      have hRF := Lib.hid (And.intro hrf hone)
      have bx := Blk.new wo 110 #[Value.string c.name, .slice Af c.fields.length nf, .int .i64 c.line]
      have own1 := hown.alloc (.cells #[Value.string c.name, .slice Af c.fields.length nf, .int .i64 c.line] 110)
      have hm1 : c.fields.length ≤ maxLen := by unfold maxLen; omega
      have hm2 : c.fields.length * 16 ≤ 140737488355328 := by omega
      have hm3 : (k + 1) * 48 ≤ 140737488355328 := by omega
      have hz : w.heap.size ≤ wo.heap.size := hw.size
      have HRR := Lib.hid hR
      have HC := Lib.hid hc
      have HOW := Lib.hid hown
      clear hcr hfl hbm hbb hmem hc hrf hone hR hown
      go_wp2_with fail
      have ca := bx.drew.cell
      go_region_held3 (fun w' => ∀ i, w'.cell? ⟨wo.heap.size, i, none⟩ = #[Value.string c.name, .slice Af c.fields.length nf, .int .i64 c.line][i]?)
        (first | exact ca | exact (bx.alloc _).cell | exact (bx.later hbA).cell | exact ((bx.later hbA).alloc _).cell | exact ((bx.later hbA).grown hgrow (fun e => Nat.lt_irrefl _ ((HOW.out.lt _ e.symm).2))).cell)
        (first
          | (refine step_clone (w := wo.alloc (.cells #[Value.string c.name, .slice Af c.fields.length nf, .int .i64 c.line] 110)) (wo.heap.size + 1) (by simp) rfl (.tmp 16) (.tmp 18) 24 rfl 9 _ 1 16 info_strs Tryz.underlying24 rfl (by decide) rfl ⟨rfl, rfl, rfl, rfl⟩ lo hi _ c.fields.length (c.fields.map .string) rfl (hRF.out.1.same ⟨rfl, rfl, rfl, rfl⟩) hRF.out.2 hm1 hm2 ?_; intro v1 w2 hownA hbA; obtain ⟨A1, n1, rfl, -, -, -⟩ := (Rds.of_own hownA).shape)
          | (refine step_push_at (w := w2) w2.heap.size rfl rfl (.tmp 13) (.tmp 23) 31 rfl 110 _ 3 48 info_RecT Tryz.underlying31 rfl (by decide) (by decide) w.heap.size _ _ _ rfl (own_later own1 hbA) #[.string c.name, .slice A1 c.fields.length n1, .int .i64 c.line] 1 110 rfl ⟨rfl, rfl, rfl, rfl⟩ rfl (by simp [Value.oneCell']) hm3 (Nat.le_trans (Nat.le_trans hz bw.size) hbA.size) ?_; intro v' w3 hown3 hgrow hat))
      have hbW := bw.trans (hbA.mono bw.size)
      have HP := Lib.hid (HRR.out.push HC.out hbW (own_base hownA (fun g hg => Nat.le_trans (by simp) (hownA.lt g hg).1)) hown3 hgrow (by rcases hat with e | e; exact .inl e; exact .inr e))
      clear hbW hown3 hgrow hat hownA hbA ca own1 bx bw q0 q1 q2
      go_wp2_with fail
      go_roundw
      case rel => exact ⟨k + 1, _, by omega, by go_num, HP.out⟩
      case measure => simp [intOf]; omega
    · obtain rfl : k = l.length := by omega
      go_wp2_with fail
      go_ret
      exact ⟨_, rfl, hR.made, hw⟩
set_option maxRecDepth 100000 in
set_option maxHeartbeats 2000000 in
theorem spec_l13Records (l : List RecT) (v : Value) (w : World) (lo hi : Nat) (h : LRep w lo hi 3 RecT.dats v l) (hhi : hi ≤ w.heap.size) (hl : l.length + sumOf RecT.bulk l ≤ 1048576) :
    Calls Tryz.prog 103 #[v] w (MadeL 3 RecT.dats l w) := by
  obtain ⟨A, cap, rfl, hc1, hc2⟩ := h.shape
  unfold maxLen at hc2
  have hwa : Below w.heap.size w (w.alloc (.cells #[] 110)) := (Below.refl _ _).alloc (Nat.le_refl _) _
  have own0 := World.ownsRow_made (base := w.heap.size) (e := 110) (size := 3) w #[] 0 (Nat.le_refl _) (by unfold maxLen; omega) rfl
  have hR0 : RecOwn w (w.alloc (.cells #[] 110)) l 0 (.slice (some ⟨w.heap.size, 0, none⟩) 0 0) [] := ⟨[], own0, by simp only [List.take_zero, flat_nil]; exact .nil_, List.nodup_nil, by simp, by simp, hwa⟩
  go_enter Tryz.func103, Tryz.ntmps103
  go_wp2_with fail
  go_loopw [3, 4] (fun ov i wr => ∃ (k : Nat) (vs : List Value), k ≤ l.length ∧ i = .int .i64 k ∧ RecOwn w wr l k ov vs) (fun _ i _ => l.length - (intOf i).toNat)
  case atStart => exact ⟨0, [], Nat.zero_le _, rfl, hR0⟩
  case round =>
    clear hR0 own0 hwa
    obtain ⟨k, vs, hk, rfl, hR⟩ := hrel
    obtain ⟨wo, rfl⟩ : ∃ wo : World, wo = wr := ⟨_, rfl⟩
    have hw := hR.bel
    by_cases hlt : k < l.length
    · obtain ⟨c, hc⟩ : ∃ c, l[k]? = some c := ⟨_, List.getElem?_eq_getElem hlt⟩
      obtain ⟨g, off, Af, nf, rfl, hg1, hg2, hmem, hcr, q0, q1, q2⟩ := RecT.at_ (h.below hw hhi) hc
      have hfl := RecT.rows hcr
      have hbm := sumOf_mem (b := RecT.bulk) hmem
      have hbb : c.fields.length ≤ c.bulk := by unfold RecT.bulk; omega
      have hbc : c.fields.length ≤ 1048576 := by omega
      have hown := hR.own
      have hiw : hi ≤ wo.heap.size := Nat.le_trans hhi hw.size
      have hrf := LRep.rds.1 (hfl.alloc hiw (.cells #[] 9))
      have hone : ∀ u ∈ c.fields.map Value.string, u.oneCell' = true := by intro u hu; obtain ⟨s, -, rfl⟩ := List.mem_map.1 hu; rfl
      have hRF := Lib.hid (And.intro hrf hone)
      have hm1 : c.fields.length ≤ maxLen := by unfold maxLen; omega
      have hm2 : c.fields.length * 16 ≤ 140737488355328 := by omega
      have hm3 : (k + 1) * 48 ≤ 140737488355328 := by omega
      have hz : w.heap.size ≤ wo.heap.size := hw.size
      have lg : g < wo.heap.size := Nat.lt_of_lt_of_le hg2 hiw
      have e0 : (0 : Int) ≤ (k : Int) := by omega
      have e8 : (k : Int) < (l.length : Int) := by omega
      have HRR := Lib.hid hR
      have HC := Lib.hid hc
      have HOW := Lib.hid hown
      have hgw : g < w.heap.size := Nat.lt_of_lt_of_le hg2 hhi
      clear hcr hfl hbm hbb hmem hc hrf hone hR hown
      go_wp2_with fail
      go_region_held3 (fun w' => w'.cell? ⟨g, off + k * 3, none⟩ = some (.string c.name) ∧ w'.cell? ⟨g, off + k * 3 + 1, none⟩ = some (.slice Af c.fields.length nf) ∧ w'.cell? ⟨g, off + k * 3 + 2, none⟩ = some (.int .i64 c.line))
        (first | exact ⟨q0, q1, q2⟩ | exact ⟨(((Below.refl wo.heap.size wo).alloc (Nat.le_refl _) _).cell lg).trans q0, (((Below.refl wo.heap.size wo).alloc (Nat.le_refl _) _).cell lg).trans q1, (((Below.refl wo.heap.size wo).alloc (Nat.le_refl _) _).cell lg).trans q2⟩ | exact ⟨((hbA).cell lg).trans q0, ((hbA).cell lg).trans q1, ((hbA).cell lg).trans q2⟩ | exact ⟨((hbA.alloc hbA.size _).cell lg).trans q0, ((hbA.alloc hbA.size _).cell lg).trans q1, ((hbA.alloc hbA.size _).cell lg).trans q2⟩ | exact ⟨(World.cell?_of_block (hgrow.block g (Nat.lt_of_lt_of_le lg hbA.size) (fun e => by have := (HOW.out.lt _ e.symm).1; omega))).trans ((hbA.cell lg).trans q0), (World.cell?_of_block (hgrow.block g (Nat.lt_of_lt_of_le lg hbA.size) (fun e => by have := (HOW.out.lt _ e.symm).1; omega))).trans ((hbA.cell lg).trans q1), (World.cell?_of_block (hgrow.block g (Nat.lt_of_lt_of_le lg hbA.size) (fun e => by have := (HOW.out.lt _ e.symm).1; omega))).trans ((hbA.cell lg).trans q2)⟩)
        (first
          | (refine step_clone (w := wo) wo.heap.size rfl rfl (.tmp 18) (.tmp 23) 24 rfl 9 _ 1 16 info_strs Tryz.underlying24 rfl (by decide) rfl ⟨rfl, rfl, rfl, rfl⟩ lo hi _ c.fields.length (c.fields.map .string) rfl (hRF.out.1.same ⟨rfl, rfl, rfl, rfl⟩) hRF.out.2 hm1 hm2 ?_; intro v1 w2 hownA hbA; obtain ⟨A1, n1, rfl, -, -, -⟩ := (Rds.of_own hownA).shape)
          | (refine step_push_at (w := w2) w2.heap.size rfl rfl (.tmp 12) (.tmp 31) 31 rfl 110 _ 3 48 info_RecT Tryz.underlying31 rfl (by decide) (by decide) w.heap.size _ _ _ rfl (own_later HOW.out hbA) #[.string c.name, .slice A1 c.fields.length n1, .int .i64 c.line] 1 110 rfl ⟨rfl, rfl, rfl, rfl⟩ rfl (by simp [Value.oneCell']) hm3 (Nat.le_trans hz hbA.size) ?_; intro v' w3 hown3 hgrow hat))
      have HP := Lib.hid (HRR.out.push HC.out hbA hownA hown3 hgrow (by rcases hat with e | e; exact .inl e; exact .inr e))
      clear hown3 hgrow hat hownA hbA q0 q1 q2
      go_wp2_with fail
      go_roundw
      case rel => exact ⟨k + 1, _, by omega, by go_num, HP.out⟩
      case measure => simp [intOf]; omega
    · obtain rfl : k = l.length := by omega
      go_wp2_with fail
      go_ret
      exact ⟨_, rfl, hR.made, hw⟩
end Go.Proofs.YtekobbeoaalibaaGreatDoor
end

section
namespace Go.Proofs.YtekobbeoaalibaaGreatDoor
open Go.RowKit
set_option linter.unusedVariables false

set_option maxRecDepth 100000 in
set_option maxHeartbeats 2000000 in
theorem impl_copyCode (c : CodeT) (x : Value) (w : World) (lo hi : Nat) (h : SRep w lo hi CodeT.dats x c) (hhi : hi ≤ w.heap.size) (hbk : c.bulk ≤ 1048576) :
    Calls Tryz.prog 64 #[x] w (MadeS CodeT.dats c w) := by
  obtain ⟨Aroutines, nroutines, Arecords, nrecords, Aglobals, nglobals, Ainstrs, ninstrs, rfl, hroutines, uroutines, mroutines, hrecords, urecords, mrecords, hglobals, uglobals, mglobals, hinstrs, uinstrs, minstrs⟩ := CodeT.form h
  unfold CodeT.bulk at hbk
  unfold maxLen at mroutines
  unfold maxLen at mrecords
  unfold maxLen at mglobals
  unfold maxLen at minstrs
  have hw : Below w.heap.size w ((w.alloc (.cells #[Value.slice Aroutines c.routines.length nroutines, .slice Arecords c.records.length nrecords, .slice Aglobals c.globals.length nglobals, .int .i64 c.main, .slice Ainstrs c.instrs.length ninstrs] 34)).alloc (.cells #[Value.slice none 0 0, .slice none 0 0, .slice none 0 0, .int .i64 0, .slice none 0 0] 34)) := ((Below.refl _ _).alloc (Nat.le_refl _) _).alloc (by simp) _
  have ba : Blk ((w.alloc (.cells #[Value.slice Aroutines c.routines.length nroutines, .slice Arecords c.records.length nrecords, .slice Aglobals c.globals.length nglobals, .int .i64 c.main, .slice Ainstrs c.instrs.length ninstrs] 34)).alloc (.cells #[Value.slice none 0 0, .slice none 0 0, .slice none 0 0, .int .i64 0, .slice none 0 0] 34)) w.heap.size 34 #[Value.slice Aroutines c.routines.length nroutines, .slice Arecords c.records.length nrecords, .slice Aglobals c.globals.length nglobals, .int .i64 c.main, .slice Ainstrs c.instrs.length ninstrs] := ((Blk.new w _ _).alloc _)
  have bz : Blk ((w.alloc (.cells #[Value.slice Aroutines c.routines.length nroutines, .slice Arecords c.records.length nrecords, .slice Aglobals c.globals.length nglobals, .int .i64 c.main, .slice Ainstrs c.instrs.length ninstrs] 34)).alloc (.cells #[Value.slice none 0 0, .slice none 0 0, .slice none 0 0, .int .i64 0, .slice none 0 0] 34)) (w.heap.size + 1) 34 #[Value.slice none 0 0, .slice none 0 0, .slice none 0 0, .int .i64 0, .slice none 0 0] := (Blk.newAt _ _ _ _ (by simp))
  have zs : w.heap.size + 2 ≤ ((w.alloc (.cells #[Value.slice Aroutines c.routines.length nroutines, .slice Arecords c.records.length nrecords, .slice Aglobals c.globals.length nglobals, .int .i64 c.main, .slice Ainstrs c.instrs.length ninstrs] 34)).alloc (.cells #[Value.slice none 0 0, .slice none 0 0, .slice none 0 0, .int .i64 0, .slice none 0 0] 34)).heap.size := by simp
  have zq : ((w.alloc (.cells #[Value.slice Aroutines c.routines.length nroutines, .slice Arecords c.records.length nrecords, .slice Aglobals c.globals.length nglobals, .int .i64 c.main, .slice Ainstrs c.instrs.length ninstrs] 34)).alloc (.cells #[Value.slice none 0 0, .slice none 0 0, .slice none 0 0, .int .i64 0, .slice none 0 0] 34)).heap.size = w.heap.size + 2 := by simp
  go_enter Tryz.func64, Tryz.ntmps64
  have hwP := hw
  have zP := zq
  have baP := ba
  have bzP := bz
  go_wp2_with fail
  refine (clone_CRo c.routines _ _ lo hi (hroutines.below hwP hhi) (Nat.le_trans hhi hwP.size) (by omega)).mono ?_; rintro e w1 ⟨v1, rfl, r1, hb⟩
  obtain ⟨B1, m1, rfl, -, -⟩ := r1.rep.shape
  have z1 : w.heap.size + 2 ≤ w1.heap.size := by have hh := hb.size; omega
  have R1 : OwnLR w1 (w.heap.size + 2) w1.heap.size 4 CRoT.dats (.slice B1 c.routines.length m1) c.routines := r1.wide (by omega) (Nat.le_refl _)
  have hwQ := hwP.trans (hb.mono hwP.size)
  have baQ := baP.later hb
  have bzQ := bzP.later hb
  clear hw ba bz hwP baP bzP  hb r1 zP
  have hw := hwQ
  have ba := baQ
  have bz := bzQ
  clear hwQ baQ bzQ 
  have cba := ba.cell
  have fba := ba.frozen
  have lba := ba.lt
  have cbz := bz.cell
  have fbz := bz.frozen
  have lbz := bz.lt
  have hwP := hw.setCell (p := ⟨w.heap.size, 0, none⟩) (by simp) (.slice B1 c.routines.length m1)
  have baP := ba.set_ 0 (.slice B1 c.routines.length m1)
  have bzP := bz.far (p := ⟨w.heap.size, 0, none⟩) (by simp) (.slice B1 c.routines.length m1)
  have R1P := R1.setFar (p := ⟨w.heap.size, 0, none⟩) (.inl (by simp <;> omega)) (.slice B1 c.routines.length m1)
  have zP : (w1.setCell ⟨w.heap.size, 0, none⟩ (.slice B1 c.routines.length m1)).heap.size = w1.heap.size := by simp [World.setCell]
  go_wp2_with fail
  refine (impl_copyRecords c.records _ _ lo hi (hrecords.below hwP hhi) (Nat.le_trans hhi hwP.size) (by omega)).mono ?_; rintro e w2 ⟨v2, rfl, r2, hb⟩
  obtain ⟨B2, m2, rfl, -, -⟩ := r2.rep.shape
  have z2 : w1.heap.size ≤ w2.heap.size := by have hh := hb.size; omega
  have R2 : OwnLR w2 w1.heap.size w2.heap.size 3 RecT.dats (.slice B2 c.records.length m2) c.records := r2.wide (by omega) (Nat.le_refl _)
  have R1Q := R1P.below hb (by omega)
  have hwQ := hwP.trans (hb.mono hwP.size)
  have baQ := baP.later hb
  have bzQ := bzP.later hb
  clear hw ba bz R1 hwP baP bzP R1P hb r2 zP cba fba lba cbz fbz lbz
  have hw := hwQ
  have ba := baQ
  have bz := bzQ
  have R1 := R1Q
  clear hwQ baQ bzQ R1Q
  have cba := ba.cell
  have fba := ba.frozen
  have lba := ba.lt
  have cbz := bz.cell
  have fbz := bz.frozen
  have lbz := bz.lt
  have hwP := hw.setCell (p := ⟨w.heap.size, 1, none⟩) (by simp) (.slice B2 c.records.length m2)
  have baP := ba.set_ 1 (.slice B2 c.records.length m2)
  have bzP := bz.far (p := ⟨w.heap.size, 1, none⟩) (by simp) (.slice B2 c.records.length m2)
  have R1P := R1.setFar (p := ⟨w.heap.size, 1, none⟩) (.inl (by simp <;> omega)) (.slice B2 c.records.length m2)
  have R2P := R2.setFar (p := ⟨w.heap.size, 1, none⟩) (.inl (by simp <;> omega)) (.slice B2 c.records.length m2)
  have zP : (w2.setCell ⟨w.heap.size, 1, none⟩ (.slice B2 c.records.length m2)).heap.size = w2.heap.size := by simp [World.setCell]
  go_wp2_with fail
  refine (clone_Str c.globals _ _ lo hi (hglobals.below hwP hhi) (Nat.le_trans hhi hwP.size) (by omega)).mono ?_; rintro e w3 ⟨v3, rfl, r3, hb⟩
  obtain ⟨B3, m3, rfl, -, -⟩ := r3.rep.shape
  have z3 : w2.heap.size ≤ w3.heap.size := by have hh := hb.size; omega
  have R3 : OwnLR w3 w2.heap.size w3.heap.size 1 strDats (.slice B3 c.globals.length m3) c.globals := r3.wide (by omega) (Nat.le_refl _)
  have R1Q := R1P.below hb (by omega)
  have R2Q := R2P.below hb (by omega)
  have hwQ := hwP.trans (hb.mono hwP.size)
  have baQ := baP.later hb
  have bzQ := bzP.later hb
  clear hw ba bz R1 R2 hwP baP bzP R1P R2P hb r3 zP cba fba lba cbz fbz lbz
  have hw := hwQ
  have ba := baQ
  have bz := bzQ
  have R1 := R1Q
  have R2 := R2Q
  clear hwQ baQ bzQ R1Q R2Q
  have cba := ba.cell
  have fba := ba.frozen
  have lba := ba.lt
  have cbz := bz.cell
  have fbz := bz.frozen
  have lbz := bz.lt
  have hwP := hw.setCell (p := ⟨w.heap.size, 2, none⟩) (by simp) (.slice B3 c.globals.length m3)
  have baP := ba.set_ 2 (.slice B3 c.globals.length m3)
  have bzP := bz.far (p := ⟨w.heap.size, 2, none⟩) (by simp) (.slice B3 c.globals.length m3)
  have R1P := R1.setFar (p := ⟨w.heap.size, 2, none⟩) (.inl (by simp <;> omega)) (.slice B3 c.globals.length m3)
  have R2P := R2.setFar (p := ⟨w.heap.size, 2, none⟩) (.inl (by simp <;> omega)) (.slice B3 c.globals.length m3)
  have R3P := R3.setFar (p := ⟨w.heap.size, 2, none⟩) (.inl (by simp <;> omega)) (.slice B3 c.globals.length m3)
  have zP : (w3.setCell ⟨w.heap.size, 2, none⟩ (.slice B3 c.globals.length m3)).heap.size = w3.heap.size := by simp [World.setCell]
  go_wp2_with fail
  refine (clone_Ins c.instrs _ _ lo hi (hinstrs.below hwP hhi) (Nat.le_trans hhi hwP.size) (by omega)).mono ?_; rintro e w4 ⟨v4, rfl, r4, hb⟩
  obtain ⟨B4, m4, rfl, -, -⟩ := r4.rep.shape
  have z4 : w3.heap.size ≤ w4.heap.size := by have hh := hb.size; omega
  have R4 : OwnLR w4 w3.heap.size w4.heap.size 5 InsT.dats (.slice B4 c.instrs.length m4) c.instrs := r4.wide (by omega) (Nat.le_refl _)
  have R1Q := R1P.below hb (by omega)
  have R2Q := R2P.below hb (by omega)
  have R3Q := R3P.below hb (by omega)
  have hwQ := hwP.trans (hb.mono hwP.size)
  have baQ := baP.later hb
  have bzQ := bzP.later hb
  clear hw ba bz R1 R2 R3 hwP baP bzP R1P R2P R3P hb r4 zP cba fba lba cbz fbz lbz
  have hw := hwQ
  have ba := baQ
  have bz := bzQ
  have R1 := R1Q
  have R2 := R2Q
  have R3 := R3Q
  clear hwQ baQ bzQ R1Q R2Q R3Q
  have cba := ba.cell
  have fba := ba.frozen
  have lba := ba.lt
  have cbz := bz.cell
  have fbz := bz.frozen
  have lbz := bz.lt
  go_wp2_with fail
  refine bodyPost_ret (v := .agg #[Value.slice B1 c.routines.length m1, .slice B2 c.records.length m2, .slice B3 c.globals.length m3, .int .i64 c.main, .slice B4 c.instrs.length m4]) ?_ rfl ⟨[Value.slice B1 c.routines.length m1, .slice B2 c.records.length m2, .slice B3 c.globals.length m3, .int .i64 c.main, .slice B4 c.instrs.length m4], rfl, (.row_ (mid := w1.heap.size) ?_ (.row_ (mid := w2.heap.size) ?_ (.row_ (mid := w3.heap.size) ?_ (.int_ (.row_ (mid := w4.heap.size) ?_ .nil_ (by omega) (by simp [World.setCell] <;> omega))) (by omega) (by simp [World.setCell] <;> omega)) (by omega) (by simp [World.setCell] <;> omega)) (by omega) (by simp [World.setCell] <;> omega)), ?_⟩
  · simp [results, Tryz.results64, go_sem, cbz]
  · refine OwnLR.wide (lo := w.heap.size + 2) (hi := w1.heap.size) ?_ (by omega) (Nat.le_refl _)
    iterate 6 refine OwnLR.setFar ?_ (.inl (by simp <;> omega)) _
    exact R1
  · refine OwnLR.wide (lo := w1.heap.size) (hi := w2.heap.size) ?_ (by omega) (Nat.le_refl _)
    iterate 6 refine OwnLR.setFar ?_ (.inl (by simp <;> omega)) _
    exact R2
  · refine OwnLR.wide (lo := w2.heap.size) (hi := w3.heap.size) ?_ (by omega) (Nat.le_refl _)
    iterate 6 refine OwnLR.setFar ?_ (.inl (by simp <;> omega)) _
    exact R3
  · refine OwnLR.wide (lo := w3.heap.size) (hi := w4.heap.size) ?_ (by omega) (Nat.le_refl _)
    iterate 6 refine OwnLR.setFar ?_ (.inl (by simp <;> omega)) _
    exact R4
  · iterate 6 refine Below.setCell ?_ (by simp <;> omega) _
    exact hw
set_option maxRecDepth 100000 in
set_option maxHeartbeats 2000000 in
theorem spec_l31CloneCode (c : CodeT) (x : Value) (w : World) (lo hi : Nat) (h : SRep w lo hi CodeT.dats x c) (hhi : hi ≤ w.heap.size) (hbk : c.bulk ≤ 1048576) :
    Calls Tryz.prog 62 #[x] w (MadeS CodeT.dats c w) := by
  obtain ⟨Aroutines, nroutines, Arecords, nrecords, Aglobals, nglobals, Ainstrs, ninstrs, rfl, hroutines, uroutines, mroutines, hrecords, urecords, mrecords, hglobals, uglobals, mglobals, hinstrs, uinstrs, minstrs⟩ := CodeT.form h
  unfold CodeT.bulk at hbk
  unfold maxLen at mroutines
  unfold maxLen at mrecords
  unfold maxLen at mglobals
  unfold maxLen at minstrs
  have hw : Below w.heap.size w (((w.alloc (.cells #[Value.slice Aroutines c.routines.length nroutines, .slice Arecords c.records.length nrecords, .slice Aglobals c.globals.length nglobals, .int .i64 c.main, .slice Ainstrs c.instrs.length ninstrs] 34)).alloc (.cells #[Value.slice none 0 0, .slice none 0 0, .slice none 0 0, .int .i64 0, .slice none 0 0] 34)).alloc (.cells #[Value.slice Aroutines c.routines.length nroutines, .slice Arecords c.records.length nrecords, .slice Aglobals c.globals.length nglobals, .int .i64 c.main, .slice Ainstrs c.instrs.length ninstrs] 34)) := (((Below.refl _ _).alloc (Nat.le_refl _) _).alloc (by simp) _).alloc (by simp; omega) _
  have ba : Blk (((w.alloc (.cells #[Value.slice Aroutines c.routines.length nroutines, .slice Arecords c.records.length nrecords, .slice Aglobals c.globals.length nglobals, .int .i64 c.main, .slice Ainstrs c.instrs.length ninstrs] 34)).alloc (.cells #[Value.slice none 0 0, .slice none 0 0, .slice none 0 0, .int .i64 0, .slice none 0 0] 34)).alloc (.cells #[Value.slice Aroutines c.routines.length nroutines, .slice Arecords c.records.length nrecords, .slice Aglobals c.globals.length nglobals, .int .i64 c.main, .slice Ainstrs c.instrs.length ninstrs] 34)) w.heap.size 34 #[Value.slice Aroutines c.routines.length nroutines, .slice Arecords c.records.length nrecords, .slice Aglobals c.globals.length nglobals, .int .i64 c.main, .slice Ainstrs c.instrs.length ninstrs] := ((Blk.new w _ _).alloc _).alloc _
  have bz : Blk (((w.alloc (.cells #[Value.slice Aroutines c.routines.length nroutines, .slice Arecords c.records.length nrecords, .slice Aglobals c.globals.length nglobals, .int .i64 c.main, .slice Ainstrs c.instrs.length ninstrs] 34)).alloc (.cells #[Value.slice none 0 0, .slice none 0 0, .slice none 0 0, .int .i64 0, .slice none 0 0] 34)).alloc (.cells #[Value.slice Aroutines c.routines.length nroutines, .slice Arecords c.records.length nrecords, .slice Aglobals c.globals.length nglobals, .int .i64 c.main, .slice Ainstrs c.instrs.length ninstrs] 34)) (w.heap.size + 1) 34 #[Value.slice none 0 0, .slice none 0 0, .slice none 0 0, .int .i64 0, .slice none 0 0] := (Blk.newAt _ _ _ _ (by simp)).alloc _
  have bo : Blk (((w.alloc (.cells #[Value.slice Aroutines c.routines.length nroutines, .slice Arecords c.records.length nrecords, .slice Aglobals c.globals.length nglobals, .int .i64 c.main, .slice Ainstrs c.instrs.length ninstrs] 34)).alloc (.cells #[Value.slice none 0 0, .slice none 0 0, .slice none 0 0, .int .i64 0, .slice none 0 0] 34)).alloc (.cells #[Value.slice Aroutines c.routines.length nroutines, .slice Arecords c.records.length nrecords, .slice Aglobals c.globals.length nglobals, .int .i64 c.main, .slice Ainstrs c.instrs.length ninstrs] 34)) (w.heap.size + 2) 34 #[Value.slice Aroutines c.routines.length nroutines, .slice Arecords c.records.length nrecords, .slice Aglobals c.globals.length nglobals, .int .i64 c.main, .slice Ainstrs c.instrs.length ninstrs] := Blk.newAt _ _ _ _ (by simp)
  have zs : w.heap.size + 3 ≤ (((w.alloc (.cells #[Value.slice Aroutines c.routines.length nroutines, .slice Arecords c.records.length nrecords, .slice Aglobals c.globals.length nglobals, .int .i64 c.main, .slice Ainstrs c.instrs.length ninstrs] 34)).alloc (.cells #[Value.slice none 0 0, .slice none 0 0, .slice none 0 0, .int .i64 0, .slice none 0 0] 34)).alloc (.cells #[Value.slice Aroutines c.routines.length nroutines, .slice Arecords c.records.length nrecords, .slice Aglobals c.globals.length nglobals, .int .i64 c.main, .slice Ainstrs c.instrs.length ninstrs] 34)).heap.size := by simp
  have zq : (((w.alloc (.cells #[Value.slice Aroutines c.routines.length nroutines, .slice Arecords c.records.length nrecords, .slice Aglobals c.globals.length nglobals, .int .i64 c.main, .slice Ainstrs c.instrs.length ninstrs] 34)).alloc (.cells #[Value.slice none 0 0, .slice none 0 0, .slice none 0 0, .int .i64 0, .slice none 0 0] 34)).alloc (.cells #[Value.slice Aroutines c.routines.length nroutines, .slice Arecords c.records.length nrecords, .slice Aglobals c.globals.length nglobals, .int .i64 c.main, .slice Ainstrs c.instrs.length ninstrs] 34)).heap.size = w.heap.size + 3 := by simp
  go_enter Tryz.func62, Tryz.ntmps62
  have hwP := hw
  have zP := zq
  have baP := ba
  have bzP := bz
  have boP := bo
  obtain ⟨i1, hi1, hza1, hzb1, hzc1⟩ := info_parts info_CRoT
  obtain ⟨us1, hu1, hr1⟩ := Rep.row_ (hroutines.below hwP hhi)
  have hone := hr1.one
  have HH := Lib.hid (And.intro hr1 hone)
  have hlen : c.routines.length * 40 ≤ 140737488355328 := by omega
  have hlm : c.routines.length ≤ maxLen := by unfold maxLen; omega
  have hva := hu1.alloc (Nat.le_trans hhi hwP.size) (.cells #[] 76)
  have own0 := World.ownsRow_made (base := (((w.alloc (.cells #[Value.slice Aroutines c.routines.length nroutines, .slice Arecords c.records.length nrecords, .slice Aglobals c.globals.length nglobals, .int .i64 c.main, .slice Ainstrs c.instrs.length ninstrs] 34)).alloc (.cells #[Value.slice none 0 0, .slice none 0 0, .slice none 0 0, .int .i64 0, .slice none 0 0] 34)).alloc (.cells #[Value.slice Aroutines c.routines.length nroutines, .slice Arecords c.records.length nrecords, .slice Aglobals c.globals.length nglobals, .int .i64 c.main, .slice Ainstrs c.instrs.length ninstrs] 34)).heap.size) (e := 76) (size := 4) (((w.alloc (.cells #[Value.slice Aroutines c.routines.length nroutines, .slice Arecords c.records.length nrecords, .slice Aglobals c.globals.length nglobals, .int .i64 c.main, .slice Ainstrs c.instrs.length ninstrs] 34)).alloc (.cells #[Value.slice none 0 0, .slice none 0 0, .slice none 0 0, .int .i64 0, .slice none 0 0] 34)).alloc (.cells #[Value.slice Aroutines c.routines.length nroutines, .slice Arecords c.records.length nrecords, .slice Aglobals c.globals.length nglobals, .int .i64 c.main, .slice Ainstrs c.instrs.length ninstrs] 34)) #[] 0 (Nat.le_refl _) (by unfold maxLen; omega) rfl
  rw [zP] at own0
  clear hr1 hone hu1
  go_wp2_with (first | (at_builtin; refine wpList_append_any _ rfl (.tmp 5) (.tmp 7) 30 rfl _ 76 i1 _ 4 40 Tryz.underlying30 hi1 hza1 hzb1 hzc1 rfl (by decide) _ 0 [] rfl own0 lo hi _ c.routines.length us1 rfl hva HH.out.2 (by unfold maxLen; omega) (by omega) (by simp) ?_))
  intro v1 w1 hown hg hat
  have hb : Below (((w.alloc (.cells #[Value.slice Aroutines c.routines.length nroutines, .slice Arecords c.records.length nrecords, .slice Aglobals c.globals.length nglobals, .int .i64 c.main, .slice Ainstrs c.instrs.length ninstrs] 34)).alloc (.cells #[Value.slice none 0 0, .slice none 0 0, .slice none 0 0, .int .i64 0, .slice none 0 0] 34)).alloc (.cells #[Value.slice Aroutines c.routines.length nroutines, .slice Arecords c.records.length nrecords, .slice Aglobals c.globals.length nglobals, .int .i64 c.main, .slice Ainstrs c.instrs.length ninstrs] 34)).heap.size (((w.alloc (.cells #[Value.slice Aroutines c.routines.length nroutines, .slice Arecords c.records.length nrecords, .slice Aglobals c.globals.length nglobals, .int .i64 c.main, .slice Ainstrs c.instrs.length ninstrs] 34)).alloc (.cells #[Value.slice none 0 0, .slice none 0 0, .slice none 0 0, .int .i64 0, .slice none 0 0] 34)).alloc (.cells #[Value.slice Aroutines c.routines.length nroutines, .slice Arecords c.records.length nrecords, .slice Aglobals c.globals.length nglobals, .int .i64 c.main, .slice Ainstrs c.instrs.length ninstrs] 34)) w1 := ((Below.refl _ _).alloc (Nat.le_refl _) _).grown hg (by simp) (fun g hg => by simp [Value.ownBlock] at hg ⊢; omega)
  have r1 : OwnLR w1 (w.heap.size + 3) w1.heap.size 4 CRoT.dats v1 c.routines := OwnLR.flatRow CRoT.flat_ (by simpa using hown) HH.out.1 (Nat.le_refl _)
  clear hown hg hat HH own0 hva hi1 hza1 hzb1 hzc1
  obtain ⟨B1, m1, rfl, -, -⟩ := r1.rep.shape
  have z1 : w.heap.size + 3 ≤ w1.heap.size := by have hh := hb.size; omega
  have R1 : OwnLR w1 (w.heap.size + 3) w1.heap.size 4 CRoT.dats (.slice B1 c.routines.length m1) c.routines := r1.wide (by omega) (Nat.le_refl _)
  have hwQ := hwP.trans (hb.mono hwP.size)
  have baQ := baP.later hb
  have bzQ := bzP.later hb
  have boQ := boP.later hb
  clear hw ba bz bo hwP baP bzP boP  hb r1 zP
  have hw := hwQ
  have ba := baQ
  have bz := bzQ
  have bo := boQ
  clear hwQ baQ bzQ boQ 
  have cba := ba.cell
  have fba := ba.frozen
  have lba := ba.lt
  have cbz := bz.cell
  have fbz := bz.frozen
  have lbz := bz.lt
  have cbo := bo.cell
  have fbo := bo.frozen
  have lbo := bo.lt
  have hwP := hw.setCell (p := ⟨w.heap.size + 2, 0, none⟩) (by simp) (.slice B1 c.routines.length m1)
  have boP := bo.set_ 0 (.slice B1 c.routines.length m1)
  have baP := ba.far (p := ⟨w.heap.size + 2, 0, none⟩) (by simp) (.slice B1 c.routines.length m1)
  have bzP := bz.far (p := ⟨w.heap.size + 2, 0, none⟩) (by simp) (.slice B1 c.routines.length m1)
  have R1P := R1.setFar (p := ⟨w.heap.size + 2, 0, none⟩) (.inl (by simp <;> omega)) (.slice B1 c.routines.length m1)
  have zP : (w1.setCell ⟨w.heap.size + 2, 0, none⟩ (.slice B1 c.routines.length m1)).heap.size = w1.heap.size := by simp [World.setCell]
  go_wp2_with fail
  refine (spec_l13Records c.records _ _ lo hi (hrecords.below hwP hhi) (Nat.le_trans hhi hwP.size) (by omega)).mono ?_; rintro e w2 ⟨v2, rfl, r2, hb⟩
  obtain ⟨B2, m2, rfl, -, -⟩ := r2.rep.shape
  have z2 : w1.heap.size ≤ w2.heap.size := by have hh := hb.size; omega
  have R2 : OwnLR w2 w1.heap.size w2.heap.size 3 RecT.dats (.slice B2 c.records.length m2) c.records := r2.wide (by omega) (Nat.le_refl _)
  have R1Q := R1P.below hb (by omega)
  have hwQ := hwP.trans (hb.mono hwP.size)
  have baQ := baP.later hb
  have bzQ := bzP.later hb
  have boQ := boP.later hb
  clear hw ba bz bo R1 hwP baP bzP boP R1P hb r2 zP cba fba lba cbz fbz lbz cbo fbo lbo
  have hw := hwQ
  have ba := baQ
  have bz := bzQ
  have bo := boQ
  have R1 := R1Q
  clear hwQ baQ bzQ boQ R1Q
  have cba := ba.cell
  have fba := ba.frozen
  have lba := ba.lt
  have cbz := bz.cell
  have fbz := bz.frozen
  have lbz := bz.lt
  have cbo := bo.cell
  have fbo := bo.frozen
  have lbo := bo.lt
  have hwP := hw.setCell (p := ⟨w.heap.size + 2, 1, none⟩) (by simp) (.slice B2 c.records.length m2)
  have boP := bo.set_ 1 (.slice B2 c.records.length m2)
  have baP := ba.far (p := ⟨w.heap.size + 2, 1, none⟩) (by simp) (.slice B2 c.records.length m2)
  have bzP := bz.far (p := ⟨w.heap.size + 2, 1, none⟩) (by simp) (.slice B2 c.records.length m2)
  have R1P := R1.setFar (p := ⟨w.heap.size + 2, 1, none⟩) (.inl (by simp <;> omega)) (.slice B2 c.records.length m2)
  have R2P := R2.setFar (p := ⟨w.heap.size + 2, 1, none⟩) (.inl (by simp <;> omega)) (.slice B2 c.records.length m2)
  have zP : (w2.setCell ⟨w.heap.size + 2, 1, none⟩ (.slice B2 c.records.length m2)).heap.size = w2.heap.size := by simp [World.setCell]
  obtain ⟨i3, hi3, hza3, hzb3, hzc3⟩ := info_parts info_strs
  obtain ⟨us3, hu3, hr3⟩ := Rep.row_ (hglobals.below hwP hhi)
  have hone := hr3.one
  have HH := Lib.hid (And.intro hr3 hone)
  have hlen : c.globals.length * 16 ≤ 140737488355328 := by omega
  have hlm : c.globals.length ≤ maxLen := by unfold maxLen; omega
  have hva := hu3.alloc (Nat.le_trans hhi hwP.size) (.cells #[] 9)
  have own0 := World.ownsRow_made (base := (w2.setCell ⟨w.heap.size + 2, 1, none⟩ (.slice B2 c.records.length m2)).heap.size) (e := 9) (size := 1) (w2.setCell ⟨w.heap.size + 2, 1, none⟩ (.slice B2 c.records.length m2)) #[] 0 (Nat.le_refl _) (by unfold maxLen; omega) rfl
  rw [zP] at own0
  clear hr3 hone hu3
  go_wp2_with (first | (at_builtin; refine wpList_append_any _ rfl (.tmp 14) (.tmp 16) 24 rfl _ 9 i3 _ 1 16 Tryz.underlying24 hi3 hza3 hzb3 hzc3 rfl (by decide) _ 0 [] rfl own0 lo hi _ c.globals.length us3 rfl hva HH.out.2 (by unfold maxLen; omega) (by omega) (by simp) ?_))
  intro v3 w3 hown hg hat
  have hb : Below (w2.setCell ⟨w.heap.size + 2, 1, none⟩ (.slice B2 c.records.length m2)).heap.size (w2.setCell ⟨w.heap.size + 2, 1, none⟩ (.slice B2 c.records.length m2)) w3 := ((Below.refl _ _).alloc (Nat.le_refl _) _).grown hg (by simp) (fun g hg => by simp [Value.ownBlock, World.setCell] at hg ⊢; omega)
  have r3 : OwnLR w3 w2.heap.size w3.heap.size 1 strDats v3 c.globals := OwnLR.flatRow str_flat (by simpa using hown) HH.out.1 (Nat.le_refl _)
  clear hown hg hat HH own0 hva hi3 hza3 hzb3 hzc3
  obtain ⟨B3, m3, rfl, -, -⟩ := r3.rep.shape
  have z3 : w2.heap.size ≤ w3.heap.size := by have hh := hb.size; omega
  have R3 : OwnLR w3 w2.heap.size w3.heap.size 1 strDats (.slice B3 c.globals.length m3) c.globals := r3.wide (by omega) (Nat.le_refl _)
  have R1Q := R1P.below hb (by omega)
  have R2Q := R2P.below hb (by omega)
  have hwQ := hwP.trans (hb.mono hwP.size)
  have baQ := baP.later hb
  have bzQ := bzP.later hb
  have boQ := boP.later hb
  clear hw ba bz bo R1 R2 hwP baP bzP boP R1P R2P hb r3 zP cba fba lba cbz fbz lbz cbo fbo lbo
  have hw := hwQ
  have ba := baQ
  have bz := bzQ
  have bo := boQ
  have R1 := R1Q
  have R2 := R2Q
  clear hwQ baQ bzQ boQ R1Q R2Q
  have cba := ba.cell
  have fba := ba.frozen
  have lba := ba.lt
  have cbz := bz.cell
  have fbz := bz.frozen
  have lbz := bz.lt
  have cbo := bo.cell
  have fbo := bo.frozen
  have lbo := bo.lt
  have hwP := hw.setCell (p := ⟨w.heap.size + 2, 2, none⟩) (by simp) (.slice B3 c.globals.length m3)
  have boP := bo.set_ 2 (.slice B3 c.globals.length m3)
  have baP := ba.far (p := ⟨w.heap.size + 2, 2, none⟩) (by simp) (.slice B3 c.globals.length m3)
  have bzP := bz.far (p := ⟨w.heap.size + 2, 2, none⟩) (by simp) (.slice B3 c.globals.length m3)
  have R1P := R1.setFar (p := ⟨w.heap.size + 2, 2, none⟩) (.inl (by simp <;> omega)) (.slice B3 c.globals.length m3)
  have R2P := R2.setFar (p := ⟨w.heap.size + 2, 2, none⟩) (.inl (by simp <;> omega)) (.slice B3 c.globals.length m3)
  have R3P := R3.setFar (p := ⟨w.heap.size + 2, 2, none⟩) (.inl (by simp <;> omega)) (.slice B3 c.globals.length m3)
  have zP : (w3.setCell ⟨w.heap.size + 2, 2, none⟩ (.slice B3 c.globals.length m3)).heap.size = w3.heap.size := by simp [World.setCell]
  obtain ⟨i4, hi4, hza4, hzb4, hzc4⟩ := info_parts info_InsT
  obtain ⟨us4, hu4, hr4⟩ := Rep.row_ (hinstrs.below hwP hhi)
  have hone := hr4.one
  have HH := Lib.hid (And.intro hr4 hone)
  have hlen : c.instrs.length * 48 ≤ 140737488355328 := by omega
  have hlm : c.instrs.length ≤ maxLen := by unfold maxLen; omega
  have hva := hu4.alloc (Nat.le_trans hhi hwP.size) (.cells #[] 79)
  have own0 := World.ownsRow_made (base := (w3.setCell ⟨w.heap.size + 2, 2, none⟩ (.slice B3 c.globals.length m3)).heap.size) (e := 79) (size := 5) (w3.setCell ⟨w.heap.size + 2, 2, none⟩ (.slice B3 c.globals.length m3)) #[] 0 (Nat.le_refl _) (by unfold maxLen; omega) rfl
  rw [zP] at own0
  clear hr4 hone hu4
  go_wp2_with (first | (at_builtin; refine wpList_append_any _ rfl (.tmp 19) (.tmp 21) 32 rfl _ 79 i4 _ 5 48 Tryz.underlying32 hi4 hza4 hzb4 hzc4 rfl (by decide) _ 0 [] rfl own0 lo hi _ c.instrs.length us4 rfl hva HH.out.2 (by unfold maxLen; omega) (by omega) (by simp) ?_))
  intro v4 w4 hown hg hat
  have hb : Below (w3.setCell ⟨w.heap.size + 2, 2, none⟩ (.slice B3 c.globals.length m3)).heap.size (w3.setCell ⟨w.heap.size + 2, 2, none⟩ (.slice B3 c.globals.length m3)) w4 := ((Below.refl _ _).alloc (Nat.le_refl _) _).grown hg (by simp) (fun g hg => by simp [Value.ownBlock, World.setCell] at hg ⊢; omega)
  have r4 : OwnLR w4 w3.heap.size w4.heap.size 5 InsT.dats v4 c.instrs := OwnLR.flatRow InsT.flat_ (by simpa using hown) HH.out.1 (Nat.le_refl _)
  clear hown hg hat HH own0 hva hi4 hza4 hzb4 hzc4
  obtain ⟨B4, m4, rfl, -, -⟩ := r4.rep.shape
  have z4 : w3.heap.size ≤ w4.heap.size := by have hh := hb.size; omega
  have R4 : OwnLR w4 w3.heap.size w4.heap.size 5 InsT.dats (.slice B4 c.instrs.length m4) c.instrs := r4.wide (by omega) (Nat.le_refl _)
  have R1Q := R1P.below hb (by omega)
  have R2Q := R2P.below hb (by omega)
  have R3Q := R3P.below hb (by omega)
  have hwQ := hwP.trans (hb.mono hwP.size)
  have baQ := baP.later hb
  have bzQ := bzP.later hb
  have boQ := boP.later hb
  clear hw ba bz bo R1 R2 R3 hwP baP bzP boP R1P R2P R3P hb r4 zP cba fba lba cbz fbz lbz cbo fbo lbo
  have hw := hwQ
  have ba := baQ
  have bz := bzQ
  have bo := boQ
  have R1 := R1Q
  have R2 := R2Q
  have R3 := R3Q
  clear hwQ baQ bzQ boQ R1Q R2Q R3Q
  have cba := ba.cell
  have fba := ba.frozen
  have lba := ba.lt
  have cbz := bz.cell
  have fbz := bz.frozen
  have lbz := bz.lt
  have cbo := bo.cell
  have fbo := bo.frozen
  have lbo := bo.lt
  go_wp2_with fail
  refine bodyPost_ret (v := .agg #[Value.slice B1 c.routines.length m1, .slice B2 c.records.length m2, .slice B3 c.globals.length m3, .int .i64 c.main, .slice B4 c.instrs.length m4]) ?_ rfl ⟨[Value.slice B1 c.routines.length m1, .slice B2 c.records.length m2, .slice B3 c.globals.length m3, .int .i64 c.main, .slice B4 c.instrs.length m4], rfl, (.row_ (mid := w1.heap.size) ?_ (.row_ (mid := w2.heap.size) ?_ (.row_ (mid := w3.heap.size) ?_ (.int_ (.row_ (mid := w4.heap.size) ?_ .nil_ (by omega) (by simp [World.setCell] <;> omega))) (by omega) (by simp [World.setCell] <;> omega)) (by omega) (by simp [World.setCell] <;> omega)) (by omega) (by simp [World.setCell] <;> omega)), ?_⟩
  · simp [results, Tryz.results62, go_sem, cbz]
  · refine OwnLR.wide (lo := w.heap.size + 3) (hi := w1.heap.size) ?_ (by omega) (Nat.le_refl _)
    iterate 6 refine OwnLR.setFar ?_ (.inl (by simp <;> omega)) _
    exact R1
  · refine OwnLR.wide (lo := w1.heap.size) (hi := w2.heap.size) ?_ (by omega) (Nat.le_refl _)
    iterate 6 refine OwnLR.setFar ?_ (.inl (by simp <;> omega)) _
    exact R2
  · refine OwnLR.wide (lo := w2.heap.size) (hi := w3.heap.size) ?_ (by omega) (Nat.le_refl _)
    iterate 6 refine OwnLR.setFar ?_ (.inl (by simp <;> omega)) _
    exact R3
  · refine OwnLR.wide (lo := w3.heap.size) (hi := w4.heap.size) ?_ (by omega) (Nat.le_refl _)
    iterate 6 refine OwnLR.setFar ?_ (.inl (by simp <;> omega)) _
    exact R4
  · iterate 6 refine Below.setCell ?_ (by simp <;> omega) _
    exact hw
end Go.Proofs.YtekobbeoaalibaaGreatDoor
end

section
namespace Go.Proofs.YtekobbeoaalibaaGreatDoor
open Go.RowKit
set_option linter.unusedVariables false

theorem ins_own {w : World} : ∀ {l : List InsT} {F : List Nat} {vs : List Value}, OwnVs w (flat InsT.dats l) F vs → F = [] ∧ vs = insVals l
  | [], F, vs, h => h.outNil
  | x :: l, F, vs, h => by
    rw [flat_cons] at h
    obtain ⟨F1, F2, v1, v2, rfl, rfl, h1, h2⟩ := h.parts
    obtain ⟨rfl, rfl⟩ := InsT.ownOut h1
    obtain ⟨rfl, rfl⟩ := ins_own h2
    exact ⟨rfl, rfl⟩
theorem ins_mk {w : World} : ∀ (l : List InsT), OwnVs w (flat InsT.dats l) [] (insVals l)
  | [] => .nil_
  | x :: l => by rw [flat_cons]; exact OwnVs.app (F := []) (G := []) InsT.ownIn (ins_mk l)
/-- a code of the call's own, its rows in blocks from lo on and below hi -/
def COwn (lo hi : Nat) (w : World) (c : CodeT) (A1 A2 A3 : Option Addr) (n1 n2 n3 g cap : Nat) (l : List InsT) : Prop :=
  ∃ F1 F2 F3, OwnV w (.row 4 c.routines.length (flat CRoT.dats c.routines)) F1 (.slice A1 c.routines.length n1) ∧ OwnV w (.row 3 c.records.length (flat RecT.dats c.records)) F2 (.slice A2 c.records.length n2) ∧ OwnV w (.row 1 c.globals.length (flat strDats c.globals)) F3 (.slice A3 c.globals.length n3) ∧
    (∃ t, w.ownsRow 0 t 5 (.slice (some ⟨g, 0, none⟩) l.length cap) l.length (insVals l)) ∧ (F1 ++ (F2 ++ (F3 ++ [g]))).Nodup ∧ ∀ b ∈ F1 ++ (F2 ++ (F3 ++ [g])), lo ≤ b ∧ b < hi
section
variable {lo hi g cap n1 n2 n3 : Nat} {w w2 : World} {c : CodeT} {A1 A2 A3 : Option Addr} {l l' : List InsT}
theorem COwn.later (h : COwn lo hi w c A1 A2 A3 n1 n2 n3 g cap l) (hb : Below w.heap.size w w2) : COwn lo hi w2 c A1 A2 A3 n1 n2 n3 g cap l := by
  obtain ⟨F1, F2, F3, h1, h2, h3, ⟨t, h4⟩, h5, h6⟩ := h
  have hf := Fr.of_below (F := []) hb
  exact ⟨F1, F2, F3, h1.fr hf (fun _ _ => by simp), h2.fr hf (fun _ _ => by simp), h3.fr hf (fun _ _ => by simp), ⟨t, own_later h4 hb⟩, h5, h6⟩
theorem COwn.ins (h : COwn lo hi w c A1 A2 A3 n1 n2 n3 g cap l) : ∃ t, w.ownsRow 0 t 5 (.slice (some ⟨g, 0, none⟩) l.length cap) l.length (insVals l) := by obtain ⟨F1, F2, F3, h1, h2, h3, h4, h5, h6⟩ := h; exact h4
theorem COwn.at_ (h : COwn lo hi w c A1 A2 A3 n1 n2 n3 g cap l) : lo ≤ g ∧ g < hi := by obtain ⟨F1, F2, F3, h1, h2, h3, h4, h5, h6⟩ := h; exact h6 g (by simp)
theorem COwn.put (h : COwn lo hi w c A1 A2 A3 n1 n2 n3 g cap l) {t : TypeId} (ho : w2.ownsRow 0 t 5 (.slice (some ⟨g, 0, none⟩) l.length cap) l.length (insVals l')) (hl : l'.length = l.length) (hf : Fr [g] w w2) : COwn lo hi w2 c A1 A2 A3 n1 n2 n3 g cap l' := by
  obtain ⟨F1, F2, F3, h1, h2, h3, h4, h5, h6⟩ := h
  have h7 := h5
  obtain ⟨d1, d2, -, h5⟩ := nodup_dis h5
  obtain ⟨e1, e2, -, h5⟩ := nodup_dis h5
  obtain ⟨k1, k2, -, -⟩ := nodup_dis h5
  refine ⟨F1, F2, F3, h1.fr hf (fun b hb hg => d1 b hb ?_), h2.fr hf (fun b hb hg => e1 b hb ?_), h3.fr hf (fun b hb hg => k1 b hb hg), ⟨t, ?_⟩, h7, h6⟩
  · rw [List.mem_singleton.1 hg]; simp
  · rw [List.mem_singleton.1 hg]; simp
  · rw [hl]; exact ho
theorem COwn.all (h : COwn lo hi w c A1 A2 A3 n1 n2 n3 g cap l) : OwnR w lo hi ({ c with instrs := l } : CodeT).dats [.slice A1 c.routines.length n1, .slice A2 c.records.length n2, .slice A3 c.globals.length n3, .int .i64 c.main, .slice (some ⟨g, 0, none⟩) l.length cap] := by
  obtain ⟨F1, F2, F3, h1, h2, h3, ⟨t, h4⟩, h5, h6⟩ := h
  have h9 : OwnV w (.row 5 l.length (flat InsT.dats l)) [g] (.slice (some ⟨g, 0, none⟩) l.length cap) := OwnV.mkRow (F := []) h4 (ins_mk l)
  exact ⟨_, CodeT.ownIn (c := { c with instrs := l }) h1 h2 h3 h9, h5, h6⟩
theorem COwn.srep (h : COwn lo hi w c A1 A2 A3 n1 n2 n3 g cap l) : SRep w lo hi CodeT.dats (.agg #[Value.slice A1 c.routines.length n1, .slice A2 c.records.length n2, .slice A3 c.globals.length n3, .int .i64 c.main, .slice (some ⟨g, 0, none⟩) l.length cap]) ({ c with instrs := l } : CodeT) := ⟨_, rfl, h.all.rep⟩
theorem COwn.of {vs : List Value} (h : OwnR w lo hi c.dats vs) (hn : 0 < c.instrs.length) : ∃ A1 A2 A3 n1 n2 n3 g cap, vs = [.slice A1 c.routines.length n1, .slice A2 c.records.length n2, .slice A3 c.globals.length n3, .int .i64 c.main, .slice (some ⟨g, 0, none⟩) c.instrs.length cap] ∧ COwn lo hi w c A1 A2 A3 n1 n2 n3 g cap c.instrs := by
  obtain ⟨F, h1, h2, h3⟩ := h
  obtain ⟨A1, n1, F1, A2, n2, F2, A3, n3, F3, A4, n4, F4, rfl, rfl, o1, o2, o3, o4⟩ := CodeT.ownOut h1
  obtain ⟨t, us, F', hw, rfl, hu⟩ := o4.row_
  obtain ⟨g, cap, hv, -⟩ := hw.form hn
  injection hv with hA _ hc
  subst hA hc
  obtain ⟨rfl, rfl⟩ := ins_own hu
  exact ⟨A1, A2, A3, n1, n2, n3, g, _, rfl, F1, F2, F3, o1, o2, o3, ⟨t, hw⟩, h2, h3⟩
end
theorem apply_len (l : List InsT) (k : Int) (p : Nat) (x : InsT) : (applyI l k p x).length = l.length := by
  unfold applyI
  split
  · split <;> simp
  · split
    · split
      · split <;> simp
      · rfl
    · simp
theorem apply_text {l : List InsT} {k : Int} {p : Nat} {x : InsT} (hx : l[p]? = some x) (h : ∀ y ∈ l, y.text.size ≤ 1048576) : ∀ y ∈ applyI l k p x, y.text.size ≤ 1048576 := by
  have hxt := h x (List.mem_of_getElem? hx)
  intro y hy
  unfold applyI at hy
  split at hy
  · split at hy
    · rcases List.mem_or_eq_of_mem_set hy with hy | rfl
      · exact h y hy
      · exact hxt
    · exact h y hy
  · split at hy
    · split at hy
      · split at hy
        · rcases List.mem_or_eq_of_mem_set hy with hy | rfl
          · rcases List.mem_or_eq_of_mem_set hy with hy | rfl
            · exact h y hy
            · simp [ByteArray.size]
          · simp [ByteArray.size]
        · exact h y hy
      · exact h y hy
    · rcases List.mem_or_eq_of_mem_set hy with hy | rfl
      · exact h y hy
      · simp [ByteArray.size]
theorem can_of_edit {c : CodeT} {sh : List ByteArray} {k : Int} {p : Nat} {x : InsT} (hcv : CodeV c) (hx : c.instrs[p]? = some x) (h : editAt c sh k p x = true) : CanE c.instrs k p x := by
  unfold editAt at h
  by_cases k1 : k = 1
  · subst k1
    rw [if_pos rfl] at h
    unfold threadB at h
    simp only [Bool.and_eq_true, decide_eq_true_eq] at h
    obtain ⟨⟨h1, h2⟩, h3⟩ := h
    refine ⟨.inl rfl, fun _ => ⟨h2, ?_⟩, fun e => absurd e (by decide)⟩
    unfold gotoB at h3
    cases hy : c.instrs[x.a.toNat]? with
    | none => rw [hy] at h3; cases h3
    | some y => have := (List.getElem?_eq_some_iff.1 hy).1; omega
  · rw [if_neg k1] at h
    by_cases k2 : k = 2
    · subst k2
      rw [if_pos rfl] at h
      unfold unmarkB at h
      simp only [Bool.and_eq_true, decide_eq_true_eq] at h
      obtain ⟨h1, h2⟩ := h
      refine ⟨.inr (.inl rfl), fun e => absurd e (by decide), fun _ => ⟨h1, ?_⟩⟩
      cases hc : closeP c.instrs p with
      | none => rw [hc] at h2; cases h2
      | some e => exact ⟨e, rfl⟩
    · rw [if_neg k2] at h
      by_cases k3 : k = 3
      · exact ⟨.inr (.inr k3), fun e => absurd e k1, fun e => absurd e k2⟩
      · rw [if_neg k3] at h; cases h
/-- the edit carried out by the reference -/
theorem apply_any (c : CodeT) (l : List InsT) (x : InsT) (k : Int) (p : Nat) (w : World) (lo hi : Nat) (A1 A2 A3 : Option Addr) (n1 n2 n3 g cap : Nat) (h : COwn lo hi w c A1 A2 A3 n1 n2 n3 g cap l) (hhi : hi ≤ w.heap.size) (hn : l.length ≤ 60000) (hv : ∀ x ∈ l, InsV l.length x) (hx : l[p]? = some x) (hc : CanE l k p x) :
    Calls Tryz.prog 63 #[.agg #[Value.slice A1 c.routines.length n1, .slice A2 c.records.length n2, .slice A3 c.globals.length n3, .int .i64 c.main, .slice (some ⟨g, 0, none⟩) l.length cap], .agg #[Value.int .i64 k, .int .i64 p]] w fun e w' => e = .returned (.agg #[Value.slice A1 c.routines.length n1, .slice A2 c.records.length n2, .slice A3 c.globals.length n3, .int .i64 c.main, .slice (some ⟨g, 0, none⟩) l.length cap]) ∧ COwn lo hi w' c A1 A2 A3 n1 n2 n3 g cap (applyI l k p x) ∧ Fr [g] w w' := by
  have hs := h.srep
  obtain ⟨t, ho⟩ := h.ins
  obtain ⟨hk, h1, h2⟩ := hc
  rcases hk with rfl | rfl | rfl
  · obtain ⟨a1, a2⟩ := h1 rfl
    obtain ⟨q, hq⟩ : ∃ q : Nat, x.a = q := ⟨x.a.toNat, by omega⟩
    obtain ⟨y, hy⟩ : ∃ y, l[q]? = some y := ⟨_, List.getElem?_eq_getElem (by omega)⟩
    have e1 : applyI l 1 p x = l.set p { x with a := y.a } := by unfold applyI; rw [if_pos rfl, hq, Int.toNat_natCast, hy]
    refine (apply_thread { c with instrs := l } x y p q w lo hi A1 A2 A3 n1 n2 n3 g cap t hs hhi hn ho hx hq hy).mono ?_
    rintro e w' ⟨he, h3, h4⟩
    exact ⟨he, h.put (by rw [e1]; exact h3) (apply_len _ _ _ _) h4, h4⟩
  · obtain ⟨h13, q, hq⟩ := h2 rfl
    obtain ⟨z, hz⟩ : ∃ z, l[q]? = some z := ⟨_, List.getElem?_eq_getElem (close_lt hq).2⟩
    have e1 : applyI l 2 p x = (l.set p ⟨15, (p : Int) + 1, 0, x.line, ⟨#[]⟩⟩).set q ⟨30, 0, 0, z.line, ⟨#[]⟩⟩ := by unfold applyI; rw [if_neg (by decide), if_pos rfl, hq]; simp only []; rw [hz]
    refine (apply_unmark { c with instrs := l } x z p q w lo hi A1 A2 A3 n1 n2 n3 g cap t hs hhi hn ho hx hv hq hz).mono ?_
    rintro e w' ⟨he, h3, h4⟩
    exact ⟨he, h.put (by rw [e1]; exact h3) (apply_len _ _ _ _) h4, h4⟩
  · have e1 : applyI l 3 p x = l.set p ⟨16, 0, 0, 0, ⟨#[]⟩⟩ := by unfold applyI; rw [if_neg (by decide), if_neg (by decide)]
    refine (apply_dead { c with instrs := l } x p w lo hi A1 A2 A3 n1 n2 n3 g cap t hs hhi hn ho hx).mono ?_
    rintro e w' ⟨he, h3, h4⟩
    exact ⟨he, h.put (by rw [e1]; exact h3) (apply_len _ _ _ _) h4, h4⟩
/-- the edit carried out by the program -/
theorem make_any (c : CodeT) (l : List InsT) (x : InsT) (k : Int) (p : Nat) (w : World) (lo hi : Nat) (A1 A2 A3 : Option Addr) (n1 n2 n3 g cap b : Nat) (h : COwn lo hi w c A1 A2 A3 n1 n2 n3 g cap l) (hhi : hi ≤ w.heap.size) (hb : Blk w b 34 #[Value.slice A1 c.routines.length n1, .slice A2 c.records.length n2, .slice A3 c.globals.length n3, .int .i64 c.main, .slice (some ⟨g, 0, none⟩) l.length cap]) (hbg : b ≠ g) (hn : l.length ≤ 60000) (hv : ∀ x ∈ l, InsV l.length x) (hx : l[p]? = some x) (hc : CanE l k p x) :
    Calls Tryz.prog 65 #[.pointer (some ⟨b, 0, none⟩), .agg #[Value.int .i64 k, .int .i64 p]] w fun e w' => e = .returned (.tuple #[]) ∧ COwn lo hi w' c A1 A2 A3 n1 n2 n3 g cap (applyI l k p x) ∧ Fr [g] w w' := by
  have hs := h.srep
  obtain ⟨t, ho⟩ := h.ins
  obtain ⟨hk, h1, h2⟩ := hc
  rcases hk with rfl | rfl | rfl
  · obtain ⟨a1, a2⟩ := h1 rfl
    obtain ⟨q, hq⟩ : ∃ q : Nat, x.a = q := ⟨x.a.toNat, by omega⟩
    obtain ⟨y, hy⟩ : ∃ y, l[q]? = some y := ⟨_, List.getElem?_eq_getElem (by omega)⟩
    have e1 : applyI l 1 p x = l.set p { x with a := y.a } := by unfold applyI; rw [if_pos rfl, hq, Int.toNat_natCast, hy]
    refine (make_thread { c with instrs := l } x y p q w lo hi A1 A2 A3 n1 n2 n3 g cap b t hs hhi hn ho hb hbg hx hq hy).mono ?_
    rintro e w' ⟨he, h3, h4⟩
    exact ⟨he, h.put (by rw [e1]; exact h3) (apply_len _ _ _ _) h4, h4⟩
  · obtain ⟨h13, q, hq⟩ := h2 rfl
    obtain ⟨z, hz⟩ : ∃ z, l[q]? = some z := ⟨_, List.getElem?_eq_getElem (close_lt hq).2⟩
    have e1 : applyI l 2 p x = (l.set p ⟨15, (p : Int) + 1, 0, x.line, ⟨#[]⟩⟩).set q ⟨30, 0, 0, z.line, ⟨#[]⟩⟩ := by unfold applyI; rw [if_neg (by decide), if_pos rfl, hq]; simp only []; rw [hz]
    refine (make_unmark { c with instrs := l } x z p q w lo hi A1 A2 A3 n1 n2 n3 g cap b t hs hhi hn ho hb hbg hx hv h13 hq hz).mono ?_
    rintro e w' ⟨he, h3, h4⟩
    exact ⟨he, h.put (by rw [e1]; exact h3) (apply_len _ _ _ _) h4, h4⟩
  · have e1 : applyI l 3 p x = l.set p ⟨16, 0, 0, 0, ⟨#[]⟩⟩ := by unfold applyI; rw [if_neg (by decide), if_neg (by decide)]
    refine (make_dead { c with instrs := l } x p w lo hi A1 A2 A3 n1 n2 n3 g cap b t hs hhi hn ho hb hbg hx).mono ?_
    rintro e w' ⟨he, h3, h4⟩
    exact ⟨he, h.put (by rw [e1]; exact h3) (apply_len _ _ _ _) h4, h4⟩
/-- an edit that is accepted, carried out on the instructions l of the code c -/
def stepI (l : List InsT) (d : EditT) : List InsT := match l[d.place.toNat]? with | some x => applyI l d.kind d.place.toNat x | none => l
noncomputable def applyAll (c : CodeT) : List InsT → List EditT → Option (List InsT)
  | l, [] => some l
  | l, d :: es => if checkB { c with instrs := l } d.kind d.place = true then applyAll c (stepI l d) es else none
noncomputable def applyO (c : CodeT) (es : List EditT) : Option (List InsT) := if verB c = true then applyAll c c.instrs es else none
def zeroC : CodeT := ⟨[], [], [], 0, []⟩
noncomputable def applyC (c : CodeT) (es : List EditT) : CodeT := match applyO c es with | some l => { c with instrs := l } | none => zeroC
noncomputable def applyB (c : CodeT) (es : List EditT) : Bool := (applyO c es).isSome
/-- the code that ApplyEdits answers, of the call's own, and whether it took the edits -/
def ApplyRes (c : CodeT) (es : List EditT) (w : World) (e : Ending) (w' : World) : Prop := ∃ cs : List Value, e = .returned (.tuple #[.agg cs.toArray, .bool (applyB c es)]) ∧ OwnR w' w.heap.size w'.heap.size (applyC c es).dats cs ∧ Below w.heap.size w w'
theorem zero_own {w : World} {lo hi : Nat} : OwnR w lo hi zeroC.dats [.slice none 0 0, .slice none 0 0, .slice none 0 0, .int .i64 0, .slice none 0 0] :=
  ⟨_, CodeT.ownIn (c := zeroC) .nilRow .nilRow .nilRow .nilRow, by simp, by simp⟩
theorem apply_no {c : CodeT} {es : List EditT} (h : applyO c es = none) : applyC c es = zeroC ∧ applyB c es = false := by unfold applyC applyB; rw [h]; exact ⟨rfl, rfl⟩
theorem apply_yes {c : CodeT} {es : List EditT} {l : List InsT} (h : applyO c es = some l) : applyC c es = { c with instrs := l } ∧ applyB c es = true := by unfold applyC applyB; rw [h]; exact ⟨rfl, rfl⟩
/-- an accepted edit: where it stands, and that it can be carried out -/
theorem check_yes {c : CodeT} {k p : Int} (h : checkB c k p = true) : ∃ (q : Nat) (x : InsT), p = (q : Int) ∧ c.instrs[q]? = some x ∧ CanE c.instrs k q x ∧ CodeV c := by
  unfold checkB at h
  simp only [Bool.and_eq_true] at h
  obtain ⟨h1, h2⟩ := h
  have hcv := verC_valid h1
  unfold editB at h2
  split at h2
  · cases h2
  · cases hx : c.instrs[p.toNat]? with
    | none => rw [hx] at h2; cases h2
    | some x =>
      rw [hx] at h2
      exact ⟨p.toNat, x, by omega, hx, can_of_edit hcv hx h2, hcv⟩
theorem step_at {l : List InsT} {d : EditT} {q : Nat} {x : InsT} (hp : d.place = (q : Int)) (hx : l[q]? = some x) : stepI l d = applyI l d.kind q x := by unfold stepI; rw [hp, Int.toNat_natCast, hx]
end Go.Proofs.YtekobbeoaalibaaGreatDoor
end

section
namespace Go.Proofs.YtekobbeoaalibaaGreatDoor
open Go.RowKit
set_option linter.unusedVariables false

set_option maxRecDepth 100000 in
set_option maxHeartbeats 4000000 in
theorem impl_ApplyEdits (c : CodeT) (x v : Value) (es : List EditT) (w : World) (lo hi : Nat) (h : SRep w lo hi CodeT.dats x c) (he : LRep w lo hi 2 EditT.dats v es) (hhi : hi ≤ w.heap.size) (hst : SpaceTab w) (htx : ∀ y ∈ c.instrs, y.text.size ≤ 1048576) (hbk : c.bulk ≤ 1048576) :
    Calls Tryz.prog 31 #[x, v] w (ApplyRes c es w) := by
  have h0 := Lib.hid h
  obtain ⟨Aroutines, nroutines, Arecords, nrecords, Aglobals, nglobals, Ainstrs, ninstrs, rfl, -⟩ := CodeT.form h
  obtain ⟨Ae, ce, rfl, hce, hcm⟩ := he.shape
  unfold maxLen at hcm
  have hw1 : Below w.heap.size w ((w.alloc (.cells #[Value.slice Aroutines c.routines.length nroutines, .slice Arecords c.records.length nrecords, .slice Aglobals c.globals.length nglobals, .int .i64 c.main, .slice Ainstrs c.instrs.length ninstrs] 34)).alloc (.cells #[Value.slice none 0 0, .slice none 0 0, .slice none 0 0, .int .i64 0, .slice none 0 0] 34)) := ((Below.refl _ _).alloc (Nat.le_refl _) _).alloc (by simp) _
  have ba := (Blk.new w 34 #[Value.slice Aroutines c.routines.length nroutines, .slice Arecords c.records.length nrecords, .slice Aglobals c.globals.length nglobals, .int .i64 c.main, .slice Ainstrs c.instrs.length ninstrs]).alloc (.cells #[Value.slice none 0 0, .slice none 0 0, .slice none 0 0, .int .i64 0, .slice none 0 0] 34)
  have bz := Blk.newAt (w.alloc (.cells #[Value.slice Aroutines c.routines.length nroutines, .slice Arecords c.records.length nrecords, .slice Aglobals c.globals.length nglobals, .int .i64 c.main, .slice Ainstrs c.instrs.length ninstrs] 34)) 34 #[Value.slice none 0 0, .slice none 0 0, .slice none 0 0, .int .i64 0, .slice none 0 0] (w.heap.size + 1) (by simp)
  have HI := Lib.hid (impl_IsVerified c _ _ lo hi (h0.out.below hw1 hhi) (Nat.le_trans hhi hw1.size) (hst.below hw1 hst.2) htx)
  obtain ⟨b, hb⟩ : ∃ b, verB c = b := ⟨_, rfl⟩
  have HB := Lib.hid hb
  have HB2 : Hid ((verC c).isSome = b) := hb
  have HTX := Lib.hid htx
  have HST := Lib.hid hst
  clear h htx hb hst
  go_enter Tryz.func31, Tryz.ntmps31
  go_wp2_with fail
  refine HI.out.mono ?_; rw [HB2.out]; rintro e w2 ⟨rfl, hb⟩
  have z2 : w.heap.size + 2 ≤ w2.heap.size := by have hh := hb.size; simp at hh; omega
  have hw2 := hw1.trans (hb.mono hw1.size)
  have ba2 := ba.later hb
  have bz2 := bz.later hb
  clear hb ba bz hw1 HI
  have cba := ba2.cell
  have lba := ba2.lt
  have cbz := bz2.cell
  have fbz := bz2.frozen
  have lbz := bz2.lt
  cases b with
  | false =>
    have HN : Hid (applyO c es = none) := by show _ = _; unfold applyO; rw [HB.out]; rfl
    go_wp2_with fail
    refine bodyPost_ret (v := .tuple #[.agg #[Value.slice none 0 0, .slice none 0 0, .slice none 0 0, .int .i64 0, .slice none 0 0], .bool false]) ?_ rfl ⟨_, by rw [(apply_no HN.out).2], ?_, ?_⟩
    · simp [results, Tryz.results31, go_sem, cbz]
    · rw [(apply_no HN.out).1]; exact zero_own
    · repeat (first | exact hw2 | refine Below.setCell ?_ (by simp <;> omega) _ | refine Below.drew ?_)
  | true =>
    have hcv := verC_valid HB.out
    have hn1 := hcv.n1
    have hn2 := hcv.n2
    have HA0 : Hid (applyO c es = applyAll c c.instrs es) := by show _ = _; unfold applyO; rw [HB.out]; rfl
    clear hcv
    go_wp2_with fail
    refine (impl_copyCode c _ _ lo hi (h0.out.below hw2 hhi) (Nat.le_trans hhi hw2.size) hbk).mono ?_; rintro e w3 ⟨cs, rfl, hr, hb⟩
    obtain ⟨A1, A2, A3, n1, n2, n3, g, cap, rfl, hco⟩ := COwn.of hr hn1
    have hw3 := hw2.trans (hb.mono hw2.size)
    have bz3 := bz2.later hb
    have z3 := hb.size
    have hgb := hco.at_
    obtain ⟨hg1, hg2⟩ := hgb
    obtain ⟨hcc1, hcc2⟩ : c.instrs.length ≤ cap ∧ cap ≤ maxLen := by obtain ⟨t, ho⟩ := hco.ins; exact own_cap ho
    unfold maxLen at hcc2
    clear hb bz2 ba2 hr cba lba cbz fbz lbz
    have k4 : Below w3.heap.size w3 (w3.alloc (.cells #[Value.slice A1 c.routines.length n1, .slice A2 c.records.length n2, .slice A3 c.globals.length n3, .int .i64 c.main, .slice (some ⟨g, 0, none⟩) c.instrs.length cap] 34)) := (Below.refl _ _).alloc (Nat.le_refl _) _
    have hw4 := hw3.trans (k4.mono hw3.size)
    have bz4 := bz3.later k4
    have bo4 := Blk.new w3 34 #[Value.slice A1 c.routines.length n1, .slice A2 c.records.length n2, .slice A3 c.globals.length n3, .int .i64 c.main, .slice (some ⟨g, 0, none⟩) c.instrs.length cap]
    have hco4 := hco.later k4
    have z4 : w3.heap.size < (w3.alloc (.cells #[Value.slice A1 c.routines.length n1, .slice A2 c.records.length n2, .slice A3 c.globals.length n3, .int .i64 c.main, .slice (some ⟨g, 0, none⟩) c.instrs.length cap] 34)).heap.size := by simp
    clear hco hw3 bz3 k4
    go_wp2_with fail
    go_loopw [17] (fun i wr => ∃ (k : Nat) (l : List InsT), k ≤ es.length ∧ i = .int .i64 k ∧ l.length = c.instrs.length ∧ Hid (applyO c es = applyAll c l (es.drop k)) ∧ Hid (∀ y ∈ l, y.text.size ≤ 1048576) ∧ COwn w2.heap.size w3.heap.size wr c A1 A2 A3 n1 n2 n3 g cap l ∧ Below w.heap.size w wr ∧ Blk wr (w.heap.size + 1) 34 #[Value.slice none 0 0, .slice none 0 0, .slice none 0 0, .int .i64 0, .slice none 0 0] ∧ Blk wr w3.heap.size 34 #[Value.slice A1 c.routines.length n1, .slice A2 c.records.length n2, .slice A3 c.globals.length n3, .int .i64 c.main, .slice (some ⟨g, 0, none⟩) c.instrs.length cap] ∧ w3.heap.size < wr.heap.size) (fun i _ => es.length - (intOf i).toNat)
    case atStart => exact ⟨0, c.instrs, Nat.zero_le _, rfl, rfl, HA0, HTX.out, hco4, hw4, bz4, bo4, z4⟩
    case round =>
      clear hco4 hw4 bz4 bo4 z4
      obtain ⟨k, l, hk, rfl, hl, HA, HT, hco, hw, bz, bo, hz⟩ := hrel
      obtain ⟨wo, rfl⟩ : ∃ wo : World, wo = wr := ⟨_, rfl⟩
      have hiw : hi ≤ wo.heap.size := Nat.le_trans hhi hw.size
      by_cases hlt : k < es.length
      · obtain ⟨d, hd⟩ : ∃ d, es[k]? = some d := ⟨_, List.getElem?_eq_getElem hlt⟩
        obtain ⟨ge, off, rfl, hge1, hge2, hmem, -, q0, q1⟩ := EditT.at_ (he.below hw hhi) hd
        obtain ⟨r, hr⟩ : ∃ r, checkB { c with instrs := l } d.kind d.place = r := ⟨_, rfl⟩
        have HD : Hid (es.drop k = d :: es.drop (k + 1)) := by show _ = _; obtain ⟨h1, h2⟩ := List.getElem?_eq_some_iff.1 hd; rw [← h2]; exact List.drop_eq_getElem_cons h1
        have HR := Lib.hid hr
        have hgl : ge < wo.heap.size := Nat.lt_of_lt_of_le hge2 hiw
        clear hd hmem hr
        have bb : Below wo.heap.size wo (wo.alloc (.cells #[Value.int .i64 d.kind, .int .i64 d.place] 46)) := (Below.refl _ _).alloc (Nat.le_refl _) _
        have hs := hco.srep
        rw [hl] at hs
        have HC := Lib.hid (impl_CheckEdit { c with instrs := l } _ d.kind d.place (wo.alloc (.cells #[Value.int .i64 d.kind, .int .i64 d.place] 46)) _ _ (hs.below bb (Nat.le_of_lt hz)) (Nat.le_trans (Nat.le_of_lt hz) bb.size) (HST.out.below (hw.trans (bb.mono hw.size)) HST.out.2) HT.out)
        have bx := Blk.new wo 46 #[Value.int .i64 d.kind, .int .i64 d.place]
        have bz5 := bz.later bb
        have bo5 := bo.later bb
        have hco5 := hco.later bb
        have hw5 := hw.trans (bb.mono hw.size)
        have cbz := bz.cell
        have fbz := bz.frozen
        have lbz := bz.lt
        have cbo := bo.cell
        have lbo := bo.lt
        clear hs
        go_wp2_with fail
        refine HC.out.mono ?_; rw [HR.out]; rintro e w6 ⟨rfl, hb⟩
        have z6 : wo.heap.size < w6.heap.size := by have hh := hb.size; simp at hh; omega
        have bx6 := bx.later hb
        have bz6 := bz5.later hb
        have bo6 := bo5.later hb
        have hco6 := hco5.later hb
        have hw6 := hw5.trans (hb.mono hw5.size)
        clear bx bz5 bo5 hco5 hw5 hb bb HC cbz fbz lbz cbo lbo bz bo hco hw q0 q1
        have cbz := bz6.cell
        have fbz := bz6.frozen
        have lbz := bz6.lt
        have cbo := bo6.cell
        have lbo := bo6.lt
        have cbx := bx6.cell
        have lbx := bx6.lt
        cases r with
        | false =>
          have HN : Hid (applyO c es = none) := by show _ = _; rw [HA.out, HD.out]; simp only [applyAll]; rw [HR.out]; rfl
          go_wp2_with fail
          refine bodyPost_ret (v := .tuple #[.agg #[Value.slice none 0 0, .slice none 0 0, .slice none 0 0, .int .i64 0, .slice none 0 0], .bool false]) ?_ rfl ⟨_, by rw [(apply_no HN.out).2], ?_, ?_⟩
          · simp [results, Tryz.results31, go_sem, cbz]
          · rw [(apply_no HN.out).1]; exact zero_own
          · repeat (first | exact hw6 | refine Below.setCell ?_ (by simp <;> omega) _ | refine Below.drew ?_)
        | true =>
          obtain ⟨q, x, hp, hx, hcan, hcv⟩ := check_yes HR.out
          have HA2 : Hid (applyO c es = applyAll c (stepI l d) (es.drop (k + 1))) := by show _ = _; rw [HA.out, HD.out]; simp only [applyAll]; rw [HR.out]; rfl
          have hst2 := step_at (l := l) hp hx
          have hlen : (stepI l d).length = c.instrs.length := by rw [hst2, apply_len]; exact hl
          have HT2 : Hid (∀ y ∈ stepI l d, y.text.size ≤ 1048576) := by rw [hst2]; exact apply_text hx HT.out
          have HM := make_any c l x d.kind q w6 _ _ A1 A2 A3 n1 n2 n3 g cap w3.heap.size hco6 (by omega) (by rw [hl]; exact bo6) (by omega) (by rw [hl]; exact hn2) hcv.ins hx hcan
          rw [← hst2, ← hp] at HM
          have HMM := Lib.hid HM
          clear HM hst2 hx hcan hcv hp HA HT HD
          go_wp2_with fail
          refine HMM.out.mono ?_; rintro e w7 ⟨rfl, hco7, hf⟩
          have bz7 := bz6.fr hf (by simp; omega)
          have bo7 := bo6.fr hf (by simp; omega)
          have hw7 := hw6.trans (hf.below (B := w.heap.size) (fun b hb => by rw [List.mem_singleton.1 hb]; omega) hw6.size)
          have z7 := hf.size
          clear hf bz6 bo6 hw6 hco6 cbz fbz lbz cbo lbo cbx lbx bx6 HMM
          go_wp2_with fail
          go_roundw
          case rel => exact ⟨k + 1, stepI l d, by omega, by go_num, hlen, HA2, HT2, hco7, hw7, bz7, bo7, by omega⟩
          case measure => simp [intOf]; omega
      · obtain rfl : k = es.length := by omega
        have HY : Hid (applyO c es = some l) := by show _ = _; rw [HA.out, List.drop_length]; rfl
        have hal := hco.all
        rw [hl] at hal
        have HAL := Lib.hid hal
        have cbz := bz.cell
        have fbz := bz.frozen
        have lbz := bz.lt
        have cbo := bo.cell
        have lbo := bo.lt
        clear hal hco
        go_wp2_with fail
        refine bodyPost_ret (v := .tuple #[.agg #[Value.slice A1 c.routines.length n1, .slice A2 c.records.length n2, .slice A3 c.globals.length n3, .int .i64 c.main, .slice (some ⟨g, 0, none⟩) c.instrs.length cap], .bool true]) ?_ rfl ⟨_, by rw [(apply_yes HY.out).2], ?_, ?_⟩
        · simp [results, Tryz.results31, go_sem, cbz]
        · rw [(apply_yes HY.out).1]
          refine (OwnR.wide (lo := w2.heap.size) (hi := w3.heap.size) ?_ (by omega) (by simp [World.setCell] <;> omega))
          iterate 5 refine OwnR.setFar ?_ (.inl (by simp <;> omega)) _
          exact HAL.out.kept fun _ _ _ => rfl
        · iterate 5 refine Below.setCell ?_ (by simp <;> omega) _
          exact hw
end Go.Proofs.YtekobbeoaalibaaGreatDoor
end

section
namespace Go.Proofs.YtekobbeoaalibaaGreatDoor
open Go.RowKit
set_option linter.unusedVariables false

theorem COwn.far {lo hi g cap n1 n2 n3 : Nat} {w : World} {c : CodeT} {A1 A2 A3 : Option Addr} {l : List InsT} (h : COwn lo hi w c A1 A2 A3 n1 n2 n3 g cap l) {p : Addr} (hp : hi ≤ p.block) (u : Value) : COwn lo hi (w.setCell p u) c A1 A2 A3 n1 n2 n3 g cap l := by
  obtain ⟨F1, F2, F3, h1, h2, h3, ⟨t, h4⟩, h5, h6⟩ := h
  have hk : ∀ b, b ∈ F1 ++ (F2 ++ (F3 ++ [g])) → (w.setCell p u).heap[b]? = w.heap[b]? := fun b hb => Below.heap_setCell w p u b (by have := h6 b hb; omega)
  refine ⟨F1, F2, F3, h1.kept fun b hb => hk b (by simp [hb]), h2.kept fun b hb => hk b (by simp [hb]), h3.kept fun b hb => hk b (by simp [hb]), ⟨t, own_block h4 fun b hb => hk b ?_⟩, h5, h6⟩
  have : g = b := by simpa [Value.ownBlock] using hb
  subst this; simp
set_option maxRecDepth 100000 in
set_option maxHeartbeats 4000000 in
theorem spec_ApplyEdits (c : CodeT) (x v : Value) (es : List EditT) (w : World) (lo hi : Nat) (h : SRep w lo hi CodeT.dats x c) (he : LRep w lo hi 2 EditT.dats v es) (hhi : hi ≤ w.heap.size) (htx : ∀ y ∈ c.instrs, y.text.size ≤ 1048576) (hbk : c.bulk ≤ 1048576) :
    Calls Tryz.prog 29 #[x, v] w (ApplyRes c es w) := by
  have h0 := Lib.hid h
  obtain ⟨Aroutines, nroutines, Arecords, nrecords, Aglobals, nglobals, Ainstrs, ninstrs, rfl, -⟩ := CodeT.form h
  obtain ⟨Ae, ce, rfl, hce, hcm⟩ := he.shape
  unfold maxLen at hcm
  have hw1 : Below w.heap.size w ((w.alloc (.cells #[Value.slice Aroutines c.routines.length nroutines, .slice Arecords c.records.length nrecords, .slice Aglobals c.globals.length nglobals, .int .i64 c.main, .slice Ainstrs c.instrs.length ninstrs] 34)).alloc (.cells #[Value.slice none 0 0, .slice none 0 0, .slice none 0 0, .int .i64 0, .slice none 0 0] 34)) := ((Below.refl _ _).alloc (Nat.le_refl _) _).alloc (by simp) _
  have ba := (Blk.new w 34 #[Value.slice Aroutines c.routines.length nroutines, .slice Arecords c.records.length nrecords, .slice Aglobals c.globals.length nglobals, .int .i64 c.main, .slice Ainstrs c.instrs.length ninstrs]).alloc (.cells #[Value.slice none 0 0, .slice none 0 0, .slice none 0 0, .int .i64 0, .slice none 0 0] 34)
  have bz := Blk.newAt (w.alloc (.cells #[Value.slice Aroutines c.routines.length nroutines, .slice Arecords c.records.length nrecords, .slice Aglobals c.globals.length nglobals, .int .i64 c.main, .slice Ainstrs c.instrs.length ninstrs] 34)) 34 #[Value.slice none 0 0, .slice none 0 0, .slice none 0 0, .int .i64 0, .slice none 0 0] (w.heap.size + 1) (by simp)
  have HI := Lib.hid (spec_IsVerified c _ _ lo hi (h0.out.below hw1 hhi) (Nat.le_trans hhi hw1.size) htx)
  obtain ⟨b, hb⟩ : ∃ b, verB c = b := ⟨_, rfl⟩
  have HB := Lib.hid hb
  have HB2 : Hid ((verC c).isSome = b) := hb
  have HTX := Lib.hid htx
  clear h htx hb
  go_enter Tryz.func29, Tryz.ntmps29
  go_wp2_with fail
  refine HI.out.mono ?_; rw [HB2.out]; rintro e w2 ⟨rfl, hb⟩
  have z2 : w.heap.size + 2 ≤ w2.heap.size := by have hh := hb.size; simp at hh; omega
  have hw2 := hw1.trans (hb.mono hw1.size)
  have ba2 := ba.later hb
  have bz2 := bz.later hb
  clear hb ba bz hw1 HI
  have cba := ba2.cell
  have lba := ba2.lt
  have cbz := bz2.cell
  have fbz := bz2.frozen
  have lbz := bz2.lt
  cases b with
  | false =>
    have HN : Hid (applyO c es = none) := by show _ = _; unfold applyO; rw [HB.out]; rfl
    go_wp2_with fail
    refine bodyPost_ret (v := .tuple #[.agg #[Value.slice none 0 0, .slice none 0 0, .slice none 0 0, .int .i64 0, .slice none 0 0], .bool false]) ?_ rfl ⟨_, by rw [(apply_no HN.out).2], ?_, ?_⟩
    · simp [results, Tryz.results29, go_sem, cbz]
    · rw [(apply_no HN.out).1]; exact zero_own
    · repeat (first | exact hw2 | refine Below.setCell ?_ (by simp <;> omega) _ | refine Below.drew ?_)
  | true =>
    have hcv := verC_valid HB.out
    have hn1 := hcv.n1
    have hn2 := hcv.n2
    have HA0 : Hid (applyO c es = applyAll c c.instrs es) := by show _ = _; unfold applyO; rw [HB.out]; rfl
    clear hcv
    go_wp2_with fail
    refine (spec_l31CloneCode c _ _ lo hi (h0.out.below hw2 hhi) (Nat.le_trans hhi hw2.size) hbk).mono ?_; rintro e w3 ⟨cs, rfl, hr, hb⟩
    obtain ⟨A1, A2, A3, n1, n2, n3, g, cap, rfl, hco⟩ := COwn.of hr hn1
    have hw3 := hw2.trans (hb.mono hw2.size)
    have bz3 := bz2.later hb
    have z3 := hb.size
    have hgb := hco.at_
    obtain ⟨hg1, hg2⟩ := hgb
    obtain ⟨hcc1, hcc2⟩ : c.instrs.length ≤ cap ∧ cap ≤ maxLen := by obtain ⟨t, ho⟩ := hco.ins; exact own_cap ho
    unfold maxLen at hcc2
    clear hb bz2 ba2 hr cba lba cbz fbz lbz
    have k4 : Below w3.heap.size w3 (w3.alloc (.cells #[Value.slice A1 c.routines.length n1, .slice A2 c.records.length n2, .slice A3 c.globals.length n3, .int .i64 c.main, .slice (some ⟨g, 0, none⟩) c.instrs.length cap] 34)) := (Below.refl _ _).alloc (Nat.le_refl _) _
    have hw4 := hw3.trans (k4.mono hw3.size)
    have bz4 := bz3.later k4
    have bo4 := Blk.new w3 34 #[Value.slice A1 c.routines.length n1, .slice A2 c.records.length n2, .slice A3 c.globals.length n3, .int .i64 c.main, .slice (some ⟨g, 0, none⟩) c.instrs.length cap]
    have hco4 := hco.later k4
    have z4 : w3.heap.size < (w3.alloc (.cells #[Value.slice A1 c.routines.length n1, .slice A2 c.records.length n2, .slice A3 c.globals.length n3, .int .i64 c.main, .slice (some ⟨g, 0, none⟩) c.instrs.length cap] 34)).heap.size := by simp
    clear hco hw3 bz3 k4
    go_wp2_with fail
    go_loopw [7] (fun i wr => ∃ (k : Nat) (l : List InsT), k ≤ es.length ∧ i = .int .i64 k ∧ l.length = c.instrs.length ∧ Hid (applyO c es = applyAll c l (es.drop k)) ∧ Hid (∀ y ∈ l, y.text.size ≤ 1048576) ∧ COwn w2.heap.size w3.heap.size wr c A1 A2 A3 n1 n2 n3 g cap l ∧ Below w.heap.size w wr ∧ Blk wr (w.heap.size + 1) 34 #[Value.slice none 0 0, .slice none 0 0, .slice none 0 0, .int .i64 0, .slice none 0 0] ∧ Blk wr w3.heap.size 34 #[Value.slice A1 c.routines.length n1, .slice A2 c.records.length n2, .slice A3 c.globals.length n3, .int .i64 c.main, .slice (some ⟨g, 0, none⟩) c.instrs.length cap] ∧ w3.heap.size < wr.heap.size) (fun i _ => es.length - (intOf i).toNat)
    case atStart => exact ⟨0, c.instrs, Nat.zero_le _, rfl, rfl, HA0, HTX.out, hco4, hw4, bz4, bo4, z4⟩
    case round =>
      clear hco4 hw4 bz4 bo4 z4
      obtain ⟨k, l, hk, rfl, hl, HA, HT, hco, hw, bz, bo, hz⟩ := hrel
      obtain ⟨wo, rfl⟩ : ∃ wo : World, wo = wr := ⟨_, rfl⟩
      have hiw : hi ≤ wo.heap.size := Nat.le_trans hhi hw.size
      by_cases hlt : k < es.length
      · obtain ⟨d, hd⟩ : ∃ d, es[k]? = some d := ⟨_, List.getElem?_eq_getElem hlt⟩
        obtain ⟨ge, off, rfl, hge1, hge2, hmem, -, q0, q1⟩ := EditT.at_ (he.below hw hhi) hd
        obtain ⟨r, hr⟩ : ∃ r, checkB { c with instrs := l } d.kind d.place = r := ⟨_, rfl⟩
        have HD : Hid (es.drop k = d :: es.drop (k + 1)) := by show _ = _; obtain ⟨h1, h2⟩ := List.getElem?_eq_some_iff.1 hd; rw [← h2]; exact List.drop_eq_getElem_cons h1
        have HR := Lib.hid hr
        have hgl : ge < wo.heap.size := Nat.lt_of_lt_of_le hge2 hiw
        clear hd hmem hr
        have hs := hco.srep
        rw [hl] at hs
        have e0 : (0 : Int) ≤ (k : Int) := by omega
        have e8 : (k : Int) < (es.length : Int) := by omega
        have HS := Lib.hid hs
        have cbo := bo.cell
        have lbo := bo.lt
        clear hs
        go_wp2_with fail
        go_region_held3 (fun w' => (∀ i, w'.cell? ⟨w3.heap.size, i, none⟩ = #[Value.slice A1 c.routines.length n1, .slice A2 c.records.length n2, .slice A3 c.globals.length n3, .int .i64 c.main, .slice (some ⟨g, 0, none⟩) c.instrs.length cap][i]?) ∧ w'.cell? ⟨ge, off + k * 2, none⟩ = some (.int .i64 d.kind) ∧ w'.cell? ⟨ge, off + k * 2 + 1, none⟩ = some (.int .i64 d.place))
          (first | exact ⟨cbo, q0, q1⟩ | exact ⟨(bo.drew.later hbA).cell, (hbA.cell hgl).trans q0, (hbA.cell hgl).trans q1⟩)
          (first
            | (go_at_call 20; refine (spec_CheckEdit { c with instrs := l } _ d.kind d.place _ _ _ (HS.out.below (Below.refl wo.heap.size wo).drew (Nat.le_of_lt hz)) (Nat.le_of_lt hz) HT.out).mono ?_; rw [HR.out]; rintro e w6 ⟨rfl, hbA⟩))
        have hb : Below wo.heap.size wo w6 := ((Below.refl _ _).drew).trans hbA
        have z6 := hb.size
        have bz6 := bz.later hb
        have bo6 := bo.later hb
        have hco6 := hco.later hb
        have hw6 := hw.trans (hb.mono hw.size)
        have q0' := (hb.cell (p := ⟨ge, off + k * 2, none⟩) hgl).trans q0
        have q1' := (hb.cell (p := ⟨ge, off + k * 2 + 1, none⟩) hgl).trans q1
        clear hb hbA cbo lbo bz bo hco hw q0 q1 HS
        have cbz := bz6.cell
        have fbz := bz6.frozen
        have lbz := bz6.lt
        have cbo := bo6.cell
        have fbo := bo6.frozen
        have lbo := bo6.lt
        cases r with
        | false =>
          have HN : Hid (applyO c es = none) := by show _ = _; rw [HA.out, HD.out]; simp only [applyAll]; rw [HR.out]; rfl
          go_wp2_with fail
          refine bodyPost_ret (v := .tuple #[.agg #[Value.slice none 0 0, .slice none 0 0, .slice none 0 0, .int .i64 0, .slice none 0 0], .bool false]) ?_ rfl ⟨_, by rw [(apply_no HN.out).2], ?_, ?_⟩
          · simp [results, Tryz.results29, go_sem, cbz]
          · rw [(apply_no HN.out).1]; exact zero_own
          · repeat (first | exact hw6 | refine Below.setCell ?_ (by simp <;> omega) _ | refine Below.drew ?_)
        | true =>
          obtain ⟨q, x, hp, hx, hcan, hcv⟩ := check_yes HR.out
          have HA2 : Hid (applyO c es = applyAll c (stepI l d) (es.drop (k + 1))) := by show _ = _; rw [HA.out, HD.out]; simp only [applyAll]; rw [HR.out]; rfl
          have hst2 := step_at (l := l) hp hx
          have hlen : (stepI l d).length = c.instrs.length := by rw [hst2, apply_len]; exact hl
          have HT2 : Hid (∀ y ∈ stepI l d, y.text.size ≤ 1048576) := by rw [hst2]; exact apply_text hx HT.out
          have HM := fun (W : World) (hW : Below w6.heap.size w6 W) => apply_any c l x d.kind q W _ _ A1 A2 A3 n1 n2 n3 g cap (hco6.later hW) (by have := hW.size; omega) (by rw [hl]; exact hn2) hcv.ins hx hcan
          rw [← hst2, ← hp, hl] at HM
          have HMM := Lib.hid HM
          clear HM hst2 hx hcan hcv hp HA HT HD
          have hgl6 : ge < w6.heap.size := by omega
          have hgeB : ge ≠ w3.heap.size := by omega
          have hgeg : ge ≠ g := by omega
          go_wp2_with fail
          have sD0 : ∀ i, w6.drew.cell? ⟨w3.heap.size, i, none⟩ = #[Value.slice A1 c.routines.length n1, .slice A2 c.records.length n2, .slice A3 c.globals.length n3, .int .i64 c.main, .slice (some ⟨g, 0, none⟩) c.instrs.length cap][i]? := cbo
          have sD1 : w6.drew.cell? ⟨ge, off + k * 2, none⟩ = some (.int .i64 d.kind) := q0'
          have sD2 : w6.drew.cell? ⟨ge, off + k * 2 + 1, none⟩ = some (.int .i64 d.place) := q1'
          go_region_held3 (fun w' => (∀ i, w'.cell? ⟨w3.heap.size, i, none⟩ = #[Value.slice A1 c.routines.length n1, .slice A2 c.records.length n2, .slice A3 c.globals.length n3, .int .i64 c.main, .slice (some ⟨g, 0, none⟩) c.instrs.length cap][i]?) ∧ w'.cell? ⟨ge, off + k * 2, none⟩ = some (.int .i64 d.kind) ∧ w'.cell? ⟨ge, off + k * 2 + 1, none⟩ = some (.int .i64 d.place))
            (first | with_reducible exact ⟨sD0, sD1, sD2⟩ | with_reducible exact ⟨s70, s71, s72⟩ | with_reducible exact ⟨s80, s81, s82⟩)
            (first
              | (go_at_call 63; refine (HMM.out _ (Below.refl w6.heap.size w6).drew).mono ?_; rintro e w7 ⟨rfl, hco7, hf⟩; have fbo7 := (bo6.drew.fr hf (by simp; omega)).frozen; have s70 : ∀ i, w7.cell? ⟨w3.heap.size, i, none⟩ = #[Value.slice A1 c.routines.length n1, .slice A2 c.records.length n2, .slice A3 c.globals.length n3, .int .i64 c.main, .slice (some ⟨g, 0, none⟩) c.instrs.length cap][i]? := (bo6.drew.fr hf (by simp; omega)).cell; have s71 : w7.cell? ⟨ge, off + k * 2, none⟩ = some (.int .i64 d.kind) := (World.cell?_of_block (hf.block ge hgl6 (by simp; omega))).trans q0'; have s72 : w7.cell? ⟨ge, off + k * 2 + 1, none⟩ = some (.int .i64 d.place) := (World.cell?_of_block (hf.block ge hgl6 (by simp; omega))).trans q1'; have s80 : ∀ i, (((((w7.setCell ⟨w3.heap.size, 0, none⟩ (Value.slice A1 c.routines.length n1)).setCell ⟨w3.heap.size, 1, none⟩ (.slice A2 c.records.length n2)).setCell ⟨w3.heap.size, 2, none⟩ (.slice A3 c.globals.length n3)).setCell ⟨w3.heap.size, 3, none⟩ (.int .i64 c.main)).setCell ⟨w3.heap.size, 4, none⟩ (.slice (some ⟨g, 0, none⟩) c.instrs.length cap)).cell? ⟨w3.heap.size, i, none⟩ = #[Value.slice A1 c.routines.length n1, .slice A2 c.records.length n2, .slice A3 c.globals.length n3, .int .i64 c.main, .slice (some ⟨g, 0, none⟩) c.instrs.length cap][i]? := ((((((bo6.drew.fr hf (by simp; omega)).set_ 0 _).set_ 1 _).set_ 2 _).set_ 3 _).set_ 4 _).cell; have s81 : (((((w7.setCell ⟨w3.heap.size, 0, none⟩ (Value.slice A1 c.routines.length n1)).setCell ⟨w3.heap.size, 1, none⟩ (.slice A2 c.records.length n2)).setCell ⟨w3.heap.size, 2, none⟩ (.slice A3 c.globals.length n3)).setCell ⟨w3.heap.size, 3, none⟩ (.int .i64 c.main)).setCell ⟨w3.heap.size, 4, none⟩ (.slice (some ⟨g, 0, none⟩) c.instrs.length cap)).cell? ⟨ge, off + k * 2, none⟩ = some (.int .i64 d.kind) := (World.cell?_setCell_other _ _ _ _ (by simp <;> omega)).trans ((World.cell?_setCell_other _ _ _ _ (by simp <;> omega)).trans ((World.cell?_setCell_other _ _ _ _ (by simp <;> omega)).trans ((World.cell?_setCell_other _ _ _ _ (by simp <;> omega)).trans ((World.cell?_setCell_other _ _ _ _ (by simp <;> omega)).trans s71)))); have s82 : (((((w7.setCell ⟨w3.heap.size, 0, none⟩ (Value.slice A1 c.routines.length n1)).setCell ⟨w3.heap.size, 1, none⟩ (.slice A2 c.records.length n2)).setCell ⟨w3.heap.size, 2, none⟩ (.slice A3 c.globals.length n3)).setCell ⟨w3.heap.size, 3, none⟩ (.int .i64 c.main)).setCell ⟨w3.heap.size, 4, none⟩ (.slice (some ⟨g, 0, none⟩) c.instrs.length cap)).cell? ⟨ge, off + k * 2 + 1, none⟩ = some (.int .i64 d.place) := (World.cell?_setCell_other _ _ _ _ (by simp <;> omega)).trans ((World.cell?_setCell_other _ _ _ _ (by simp <;> omega)).trans ((World.cell?_setCell_other _ _ _ _ (by simp <;> omega)).trans ((World.cell?_setCell_other _ _ _ _ (by simp <;> omega)).trans ((World.cell?_setCell_other _ _ _ _ (by simp <;> omega)).trans s72))))))
          have bz7 := bz6.drew.fr hf (by simp; omega)
          have bo7 := bo6.drew.fr hf (by simp; omega)
          have hw7 : Below w.heap.size w w7 := (hw6.drew).trans (hf.below (B := w.heap.size) (fun b hb => by rw [List.mem_singleton.1 hb]; omega) hw6.size)
          have z7 : w6.heap.size ≤ w7.heap.size := hf.size
          have bz8 : Blk (((((w7.setCell ⟨w3.heap.size, 0, none⟩ (Value.slice A1 c.routines.length n1)).setCell ⟨w3.heap.size, 1, none⟩ (.slice A2 c.records.length n2)).setCell ⟨w3.heap.size, 2, none⟩ (.slice A3 c.globals.length n3)).setCell ⟨w3.heap.size, 3, none⟩ (.int .i64 c.main)).setCell ⟨w3.heap.size, 4, none⟩ (.slice (some ⟨g, 0, none⟩) c.instrs.length cap)) (w.heap.size + 1) 34 #[Value.slice none 0 0, .slice none 0 0, .slice none 0 0, .int .i64 0, .slice none 0 0] := ((((bz7.far (by simp; omega) _).far (by simp; omega) _).far (by simp; omega) _).far (by simp; omega) _).far (by simp; omega) _
          have bo8 : Blk (((((w7.setCell ⟨w3.heap.size, 0, none⟩ (Value.slice A1 c.routines.length n1)).setCell ⟨w3.heap.size, 1, none⟩ (.slice A2 c.records.length n2)).setCell ⟨w3.heap.size, 2, none⟩ (.slice A3 c.globals.length n3)).setCell ⟨w3.heap.size, 3, none⟩ (.int .i64 c.main)).setCell ⟨w3.heap.size, 4, none⟩ (.slice (some ⟨g, 0, none⟩) c.instrs.length cap)) w3.heap.size 34 #[Value.slice A1 c.routines.length n1, .slice A2 c.records.length n2, .slice A3 c.globals.length n3, .int .i64 c.main, .slice (some ⟨g, 0, none⟩) c.instrs.length cap] := ((((bo7.set_ 0 _).set_ 1 _).set_ 2 _).set_ 3 _).set_ 4 _
          have hw8 : Below w.heap.size w (((((w7.setCell ⟨w3.heap.size, 0, none⟩ (Value.slice A1 c.routines.length n1)).setCell ⟨w3.heap.size, 1, none⟩ (.slice A2 c.records.length n2)).setCell ⟨w3.heap.size, 2, none⟩ (.slice A3 c.globals.length n3)).setCell ⟨w3.heap.size, 3, none⟩ (.int .i64 c.main)).setCell ⟨w3.heap.size, 4, none⟩ (.slice (some ⟨g, 0, none⟩) c.instrs.length cap)) := ((((hw7.setCell (by simp; omega) _).setCell (by simp; omega) _).setCell (by simp; omega) _).setCell (by simp; omega) _).setCell (by simp; omega) _
          have hco8 : COwn w2.heap.size w3.heap.size (((((w7.setCell ⟨w3.heap.size, 0, none⟩ (Value.slice A1 c.routines.length n1)).setCell ⟨w3.heap.size, 1, none⟩ (.slice A2 c.records.length n2)).setCell ⟨w3.heap.size, 2, none⟩ (.slice A3 c.globals.length n3)).setCell ⟨w3.heap.size, 3, none⟩ (.int .i64 c.main)).setCell ⟨w3.heap.size, 4, none⟩ (.slice (some ⟨g, 0, none⟩) c.instrs.length cap)) c A1 A2 A3 n1 n2 n3 g cap (stepI l d) := ((((hco7.far (Nat.le_refl _) _).far (Nat.le_refl _) _).far (Nat.le_refl _) _).far (Nat.le_refl _) _).far (Nat.le_refl _) _
          have z8 : ((((((w7.setCell ⟨w3.heap.size, 0, none⟩ (Value.slice A1 c.routines.length n1)).setCell ⟨w3.heap.size, 1, none⟩ (.slice A2 c.records.length n2)).setCell ⟨w3.heap.size, 2, none⟩ (.slice A3 c.globals.length n3)).setCell ⟨w3.heap.size, 3, none⟩ (.int .i64 c.main)).setCell ⟨w3.heap.size, 4, none⟩ (.slice (some ⟨g, 0, none⟩) c.instrs.length cap))).heap.size = w7.heap.size := by simp [World.setCell]
          clear s70 s71 s72 s80 s81 s82 sD0 sD1 sD2 bz7 bo7 hw7 hco7 hf fbo7 bz6 bo6 hw6 hco6 cbz fbz lbz cbo fbo lbo q0' q1' HMM
          obtain ⟨V, hV⟩ : ∃ V, (((((w7.setCell ⟨w3.heap.size, 0, none⟩ (Value.slice A1 c.routines.length n1)).setCell ⟨w3.heap.size, 1, none⟩ (.slice A2 c.records.length n2)).setCell ⟨w3.heap.size, 2, none⟩ (.slice A3 c.globals.length n3)).setCell ⟨w3.heap.size, 3, none⟩ (.int .i64 c.main)).setCell ⟨w3.heap.size, 4, none⟩ (.slice (some ⟨g, 0, none⟩) c.instrs.length cap)) = V := ⟨_, rfl⟩
          rw [hV] at bz8 bo8 hw8 hco8 z8 ⊢
          clear hV
          go_wp2_with fail
          go_roundw
          case rel => exact ⟨k + 1, stepI l d, by omega, by go_num, hlen, HA2, HT2, hco8, hw8, bz8, bo8, by omega⟩
          case measure => simp [intOf]; omega
      · obtain rfl : k = es.length := by omega
        have HY : Hid (applyO c es = some l) := by show _ = _; rw [HA.out, List.drop_length]; rfl
        have hal := hco.all
        rw [hl] at hal
        have HAL := Lib.hid hal
        have cbz := bz.cell
        have fbz := bz.frozen
        have lbz := bz.lt
        have cbo := bo.cell
        have lbo := bo.lt
        clear hal hco
        go_wp2_with fail
        refine bodyPost_ret (v := .tuple #[.agg #[Value.slice A1 c.routines.length n1, .slice A2 c.records.length n2, .slice A3 c.globals.length n3, .int .i64 c.main, .slice (some ⟨g, 0, none⟩) c.instrs.length cap], .bool true]) ?_ rfl ⟨_, by rw [(apply_yes HY.out).2], ?_, ?_⟩
        · simp [results, Tryz.results29, go_sem, cbz]
        · rw [(apply_yes HY.out).1]
          refine (OwnR.wide (lo := w2.heap.size) (hi := w3.heap.size) ?_ (by omega) (by simp [World.setCell] <;> omega))
          iterate 5 refine OwnR.setFar ?_ (.inl (by simp <;> omega)) _
          exact HAL.out.kept fun _ _ _ => rfl
        · iterate 5 refine Below.setCell ?_ (by simp <;> omega) _
          exact hw
end Go.Proofs.YtekobbeoaalibaaGreatDoor
end

section
namespace Go.Proofs.YtekobbeoaalibaaGreatDoor
open Go.RowKit
set_option linter.unusedVariables false

theorem stepI_len (l : List InsT) (d : EditT) : (stepI l d).length = l.length := by
  unfold stepI
  split
  · exact apply_len _ _ _ _
  · rfl
theorem applyAll_len {c : CodeT} : ∀ {es : List EditT} {l l' : List InsT}, applyAll c l es = some l' → l'.length = l.length
  | [], l, l', h => by simp only [applyAll] at h; injection h with h; rw [h]
  | d :: es, l, l', h => by
    simp only [applyAll] at h
    split at h
    · rw [applyAll_len h, stepI_len]
    · cases h
theorem apply_cnt (c : CodeT) (es : List EditT) : (applyC c es).cnt ≤ c.cnt := by
  unfold applyC
  cases h : applyO c es with
  | none => exact Nat.zero_le _
  | some l =>
    have hl : l.length = c.instrs.length := by
      unfold applyO at h
      split at h
      · exact applyAll_len h
      · cases h
    unfold CodeT.cnt
    simp only []
    rw [sumOf_len (b := InsT.cnt) (n := 5) (fun _ => rfl), sumOf_len (b := InsT.cnt) (n := 5) (fun _ => rfl), hl]
    exact Nat.le_refl _
theorem sumEdit0 (l : List EditT) : l.length + sumOf EditT.bulk l = l.length := by
  rw [sumOf_len (b := EditT.bulk) (n := 0) (fun _ => rfl)]; omega
end Go.Proofs.YtekobbeoaalibaaGreatDoor
end
