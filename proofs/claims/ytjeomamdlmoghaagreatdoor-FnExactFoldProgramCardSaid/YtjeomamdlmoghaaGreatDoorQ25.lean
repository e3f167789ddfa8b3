/- Leaves and literals of the reference. For the walks that fold: when an operator folds. Plain lemmas. -/
import Derived.Test.YtjeomamdlmoghaaGreatDoorQ00
import Derived.Test.YtjeomamdlmoghaaGreatDoorQSq
import Derived.Test.YtjeomamdlmoghaaGreatDoorQ07
import Derived.Test.YtjeomamdlmoghaaGreatDoorQ22
import Derived.Test.YtjeomamdlmoghaaGreatDoorQ24
set_option maxRecDepth 100000
set_option maxHeartbeats 8000000
set_option linter.unusedVariables false
set_option linter.unusedSimpArgs false
section
namespace Go.Proofs.YtjeomamdlmoghaaGreatDoor
open Go.RowKit
theorem spec_l26Leaf (c : CoreT) (hl : litB c = true) (hs : c.text.size ≤ 1048576) (Pv : Value) (A : Option Addr) (n cap : Nat) (w : World) :
 Calls Tryz.prog 69 #[Pv, .agg #[.int .i64 c.kind, .int .i64 c.op, .int .i64 c.number, .int .i64 c.line, .string c.text, .slice A n cap]] w (Gives (litOf c).val w) := by
 rcases lit_kinds hl with hk | hk | hk | hk
 ·have HR : Hid (litOf c = .int c.number) := by show _ = _; unfold litOf; rw [hk]; rfl
  rw [HR.out, hk]
  clear HR
  have HL : Hid (∀ W : World, Calls Tryz.prog 91 #[.int .i64 c.number] W fun e w' => e = .returned (.agg #[.int .i64 1, .int .i64 (c.number), .int .i64 0, .string ⟨#[]⟩, .int .i64 0, .int .i64 0]) ∧ Below W.heap.size W w') := fun W => spec_l11Int c.number W
  unfold LitT.val
  obtain ⟨bk, br, B0⟩ := boxes2 w 45 #[.int .i64 1, .int .i64 c.op, .int .i64 c.number, .int .i64 c.line, .string c.text, .slice A n cap] 76 #[.int .i64 0, .int .i64 0, .int .i64 0, .string ⟨#[]⟩, .int .i64 0, .int .i64 0]
  go_enter Tryz.func69, Tryz.ntmps69
  go_wp2_with fail
  refine (HL.out _).mono ?_; rintro e w1 ⟨rfl, hb⟩
  have B1 : Below w.heap.size w w1 := B0.trans (hb.mono B0.size)
  try clear cbk lbk fbk
  try clear cbr lbr fbr
  replace bk := (bk).later hb
  replace br := (br).later hb
  clear hb
  obtain ⟨cbk, lbk, fbk⟩ := bk.all
  obtain ⟨cbr, lbr, fbr⟩ := br.all
  go_wp2_with fail
  have hF := ((((((br.set_ 0 (.int .i64 1)).set_ 1 (.int .i64 (c.number))).set_ 2 (.int .i64 0)).set_ 3 (.string ⟨#[]⟩)).set_ 4 (.int .i64 0)).set_ 5 (.int .i64 0))
  have cF := hF.cell
  refine bodyPost_ret (v := .agg #[.int .i64 1, .int .i64 (c.number), .int .i64 0, .string ⟨#[]⟩, .int .i64 0, .int .i64 0]) ?_ rfl ⟨?_, ?_⟩
  ·simp [results, Tryz.results69, go_sem, cF]
  ·rfl
  ·repeat' first | with_reducible exact B1 | with_reducible refine Below.setCell ?_ (by have hs := B1.size; first | omega | (simp; omega) | simp) _ | with_reducible refine Below.alloc ?_ (by have hs := B1.size; first | omega | (simp; omega) | simp) _
 ·have HR : Hid (litOf c = .text c.text) := by show _ = _; unfold litOf; rw [hk]; rfl
  rw [HR.out, hk]
  clear HR
  have HL : Hid (∀ W : World, Calls Tryz.prog 92 #[.string c.text] W fun e w' => e = .returned (.agg #[.int .i64 2, .int .i64 (0), .int .i64 0, .string c.text, .int .i64 0, .int .i64 0]) ∧ Below W.heap.size W w') := fun W => spec_l11Text c.text W
  unfold LitT.val
  obtain ⟨bk, br, B0⟩ := boxes2 w 45 #[.int .i64 2, .int .i64 c.op, .int .i64 c.number, .int .i64 c.line, .string c.text, .slice A n cap] 76 #[.int .i64 0, .int .i64 0, .int .i64 0, .string ⟨#[]⟩, .int .i64 0, .int .i64 0]
  go_enter Tryz.func69, Tryz.ntmps69
  go_wp2_with fail
  refine (HL.out _).mono ?_; rintro e w1 ⟨rfl, hb⟩
  have B1 : Below w.heap.size w w1 := B0.trans (hb.mono B0.size)
  try clear cbk lbk fbk
  try clear cbr lbr fbr
  replace bk := (bk).later hb
  replace br := (br).later hb
  clear hb
  obtain ⟨cbk, lbk, fbk⟩ := bk.all
  obtain ⟨cbr, lbr, fbr⟩ := br.all
  go_wp2_with fail
  have hF := ((((((br.set_ 0 (.int .i64 2)).set_ 1 (.int .i64 (0))).set_ 2 (.int .i64 0)).set_ 3 (.string c.text)).set_ 4 (.int .i64 0)).set_ 5 (.int .i64 0))
  have cF := hF.cell
  refine bodyPost_ret (v := .agg #[.int .i64 2, .int .i64 (0), .int .i64 0, .string c.text, .int .i64 0, .int .i64 0]) ?_ rfl ⟨?_, ?_⟩
  ·simp [results, Tryz.results69, go_sem, cF]
  ·rfl
  ·repeat' first | with_reducible exact B1 | with_reducible refine Below.setCell ?_ (by have hs := B1.size; first | omega | (simp; omega) | simp) _ | with_reducible refine Below.alloc ?_ (by have hs := B1.size; first | omega | (simp; omega) | simp) _
 ·have HR : Hid (litOf c = .set (newCset c.text)) := by show _ = _; unfold litOf; rw [hk]; rfl
  rw [HR.out, hk]
  clear HR
  have HL : Hid (∀ W : World, Calls Tryz.prog 93 #[.agg #[.int .i64 (newCset c.text).lo.toInt, .int .i64 (newCset c.text).hi.toInt]] W fun e w' => e = .returned (.agg #[.int .i64 3, .int .i64 (0), .int .i64 0, .string ⟨#[]⟩, .int .i64 (newCset c.text).lo.toInt, .int .i64 (newCset c.text).hi.toInt]) ∧ Below W.heap.size W w') := fun W => spec_l11Cset (newCset c.text) W
  have HN : Hid (∀ W : World, Calls Tryz.prog 67 #[.string c.text] W fun e w' => e = .returned (.tuple #[.agg #[.int .i64 (newCset c.text).lo.toInt, .int .i64 (newCset c.text).hi.toInt], .bool (asciiB c.text)]) ∧ Below W.heap.size W w') := fun W => spec_NewCset c.text W hs
  unfold LitT.val
  obtain ⟨bk, br, B0⟩ := boxes2 w 45 #[.int .i64 3, .int .i64 c.op, .int .i64 c.number, .int .i64 c.line, .string c.text, .slice A n cap] 76 #[.int .i64 0, .int .i64 0, .int .i64 0, .string ⟨#[]⟩, .int .i64 0, .int .i64 0]
  go_enter Tryz.func69, Tryz.ntmps69
  go_wp2_with fail
  refine (HN.out _).mono ?_; rintro e w1 ⟨rfl, hb⟩
  have B1 : Below w.heap.size w w1 := B0.trans (hb.mono B0.size)
  try clear cbk lbk fbk
  try clear cbr lbr fbr
  replace bk := (bk).later hb
  replace br := (br).later hb
  clear hb
  obtain ⟨cbk, lbk, fbk⟩ := bk.all
  obtain ⟨cbr, lbr, fbr⟩ := br.all
  go_wp2_with fail
  refine (HL.out _).mono ?_; rintro e w2 ⟨rfl, hb⟩
  have B2 : Below w.heap.size w w2 := (B1.alloc (by have hs := B1.size; first | exact hs | omega | (simp; omega)) _).trans (hb.mono (by have hs := B1.size; first | exact hs | omega | (simp; omega)))
  try clear cbk lbk fbk
  try clear cbr lbr fbr
  replace bk := ((bk.alloc _)).later hb
  replace br := ((br.alloc _)).later hb
  clear hb
  obtain ⟨cbk, lbk, fbk⟩ := bk.all
  obtain ⟨cbr, lbr, fbr⟩ := br.all
  go_wp2_with fail
  have hF := ((((((br.set_ 0 (.int .i64 3)).set_ 1 (.int .i64 (0))).set_ 2 (.int .i64 0)).set_ 3 (.string ⟨#[]⟩)).set_ 4 (.int .i64 (newCset c.text).lo.toInt)).set_ 5 (.int .i64 (newCset c.text).hi.toInt))
  have cF := hF.cell
  refine bodyPost_ret (v := .agg #[.int .i64 3, .int .i64 (0), .int .i64 0, .string ⟨#[]⟩, .int .i64 (newCset c.text).lo.toInt, .int .i64 (newCset c.text).hi.toInt]) ?_ rfl ⟨?_, ?_⟩
  ·simp [results, Tryz.results69, go_sem, cF]
  ·rfl
  ·repeat' first | with_reducible exact B2 | with_reducible refine Below.setCell ?_ (by have hs := B2.size; first | omega | (simp; omega) | simp) _ | with_reducible refine Below.alloc ?_ (by have hs := B2.size; first | omega | (simp; omega) | simp) _
 ·have HR : Hid (litOf c = .null) := by show _ = _; unfold litOf; rw [hk]; rfl
  rw [HR.out, hk]
  clear HR
  unfold LitT.val
  obtain ⟨bk, br, B0⟩ := boxes2 w 45 #[.int .i64 4, .int .i64 c.op, .int .i64 c.number, .int .i64 c.line, .string c.text, .slice A n cap] 76 #[.int .i64 0, .int .i64 0, .int .i64 0, .string ⟨#[]⟩, .int .i64 0, .int .i64 0]
  go_enter Tryz.func69, Tryz.ntmps69
  go_wp2_with fail
  refine bodyPost_ret (v := .agg #[.int .i64 0, .int .i64 (0), .int .i64 0, .string ⟨#[]⟩, .int .i64 0, .int .i64 0]) ?_ rfl ⟨?_, ?_⟩
  ·simp [results, Tryz.results69, go_sem]
  ·rfl
  ·repeat' first | with_reducible exact B0 | with_reducible exact (((Below.refl w.heap.size w).alloc (Nat.le_refl _) _).alloc (by simp <;> omega) _) | with_reducible refine Below.setCell ?_ (by have hs := B0.size; first | omega | (simp; omega) | simp) _ | with_reducible refine Below.alloc ?_ (by have hs := B0.size; first | omega | (simp; omega) | simp) _
theorem spec_l34Literal (c : CoreT) (hs : c.text.size ≤ 1048576) (A : Option Addr) (n cap : Nat) (w : World) :
 Calls Tryz.prog 40 #[.agg #[.int .i64 c.kind, .int .i64 c.op, .int .i64 c.number, .int .i64 c.line, .string c.text, .slice A n cap]] w (Gives (.tuple #[(if litB c = true then litOf c else .null).val, .bool (litB c)]) w) := by
 cases hl : litB c with
 | false =>
   have hno := lit_no hl
   rw [if_neg (by decide)]
   unfold LitT.val
   by_cases h1 : c.kind < 1
   ·skip
    obtain ⟨bk, br, B0⟩ := boxes2 w 45 #[.int .i64 c.kind, .int .i64 c.op, .int .i64 c.number, .int .i64 c.line, .string c.text, .slice A n cap] 76 #[.int .i64 0, .int .i64 0, .int .i64 0, .string ⟨#[]⟩, .int .i64 0, .int .i64 0]
    go_enter Tryz.func40, Tryz.ntmps40
    go_wp2_with fail
    refine bodyPost_ret (v := .tuple #[.agg #[.int .i64 0, .int .i64 0, .int .i64 0, .string ⟨#[]⟩, .int .i64 0, .int .i64 0], .bool false]) ?_ rfl ⟨?_, ?_⟩
    ·simp [results, Tryz.results40, go_sem]
    ·rfl
    ·repeat' first | with_reducible exact B0 | with_reducible exact (((Below.refl w.heap.size w).alloc (Nat.le_refl _) _).alloc (by simp <;> omega) _) | with_reducible refine Below.setCell ?_ (by have hs := B0.size; first | omega | (simp; omega) | simp) _ | with_reducible refine Below.alloc ?_ (by have hs := B0.size; first | omega | (simp; omega) | simp) _
   ·have h4 : 4 < c.kind := by omega
    obtain ⟨bk, br, B0⟩ := boxes2 w 45 #[.int .i64 c.kind, .int .i64 c.op, .int .i64 c.number, .int .i64 c.line, .string c.text, .slice A n cap] 76 #[.int .i64 0, .int .i64 0, .int .i64 0, .string ⟨#[]⟩, .int .i64 0, .int .i64 0]
    go_enter Tryz.func40, Tryz.ntmps40
    go_wp2_with fail
    refine bodyPost_ret (v := .tuple #[.agg #[.int .i64 0, .int .i64 0, .int .i64 0, .string ⟨#[]⟩, .int .i64 0, .int .i64 0], .bool false]) ?_ rfl ⟨?_, ?_⟩
    ·simp [results, Tryz.results40, go_sem]
    ·rfl
    ·repeat' first | with_reducible exact B0 | with_reducible exact (((Below.refl w.heap.size w).alloc (Nat.le_refl _) _).alloc (by simp <;> omega) _) | with_reducible refine Below.setCell ?_ (by have hs := B0.size; first | omega | (simp; omega) | simp) _ | with_reducible refine Below.alloc ?_ (by have hs := B0.size; first | omega | (simp; omega) | simp) _
 | true =>
   rw [if_pos rfl]
   have HL := fun (Pv : Value) (W : World) => spec_l26Leaf c hl hs Pv A n cap W
   have hk1 : 1 ≤ c.kind := by rcases lit_kinds hl with h | h | h | h <;> omega
   have hk4 : c.kind ≤ 4 := by rcases lit_kinds hl with h | h | h | h <;> omega
   obtain ⟨kv, nv, sv, lv, hv, ev⟩ := (litOf c).form
   rw [ev] at HL ⊢
   have HLH := Lib.hid HL
   clear HL ev hl
   obtain ⟨bk, br, B0⟩ := boxes2 w 45 #[.int .i64 c.kind, .int .i64 c.op, .int .i64 c.number, .int .i64 c.line, .string c.text, .slice A n cap] 76 #[.int .i64 0, .int .i64 0, .int .i64 0, .string ⟨#[]⟩, .int .i64 0, .int .i64 0]
   go_enter Tryz.func40, Tryz.ntmps40
   go_wp2_with fail
   refine (HLH.out _ _).mono ?_; rintro e w1 ⟨rfl, hb⟩
   have B1 : Below w.heap.size w w1 := (B0.alloc (by have hs := B0.size; first | exact hs | omega | (simp; omega)) _).trans (hb.mono (by have hs := B0.size; first | exact hs | omega | (simp; omega)))
   try clear cbk lbk fbk
   try clear cbr lbr fbr
   replace bk := ((bk.alloc _)).later hb
   replace br := ((br.alloc _)).later hb
   clear hb
   obtain ⟨cbk, lbk, fbk⟩ := bk.all
   obtain ⟨cbr, lbr, fbr⟩ := br.all
   go_wp2_with fail
   have hF := ((((((br.set_ 0 (.int .i64 kv)).set_ 1 (.int .i64 (nv))).set_ 2 (.int .i64 0)).set_ 3 (.string sv)).set_ 4 (.int .i64 lv)).set_ 5 (.int .i64 hv))
   have cF := hF.cell
   refine bodyPost_ret (v := .tuple #[.agg #[.int .i64 kv, .int .i64 nv, .int .i64 0, .string sv, .int .i64 lv, .int .i64 hv], .bool true]) ?_ rfl ⟨?_, ?_⟩
   ·simp [results, Tryz.results40, go_sem, cF]
   ·rfl
   ·repeat' first | with_reducible exact B1 | with_reducible refine Below.setCell ?_ (by have hs := B1.size; first | omega | (simp; omega) | simp) _ | with_reducible refine Below.alloc ?_ (by have hs := B1.size; first | omega | (simp; omega) | simp) _
end Go.Proofs.YtjeomamdlmoghaaGreatDoor
end
section
namespace Go.Proofs.YtjeomamdlmoghaaGreatDoor
open Go.RowKit
noncomputable def foldsB (c : CoreT) : Bool := c.kids.all litB && (decide ((opR c).2 = -1) || decide ((opR c).2 = 0))
noncomputable def foldOpV (c : CoreT) (A : Option Addr) (n : Nat) : Value := if foldsB c = true then leafV (foldOp c) else .agg #[.int .i64 c.kind, .int .i64 c.op, .int .i64 c.number, .int .i64 c.line, .string c.text, .slice A c.kids.length n]
theorem foldOpV_no {c : CoreT} {A : Option Addr} {n : Nat} (h : foldsB c = false) : foldOpV c A n = .agg #[.int .i64 c.kind, .int .i64 c.op, .int .i64 c.number, .int .i64 c.line, .string c.text, .slice A c.kids.length n] := by unfold foldOpV; rw [if_neg (by rw [h]; decide)]
theorem foldOpV_yes {c : CoreT} {A : Option Addr} {n : Nat} (h : foldsB c = true) : foldOpV c A n = leafV (foldOp c) := by unfold foldOpV; rw [if_pos h]
theorem folds_no {c x : CoreT} (hm : x ∈ c.kids) (h : litB x = false) : foldsB c = false := by unfold foldsB; rw [all_no hm h]; rfl
theorem folds_eq {c : CoreT} (h : c.kids.all litB = true) : foldsB c = (decide ((opR c).2 = -1) || decide ((opR c).2 = 0)) := by unfold foldsB; rw [h, Bool.true_and]
theorem fold_arity {c : CoreT} (h : opOk c.op = true) (har : arityLo c.op ≤ c.kids.length ∧ (c.kids.length : Int) ≤ arityHi c.op) :
 ((c.op = 1 ∨ c.op = 2 ∨ c.op = 6) → ∃ a, c.kids = [a]) ∧ ((20 ≤ c.op ∧ c.op ≤ 54 ∧ ¬ c.op = 51) → ∃ a b, c.kids = [a, b]) := by
 constructor
 ·intro ho
  have e1 : arityHi c.op = 1 := by unfold arityHi; rw [if_neg (by rw [h]; decide), if_pos (by omega)]
  have e2 : arityLo c.op = 1 := by unfold arityLo; rw [if_neg (by rw [h]; decide), if_pos (by omega)]
  match hk : c.kids with
  | [] => rw [hk] at har; simp at har; omega
  | [a] => exact ⟨a, rfl⟩
  | a :: b :: l => rw [hk] at har; simp at har; omega
 ·intro ho
  have e1 : arityHi c.op = 2 := by unfold arityHi; rw [if_neg (by rw [h]; decide), if_neg (by omega), if_neg (by omega), if_neg (by omega), if_neg (by omega)]
  have e2 : arityLo c.op = 2 := by unfold arityLo; rw [if_neg (by rw [h]; decide), if_neg (by omega), if_neg (by omega), if_neg (by omega), if_neg (by omega)]
  match hk : c.kids with
  | [] => rw [hk] at har; simp at har; omega
  | [a] => rw [hk] at har; simp at har; omega
  | [a, b] => exact ⟨a, b, rfl⟩
  | a :: b :: d :: l => rw [hk] at har; simp at har; omega
theorem opR_one {c a : CoreT} (hk : c.kids = [a]) (ho : c.op = 1 ∨ c.op = 2 ∨ c.op = 6) : opR c = unR c.op (litOf a) := by unfold opR; rw [hk]; simp only []; rw [if_pos ho]
theorem opR_two {c a b : CoreT} (hk : c.kids = [a, b]) (ho : 20 ≤ c.op ∧ c.op ≤ 54 ∧ ¬ c.op = 51) : opR c = binR c.op (litOf a) (litOf b) := by unfold opR; rw [hk]; simp only []; rw [if_pos ho]
theorem opR_no {c : CoreT} (h1 : ¬ (c.op = 1 ∨ c.op = 2 ∨ c.op = 6)) (h2 : ¬ (20 ≤ c.op ∧ c.op ≤ 54 ∧ ¬ c.op = 51)) : opR c = (.null, 205) := by
 unfold opR
 split
 ·rw [if_neg h1]
 ·rw [if_neg h2]
 ·rfl
theorem foldOp_none {c : CoreT} (ha : c.kids.all litB = true) (h : (opR c).2 = -1) : foldOp c = leafT 28 0 c.line ⟨#[]⟩ := by unfold foldOp; rw [if_pos ha, if_pos h]
theorem foldOp_lit {c : CoreT} (ha : c.kids.all litB = true) (h : (opR c).2 = 0) : foldOp c = coreOfLit c.line (opR c).1 := by unfold foldOp; rw [if_pos ha, if_neg (by rw [h]; decide), if_pos h]
theorem foldOp_same {c : CoreT} (h : foldsB c = false) : foldOp c = c := by
 unfold foldOp
 split
 ·next ha =>
  rw [folds_eq ha] at h
  simp at h
  rw [if_neg h.1, if_neg h.2]
 ·rfl
end Go.Proofs.YtjeomamdlmoghaaGreatDoor
end
