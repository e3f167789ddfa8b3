/- (*verifier).visit of the program, operation by operation. -/
import Derived.Test.YtekobbeoaalibaaGreatDoorVisitDefs
namespace Go.Proofs.YtekobbeoaalibaaGreatDoor
open Go.RowKit
set_option linter.unusedVariables false

set_option maxRecDepth 100000 in
set_option maxHeartbeats 2000000 in
theorem visit_1 {w0 wr : World} {b : Nat} {v0 v1 v2 v3 : Value} {Ai : Option Addr} {ni : Nat} {c : List InsT} {st : St} {i : Nat} {x : InsT} {sv tv : Value} {lo hi : Nat} (h : VisIn w0 wr b v0 v1 v2 v3 Ai ni c st i x sv tv lo hi) (k : x.op = 1) :
    Calls Tryz.prog 52 #[.pointer (some ⟨b, 0, none⟩), .int .i64 i] wr (VisPost w0 c.length b v0 v1 v2 v3 Ai ni (stepAt c st i x)) := by
  obtain ⟨vb, hI, hcode, hhi, hbig, hat, hsz, hok⟩ := h
  have hlt : i < c.length := (List.getElem?_eq_some_iff.1 hat).1
  obtain ⟨hgd, hle⟩ := hI.good _ (at_mem hsz) hsz
  obtain ⟨gs, caps, rfl, hgs1, hgs2, hcs1, hcs2⟩ := vb.rows.form (by omega)
  have qs := vb.rows.cell hlt
  obtain ⟨s, hs⟩ : ∃ s, st.at_ i = s := ⟨_, rfl⟩
  rw [hs] at qs hsz hgd hle
  obtain ⟨g, off, hA, hg1, hg2, -, -, q0, q1, q2, q3, q4⟩ := InsT.at_ hcode hat
  subst hA
  rw [k] at q0
  have HBK : Hid (backB c i x = false) := back_no (by rw [k]; rfl)
  unfold maxLen at hcs2
  have ca := vb.box.cell
  have la := vb.box.lt
  have HS := Lib.hid hs
  have HAT := Lib.hid hat
  have K_ := Lib.hid k
  have HG := Lib.hid hgd
  clear hs hat k hgd
  have HEM : Hid (∀ (q : St × Bool) (p : Int) (z : ByteArray), q.1 = st → Fit c.length (empties st.sh) z → empties (giveP q p z).1.sh ≤ empties st.sh) := fun q p z hq hz => by have := (giveP_inv (q := q) (p := p) (s := z) (by rw [hq]; exact hI) (by rw [hq]; exact hz)).2; rwa [hq] at this
  have HR : Hid (stepAt c st i x = if (giveP (st, false) ((i : Int) + 1) (s ++ ⟨#[118]⟩)).2 = true then none else some (giveP (st, false) ((i : Int) + 1) (s ++ ⟨#[118]⟩)).1) := by
    show _ = _
    have ha : after x (st.at_ i) = if true = true then some ((s ++ ⟨#[118]⟩), ⟨#[]⟩) else none := by rw [HS.out]; simp only [after, K_.out]; rfl
    have := step_q (nx' := (s ++ ⟨#[118]⟩)) (lb' := ⟨#[]⟩) HBK.out ha (fun _ => rfl) (fun _ => rfl)
    simp only [Bool.not_true, Bool.or_false] at this
    rw [giveP_nil] at this
    exact this
  have FN : Fit c.length (empties st.sh) (s ++ ⟨#[118]⟩) := (fit_app HG.out hle _)
  go_enter Tryz.func52, Tryz.ntmps52
  go_upto_region 2 with (fail)
  have h1 := vb.more #[.int .i64 1, .int .i64 x.a, .int .i64 x.b, .int .i64 x.line, .string x.text] 79
  have hcd1 := hcode.alloc (Nat.le_trans hhi vb.rows.bel.size) (.cells #[.int .i64 1, .int .i64 x.a, .int .i64 x.b, .int .i64 x.line, .string x.text] 79)
  obtain ⟨bx, hbx⟩ : ∃ bx, wr.heap.size = bx := ⟨_, rfl⟩
  rw [hbx] at h1 ⊢
  generalize wr.alloc (.cells #[.int .i64 1, .int .i64 x.a, .int .i64 x.b, .int .i64 x.line, .string x.text] 79) = w1 at h1 hcd1 ⊢
  clear ca la qs q0 q1 q2 q3 q4 hcode hbx vb
  have cx := h1.one.cell
  have lx := h1.one.lt
  go_wp2_with fail
  refine (impl_isLabel 1 _).mono ?_; rw [show jumpB 1 = false from rfl]; rintro e w2 ⟨rfl, rfl⟩
  go_wp2_with fail
  have hG := impl_give h1 hI (by omega) hbig ((i : Int) + 1) (s ++ ⟨#[118]⟩) (by rw [ByteArray.size_append]; omega)
  refine hG.mono ?_; clear hG; rintro e w2 ⟨rfl, sv2, tv2, h2⟩
  clear cx lx
  have cx := h2.one.cell
  have lx := h2.one.lt
  go_wp2_with fail
  go_end0
  refine ⟨rfl, (giveP (st, false) ((i : Int) + 1) (s ++ ⟨#[118]⟩)), ?_⟩
  refine ⟨?_, ?_, ?_⟩
  · exact ⟨_, _, h2.less⟩
  · exact (giveP_inv (q := (st, false)) (p := ((i : Int) + 1)) (s := (s ++ ⟨#[118]⟩)) hI FN).1
  · exact HR.out
set_option maxRecDepth 100000 in
set_option maxHeartbeats 2000000 in
theorem visit_2 {w0 wr : World} {b : Nat} {v0 v1 v2 v3 : Value} {Ai : Option Addr} {ni : Nat} {c : List InsT} {st : St} {i : Nat} {x : InsT} {sv tv : Value} {lo hi : Nat} (h : VisIn w0 wr b v0 v1 v2 v3 Ai ni c st i x sv tv lo hi) (k : x.op = 2) :
    Calls Tryz.prog 52 #[.pointer (some ⟨b, 0, none⟩), .int .i64 i] wr (VisPost w0 c.length b v0 v1 v2 v3 Ai ni (stepAt c st i x)) := by
  obtain ⟨vb, hI, hcode, hhi, hbig, hat, hsz, hok⟩ := h
  have hlt : i < c.length := (List.getElem?_eq_some_iff.1 hat).1
  obtain ⟨hgd, hle⟩ := hI.good _ (at_mem hsz) hsz
  obtain ⟨gs, caps, rfl, hgs1, hgs2, hcs1, hcs2⟩ := vb.rows.form (by omega)
  have qs := vb.rows.cell hlt
  obtain ⟨s, hs⟩ : ∃ s, st.at_ i = s := ⟨_, rfl⟩
  rw [hs] at qs hsz hgd hle
  obtain ⟨g, off, hA, hg1, hg2, -, -, q0, q1, q2, q3, q4⟩ := InsT.at_ hcode hat
  subst hA
  rw [k] at q0
  have HBK : Hid (backB c i x = false) := back_no (by rw [k]; rfl)
  unfold maxLen at hcs2
  have ca := vb.box.cell
  have la := vb.box.lt
  have HS := Lib.hid hs
  have HAT := Lib.hid hat
  have K_ := Lib.hid k
  have HG := Lib.hid hgd
  clear hs hat k hgd
  have HEM : Hid (∀ (q : St × Bool) (p : Int) (z : ByteArray), q.1 = st → Fit c.length (empties st.sh) z → empties (giveP q p z).1.sh ≤ empties st.sh) := fun q p z hq hz => by have := (giveP_inv (q := q) (p := p) (s := z) (by rw [hq]; exact hI) (by rw [hq]; exact hz)).2; rwa [hq] at this
  have HR : Hid (stepAt c st i x = if (giveP (st, false) ((i : Int) + 1) (s ++ ⟨#[118]⟩)).2 = true then none else some (giveP (st, false) ((i : Int) + 1) (s ++ ⟨#[118]⟩)).1) := by
    show _ = _
    have ha : after x (st.at_ i) = if true = true then some ((s ++ ⟨#[118]⟩), ⟨#[]⟩) else none := by rw [HS.out]; simp only [after, K_.out]; rfl
    have := step_q (nx' := (s ++ ⟨#[118]⟩)) (lb' := ⟨#[]⟩) HBK.out ha (fun _ => rfl) (fun _ => rfl)
    simp only [Bool.not_true, Bool.or_false] at this
    rw [giveP_nil] at this
    exact this
  have FN : Fit c.length (empties st.sh) (s ++ ⟨#[118]⟩) := (fit_app HG.out hle _)
  go_enter Tryz.func52, Tryz.ntmps52
  go_upto_region 2 with (fail)
  have h1 := vb.more #[.int .i64 2, .int .i64 x.a, .int .i64 x.b, .int .i64 x.line, .string x.text] 79
  have hcd1 := hcode.alloc (Nat.le_trans hhi vb.rows.bel.size) (.cells #[.int .i64 2, .int .i64 x.a, .int .i64 x.b, .int .i64 x.line, .string x.text] 79)
  obtain ⟨bx, hbx⟩ : ∃ bx, wr.heap.size = bx := ⟨_, rfl⟩
  rw [hbx] at h1 ⊢
  generalize wr.alloc (.cells #[.int .i64 2, .int .i64 x.a, .int .i64 x.b, .int .i64 x.line, .string x.text] 79) = w1 at h1 hcd1 ⊢
  clear ca la qs q0 q1 q2 q3 q4 hcode hbx vb
  have cx := h1.one.cell
  have lx := h1.one.lt
  go_wp2_with fail
  refine (impl_isLabel 2 _).mono ?_; rw [show jumpB 2 = false from rfl]; rintro e w2 ⟨rfl, rfl⟩
  go_wp2_with fail
  have hG := impl_give h1 hI (by omega) hbig ((i : Int) + 1) (s ++ ⟨#[118]⟩) (by rw [ByteArray.size_append]; omega)
  refine hG.mono ?_; clear hG; rintro e w2 ⟨rfl, sv2, tv2, h2⟩
  clear cx lx
  have cx := h2.one.cell
  have lx := h2.one.lt
  go_wp2_with fail
  go_end0
  refine ⟨rfl, (giveP (st, false) ((i : Int) + 1) (s ++ ⟨#[118]⟩)), ?_⟩
  refine ⟨?_, ?_, ?_⟩
  · exact ⟨_, _, h2.less⟩
  · exact (giveP_inv (q := (st, false)) (p := ((i : Int) + 1)) (s := (s ++ ⟨#[118]⟩)) hI FN).1
  · exact HR.out
set_option maxRecDepth 100000 in
set_option maxHeartbeats 2000000 in
theorem visit_3 {w0 wr : World} {b : Nat} {v0 v1 v2 v3 : Value} {Ai : Option Addr} {ni : Nat} {c : List InsT} {st : St} {i : Nat} {x : InsT} {sv tv : Value} {lo hi : Nat} (h : VisIn w0 wr b v0 v1 v2 v3 Ai ni c st i x sv tv lo hi) (k : x.op = 3) :
    Calls Tryz.prog 52 #[.pointer (some ⟨b, 0, none⟩), .int .i64 i] wr (VisPost w0 c.length b v0 v1 v2 v3 Ai ni (stepAt c st i x)) := by
  obtain ⟨vb, hI, hcode, hhi, hbig, hat, hsz, hok⟩ := h
  have hlt : i < c.length := (List.getElem?_eq_some_iff.1 hat).1
  obtain ⟨hgd, hle⟩ := hI.good _ (at_mem hsz) hsz
  obtain ⟨gs, caps, rfl, hgs1, hgs2, hcs1, hcs2⟩ := vb.rows.form (by omega)
  have qs := vb.rows.cell hlt
  obtain ⟨s, hs⟩ : ∃ s, st.at_ i = s := ⟨_, rfl⟩
  rw [hs] at qs hsz hgd hle
  obtain ⟨g, off, hA, hg1, hg2, -, -, q0, q1, q2, q3, q4⟩ := InsT.at_ hcode hat
  subst hA
  rw [k] at q0
  have HBK : Hid (backB c i x = false) := back_no (by rw [k]; rfl)
  unfold maxLen at hcs2
  have ca := vb.box.cell
  have la := vb.box.lt
  have HS := Lib.hid hs
  have HAT := Lib.hid hat
  have K_ := Lib.hid k
  have HG := Lib.hid hgd
  clear hs hat k hgd
  have HEM : Hid (∀ (q : St × Bool) (p : Int) (z : ByteArray), q.1 = st → Fit c.length (empties st.sh) z → empties (giveP q p z).1.sh ≤ empties st.sh) := fun q p z hq hz => by have := (giveP_inv (q := q) (p := p) (s := z) (by rw [hq]; exact hI) (by rw [hq]; exact hz)).2; rwa [hq] at this
  have HR : Hid (stepAt c st i x = if (giveP (st, false) ((i : Int) + 1) (s ++ ⟨#[118]⟩)).2 = true then none else some (giveP (st, false) ((i : Int) + 1) (s ++ ⟨#[118]⟩)).1) := by
    show _ = _
    have ha : after x (st.at_ i) = if true = true then some ((s ++ ⟨#[118]⟩), ⟨#[]⟩) else none := by rw [HS.out]; simp only [after, K_.out]; rfl
    have := step_q (nx' := (s ++ ⟨#[118]⟩)) (lb' := ⟨#[]⟩) HBK.out ha (fun _ => rfl) (fun _ => rfl)
    simp only [Bool.not_true, Bool.or_false] at this
    rw [giveP_nil] at this
    exact this
  have FN : Fit c.length (empties st.sh) (s ++ ⟨#[118]⟩) := (fit_app HG.out hle _)
  go_enter Tryz.func52, Tryz.ntmps52
  go_upto_region 2 with (fail)
  have h1 := vb.more #[.int .i64 3, .int .i64 x.a, .int .i64 x.b, .int .i64 x.line, .string x.text] 79
  have hcd1 := hcode.alloc (Nat.le_trans hhi vb.rows.bel.size) (.cells #[.int .i64 3, .int .i64 x.a, .int .i64 x.b, .int .i64 x.line, .string x.text] 79)
  obtain ⟨bx, hbx⟩ : ∃ bx, wr.heap.size = bx := ⟨_, rfl⟩
  rw [hbx] at h1 ⊢
  generalize wr.alloc (.cells #[.int .i64 3, .int .i64 x.a, .int .i64 x.b, .int .i64 x.line, .string x.text] 79) = w1 at h1 hcd1 ⊢
  clear ca la qs q0 q1 q2 q3 q4 hcode hbx vb
  have cx := h1.one.cell
  have lx := h1.one.lt
  go_wp2_with fail
  refine (impl_isLabel 3 _).mono ?_; rw [show jumpB 3 = false from rfl]; rintro e w2 ⟨rfl, rfl⟩
  go_wp2_with fail
  have hG := impl_give h1 hI (by omega) hbig ((i : Int) + 1) (s ++ ⟨#[118]⟩) (by rw [ByteArray.size_append]; omega)
  refine hG.mono ?_; clear hG; rintro e w2 ⟨rfl, sv2, tv2, h2⟩
  clear cx lx
  have cx := h2.one.cell
  have lx := h2.one.lt
  go_wp2_with fail
  go_end0
  refine ⟨rfl, (giveP (st, false) ((i : Int) + 1) (s ++ ⟨#[118]⟩)), ?_⟩
  refine ⟨?_, ?_, ?_⟩
  · exact ⟨_, _, h2.less⟩
  · exact (giveP_inv (q := (st, false)) (p := ((i : Int) + 1)) (s := (s ++ ⟨#[118]⟩)) hI FN).1
  · exact HR.out
set_option maxRecDepth 100000 in
set_option maxHeartbeats 2000000 in
theorem visit_4 {w0 wr : World} {b : Nat} {v0 v1 v2 v3 : Value} {Ai : Option Addr} {ni : Nat} {c : List InsT} {st : St} {i : Nat} {x : InsT} {sv tv : Value} {lo hi : Nat} (h : VisIn w0 wr b v0 v1 v2 v3 Ai ni c st i x sv tv lo hi) (k : x.op = 4) :
    Calls Tryz.prog 52 #[.pointer (some ⟨b, 0, none⟩), .int .i64 i] wr (VisPost w0 c.length b v0 v1 v2 v3 Ai ni (stepAt c st i x)) := by
  obtain ⟨vb, hI, hcode, hhi, hbig, hat, hsz, hok⟩ := h
  have hlt : i < c.length := (List.getElem?_eq_some_iff.1 hat).1
  obtain ⟨hgd, hle⟩ := hI.good _ (at_mem hsz) hsz
  obtain ⟨gs, caps, rfl, hgs1, hgs2, hcs1, hcs2⟩ := vb.rows.form (by omega)
  have qs := vb.rows.cell hlt
  obtain ⟨s, hs⟩ : ∃ s, st.at_ i = s := ⟨_, rfl⟩
  rw [hs] at qs hsz hgd hle
  obtain ⟨g, off, hA, hg1, hg2, -, -, q0, q1, q2, q3, q4⟩ := InsT.at_ hcode hat
  subst hA
  rw [k] at q0
  have HBK : Hid (backB c i x = false) := back_no (by rw [k]; rfl)
  unfold maxLen at hcs2
  have ca := vb.box.cell
  have la := vb.box.lt
  have HS := Lib.hid hs
  have HAT := Lib.hid hat
  have K_ := Lib.hid k
  have HG := Lib.hid hgd
  clear hs hat k hgd
  have HEM : Hid (∀ (q : St × Bool) (p : Int) (z : ByteArray), q.1 = st → Fit c.length (empties st.sh) z → empties (giveP q p z).1.sh ≤ empties st.sh) := fun q p z hq hz => by have := (giveP_inv (q := q) (p := p) (s := z) (by rw [hq]; exact hI) (by rw [hq]; exact hz)).2; rwa [hq] at this
  have HR : Hid (stepAt c st i x = if (giveP (st, false) ((i : Int) + 1) (s ++ ⟨#[118]⟩)).2 = true then none else some (giveP (st, false) ((i : Int) + 1) (s ++ ⟨#[118]⟩)).1) := by
    show _ = _
    have ha : after x (st.at_ i) = if true = true then some ((s ++ ⟨#[118]⟩), ⟨#[]⟩) else none := by rw [HS.out]; simp only [after, K_.out]; rfl
    have := step_q (nx' := (s ++ ⟨#[118]⟩)) (lb' := ⟨#[]⟩) HBK.out ha (fun _ => rfl) (fun _ => rfl)
    simp only [Bool.not_true, Bool.or_false] at this
    rw [giveP_nil] at this
    exact this
  have FN : Fit c.length (empties st.sh) (s ++ ⟨#[118]⟩) := (fit_app HG.out hle _)
  go_enter Tryz.func52, Tryz.ntmps52
  go_upto_region 2 with (fail)
  have h1 := vb.more #[.int .i64 4, .int .i64 x.a, .int .i64 x.b, .int .i64 x.line, .string x.text] 79
  have hcd1 := hcode.alloc (Nat.le_trans hhi vb.rows.bel.size) (.cells #[.int .i64 4, .int .i64 x.a, .int .i64 x.b, .int .i64 x.line, .string x.text] 79)
  obtain ⟨bx, hbx⟩ : ∃ bx, wr.heap.size = bx := ⟨_, rfl⟩
  rw [hbx] at h1 ⊢
  generalize wr.alloc (.cells #[.int .i64 4, .int .i64 x.a, .int .i64 x.b, .int .i64 x.line, .string x.text] 79) = w1 at h1 hcd1 ⊢
  clear ca la qs q0 q1 q2 q3 q4 hcode hbx vb
  have cx := h1.one.cell
  have lx := h1.one.lt
  go_wp2_with fail
  refine (impl_isLabel 4 _).mono ?_; rw [show jumpB 4 = false from rfl]; rintro e w2 ⟨rfl, rfl⟩
  go_wp2_with fail
  have hG := impl_give h1 hI (by omega) hbig ((i : Int) + 1) (s ++ ⟨#[118]⟩) (by rw [ByteArray.size_append]; omega)
  refine hG.mono ?_; clear hG; rintro e w2 ⟨rfl, sv2, tv2, h2⟩
  clear cx lx
  have cx := h2.one.cell
  have lx := h2.one.lt
  go_wp2_with fail
  go_end0
  refine ⟨rfl, (giveP (st, false) ((i : Int) + 1) (s ++ ⟨#[118]⟩)), ?_⟩
  refine ⟨?_, ?_, ?_⟩
  · exact ⟨_, _, h2.less⟩
  · exact (giveP_inv (q := (st, false)) (p := ((i : Int) + 1)) (s := (s ++ ⟨#[118]⟩)) hI FN).1
  · exact HR.out
set_option maxRecDepth 100000 in
set_option maxHeartbeats 2000000 in
theorem visit_6 {w0 wr : World} {b : Nat} {v0 v1 v2 v3 : Value} {Ai : Option Addr} {ni : Nat} {c : List InsT} {st : St} {i : Nat} {x : InsT} {sv tv : Value} {lo hi : Nat} (h : VisIn w0 wr b v0 v1 v2 v3 Ai ni c st i x sv tv lo hi) (k : x.op = 6) :
    Calls Tryz.prog 52 #[.pointer (some ⟨b, 0, none⟩), .int .i64 i] wr (VisPost w0 c.length b v0 v1 v2 v3 Ai ni (stepAt c st i x)) := by
  obtain ⟨vb, hI, hcode, hhi, hbig, hat, hsz, hok⟩ := h
  have hlt : i < c.length := (List.getElem?_eq_some_iff.1 hat).1
  obtain ⟨hgd, hle⟩ := hI.good _ (at_mem hsz) hsz
  obtain ⟨gs, caps, rfl, hgs1, hgs2, hcs1, hcs2⟩ := vb.rows.form (by omega)
  have qs := vb.rows.cell hlt
  obtain ⟨s, hs⟩ : ∃ s, st.at_ i = s := ⟨_, rfl⟩
  rw [hs] at qs hsz hgd hle
  obtain ⟨g, off, hA, hg1, hg2, -, -, q0, q1, q2, q3, q4⟩ := InsT.at_ hcode hat
  subst hA
  rw [k] at q0
  have HBK : Hid (backB c i x = false) := back_no (by rw [k]; rfl)
  unfold maxLen at hcs2
  have ca := vb.box.cell
  have la := vb.box.lt
  have HS := Lib.hid hs
  have HAT := Lib.hid hat
  have K_ := Lib.hid k
  have HG := Lib.hid hgd
  clear hs hat k hgd
  have HEM : Hid (∀ (q : St × Bool) (p : Int) (z : ByteArray), q.1 = st → Fit c.length (empties st.sh) z → empties (giveP q p z).1.sh ≤ empties st.sh) := fun q p z hq hz => by have := (giveP_inv (q := q) (p := p) (s := z) (by rw [hq]; exact hI) (by rw [hq]; exact hz)).2; rwa [hq] at this
  have HR : Hid (stepAt c st i x = if (giveP (st, false) ((i : Int) + 1) (s ++ ⟨#[118]⟩)).2 = true then none else some (giveP (st, false) ((i : Int) + 1) (s ++ ⟨#[118]⟩)).1) := by
    show _ = _
    have ha : after x (st.at_ i) = if true = true then some ((s ++ ⟨#[118]⟩), ⟨#[]⟩) else none := by rw [HS.out]; simp only [after, K_.out]; rfl
    have := step_q (nx' := (s ++ ⟨#[118]⟩)) (lb' := ⟨#[]⟩) HBK.out ha (fun _ => rfl) (fun _ => rfl)
    simp only [Bool.not_true, Bool.or_false] at this
    rw [giveP_nil] at this
    exact this
  have FN : Fit c.length (empties st.sh) (s ++ ⟨#[118]⟩) := (fit_app HG.out hle _)
  go_enter Tryz.func52, Tryz.ntmps52
  go_upto_region 2 with (fail)
  have h1 := vb.more #[.int .i64 6, .int .i64 x.a, .int .i64 x.b, .int .i64 x.line, .string x.text] 79
  have hcd1 := hcode.alloc (Nat.le_trans hhi vb.rows.bel.size) (.cells #[.int .i64 6, .int .i64 x.a, .int .i64 x.b, .int .i64 x.line, .string x.text] 79)
  obtain ⟨bx, hbx⟩ : ∃ bx, wr.heap.size = bx := ⟨_, rfl⟩
  rw [hbx] at h1 ⊢
  generalize wr.alloc (.cells #[.int .i64 6, .int .i64 x.a, .int .i64 x.b, .int .i64 x.line, .string x.text] 79) = w1 at h1 hcd1 ⊢
  clear ca la qs q0 q1 q2 q3 q4 hcode hbx vb
  have cx := h1.one.cell
  have lx := h1.one.lt
  go_wp2_with fail
  refine (impl_isLabel 6 _).mono ?_; rw [show jumpB 6 = false from rfl]; rintro e w2 ⟨rfl, rfl⟩
  go_wp2_with fail
  have hG := impl_give h1 hI (by omega) hbig ((i : Int) + 1) (s ++ ⟨#[118]⟩) (by rw [ByteArray.size_append]; omega)
  refine hG.mono ?_; clear hG; rintro e w2 ⟨rfl, sv2, tv2, h2⟩
  clear cx lx
  have cx := h2.one.cell
  have lx := h2.one.lt
  go_wp2_with fail
  go_end0
  refine ⟨rfl, (giveP (st, false) ((i : Int) + 1) (s ++ ⟨#[118]⟩)), ?_⟩
  refine ⟨?_, ?_, ?_⟩
  · exact ⟨_, _, h2.less⟩
  · exact (giveP_inv (q := (st, false)) (p := ((i : Int) + 1)) (s := (s ++ ⟨#[118]⟩)) hI FN).1
  · exact HR.out
set_option maxRecDepth 100000 in
set_option maxHeartbeats 2000000 in
theorem visit_7 {w0 wr : World} {b : Nat} {v0 v1 v2 v3 : Value} {Ai : Option Addr} {ni : Nat} {c : List InsT} {st : St} {i : Nat} {x : InsT} {sv tv : Value} {lo hi : Nat} (h : VisIn w0 wr b v0 v1 v2 v3 Ai ni c st i x sv tv lo hi) (k : x.op = 7) :
    Calls Tryz.prog 52 #[.pointer (some ⟨b, 0, none⟩), .int .i64 i] wr (VisPost w0 c.length b v0 v1 v2 v3 Ai ni (stepAt c st i x)) := by
  obtain ⟨vb, hI, hcode, hhi, hbig, hat, hsz, hok⟩ := h
  have hlt : i < c.length := (List.getElem?_eq_some_iff.1 hat).1
  obtain ⟨hgd, hle⟩ := hI.good _ (at_mem hsz) hsz
  obtain ⟨gs, caps, rfl, hgs1, hgs2, hcs1, hcs2⟩ := vb.rows.form (by omega)
  have qs := vb.rows.cell hlt
  obtain ⟨s, hs⟩ : ∃ s, st.at_ i = s := ⟨_, rfl⟩
  rw [hs] at qs hsz hgd hle
  obtain ⟨g, off, hA, hg1, hg2, -, -, q0, q1, q2, q3, q4⟩ := InsT.at_ hcode hat
  subst hA
  rw [k] at q0
  have HBK : Hid (backB c i x = false) := back_no (by rw [k]; rfl)
  unfold maxLen at hcs2
  have ca := vb.box.cell
  have la := vb.box.lt
  have HS := Lib.hid hs
  have HAT := Lib.hid hat
  have K_ := Lib.hid k
  have HG := Lib.hid hgd
  clear hs hat k hgd
  have HEM : Hid (∀ (q : St × Bool) (p : Int) (z : ByteArray), q.1 = st → Fit c.length (empties st.sh) z → empties (giveP q p z).1.sh ≤ empties st.sh) := fun q p z hq hz => by have := (giveP_inv (q := q) (p := p) (s := z) (by rw [hq]; exact hI) (by rw [hq]; exact hz)).2; rwa [hq] at this
  have HR : Hid (stepAt c st i x = if (giveP (st, false) ((i : Int) + 1) (s ++ ⟨#[118]⟩)).2 = true then none else some (giveP (st, false) ((i : Int) + 1) (s ++ ⟨#[118]⟩)).1) := by
    show _ = _
    have ha : after x (st.at_ i) = if true = true then some ((s ++ ⟨#[118]⟩), ⟨#[]⟩) else none := by rw [HS.out]; simp only [after, K_.out]; rfl
    have := step_q (nx' := (s ++ ⟨#[118]⟩)) (lb' := ⟨#[]⟩) HBK.out ha (fun _ => rfl) (fun _ => rfl)
    simp only [Bool.not_true, Bool.or_false] at this
    rw [giveP_nil] at this
    exact this
  have FN : Fit c.length (empties st.sh) (s ++ ⟨#[118]⟩) := (fit_app HG.out hle _)
  go_enter Tryz.func52, Tryz.ntmps52
  go_upto_region 2 with (fail)
  have h1 := vb.more #[.int .i64 7, .int .i64 x.a, .int .i64 x.b, .int .i64 x.line, .string x.text] 79
  have hcd1 := hcode.alloc (Nat.le_trans hhi vb.rows.bel.size) (.cells #[.int .i64 7, .int .i64 x.a, .int .i64 x.b, .int .i64 x.line, .string x.text] 79)
  obtain ⟨bx, hbx⟩ : ∃ bx, wr.heap.size = bx := ⟨_, rfl⟩
  rw [hbx] at h1 ⊢
  generalize wr.alloc (.cells #[.int .i64 7, .int .i64 x.a, .int .i64 x.b, .int .i64 x.line, .string x.text] 79) = w1 at h1 hcd1 ⊢
  clear ca la qs q0 q1 q2 q3 q4 hcode hbx vb
  have cx := h1.one.cell
  have lx := h1.one.lt
  go_wp2_with fail
  refine (impl_isLabel 7 _).mono ?_; rw [show jumpB 7 = false from rfl]; rintro e w2 ⟨rfl, rfl⟩
  go_wp2_with fail
  have hG := impl_give h1 hI (by omega) hbig ((i : Int) + 1) (s ++ ⟨#[118]⟩) (by rw [ByteArray.size_append]; omega)
  refine hG.mono ?_; clear hG; rintro e w2 ⟨rfl, sv2, tv2, h2⟩
  clear cx lx
  have cx := h2.one.cell
  have lx := h2.one.lt
  go_wp2_with fail
  go_end0
  refine ⟨rfl, (giveP (st, false) ((i : Int) + 1) (s ++ ⟨#[118]⟩)), ?_⟩
  refine ⟨?_, ?_, ?_⟩
  · exact ⟨_, _, h2.less⟩
  · exact (giveP_inv (q := (st, false)) (p := ((i : Int) + 1)) (s := (s ++ ⟨#[118]⟩)) hI FN).1
  · exact HR.out
set_option maxRecDepth 100000 in
set_option maxHeartbeats 2000000 in
theorem visit_8 {w0 wr : World} {b : Nat} {v0 v1 v2 v3 : Value} {Ai : Option Addr} {ni : Nat} {c : List InsT} {st : St} {i : Nat} {x : InsT} {sv tv : Value} {lo hi : Nat} (h : VisIn w0 wr b v0 v1 v2 v3 Ai ni c st i x sv tv lo hi) (k : x.op = 8) :
    Calls Tryz.prog 52 #[.pointer (some ⟨b, 0, none⟩), .int .i64 i] wr (VisPost w0 c.length b v0 v1 v2 v3 Ai ni (stepAt c st i x)) := by
  obtain ⟨vb, hI, hcode, hhi, hbig, hat, hsz, hok⟩ := h
  have hlt : i < c.length := (List.getElem?_eq_some_iff.1 hat).1
  obtain ⟨hgd, hle⟩ := hI.good _ (at_mem hsz) hsz
  obtain ⟨gs, caps, rfl, hgs1, hgs2, hcs1, hcs2⟩ := vb.rows.form (by omega)
  have qs := vb.rows.cell hlt
  obtain ⟨s, hs⟩ : ∃ s, st.at_ i = s := ⟨_, rfl⟩
  rw [hs] at qs hsz hgd hle
  obtain ⟨g, off, hA, hg1, hg2, -, -, q0, q1, q2, q3, q4⟩ := InsT.at_ hcode hat
  subst hA
  rw [k] at q0
  have HBK : Hid (backB c i x = false) := back_no (by rw [k]; rfl)
  unfold maxLen at hcs2
  have ca := vb.box.cell
  have la := vb.box.lt
  have HS := Lib.hid hs
  have HAT := Lib.hid hat
  have K_ := Lib.hid k
  have HG := Lib.hid hgd
  clear hs hat k hgd
  have HEM : Hid (∀ (q : St × Bool) (p : Int) (z : ByteArray), q.1 = st → Fit c.length (empties st.sh) z → empties (giveP q p z).1.sh ≤ empties st.sh) := fun q p z hq hz => by have := (giveP_inv (q := q) (p := p) (s := z) (by rw [hq]; exact hI) (by rw [hq]; exact hz)).2; rwa [hq] at this
  have HR : Hid (stepAt c st i x = if (giveP (st, false) ((i : Int) + 1) (s ++ ⟨#[118]⟩)).2 = true then none else some (giveP (st, false) ((i : Int) + 1) (s ++ ⟨#[118]⟩)).1) := by
    show _ = _
    have ha : after x (st.at_ i) = if true = true then some ((s ++ ⟨#[118]⟩), ⟨#[]⟩) else none := by rw [HS.out]; simp only [after, K_.out]; rfl
    have := step_q (nx' := (s ++ ⟨#[118]⟩)) (lb' := ⟨#[]⟩) HBK.out ha (fun _ => rfl) (fun _ => rfl)
    simp only [Bool.not_true, Bool.or_false] at this
    rw [giveP_nil] at this
    exact this
  have FN : Fit c.length (empties st.sh) (s ++ ⟨#[118]⟩) := (fit_app HG.out hle _)
  go_enter Tryz.func52, Tryz.ntmps52
  go_upto_region 2 with (fail)
  have h1 := vb.more #[.int .i64 8, .int .i64 x.a, .int .i64 x.b, .int .i64 x.line, .string x.text] 79
  have hcd1 := hcode.alloc (Nat.le_trans hhi vb.rows.bel.size) (.cells #[.int .i64 8, .int .i64 x.a, .int .i64 x.b, .int .i64 x.line, .string x.text] 79)
  obtain ⟨bx, hbx⟩ : ∃ bx, wr.heap.size = bx := ⟨_, rfl⟩
  rw [hbx] at h1 ⊢
  generalize wr.alloc (.cells #[.int .i64 8, .int .i64 x.a, .int .i64 x.b, .int .i64 x.line, .string x.text] 79) = w1 at h1 hcd1 ⊢
  clear ca la qs q0 q1 q2 q3 q4 hcode hbx vb
  have cx := h1.one.cell
  have lx := h1.one.lt
  go_wp2_with fail
  refine (impl_isLabel 8 _).mono ?_; rw [show jumpB 8 = false from rfl]; rintro e w2 ⟨rfl, rfl⟩
  go_wp2_with fail
  have hG := impl_give h1 hI (by omega) hbig ((i : Int) + 1) (s ++ ⟨#[118]⟩) (by rw [ByteArray.size_append]; omega)
  refine hG.mono ?_; clear hG; rintro e w2 ⟨rfl, sv2, tv2, h2⟩
  clear cx lx
  have cx := h2.one.cell
  have lx := h2.one.lt
  go_wp2_with fail
  go_end0
  refine ⟨rfl, (giveP (st, false) ((i : Int) + 1) (s ++ ⟨#[118]⟩)), ?_⟩
  refine ⟨?_, ?_, ?_⟩
  · exact ⟨_, _, h2.less⟩
  · exact (giveP_inv (q := (st, false)) (p := ((i : Int) + 1)) (s := (s ++ ⟨#[118]⟩)) hI FN).1
  · exact HR.out
set_option maxRecDepth 100000 in
set_option maxHeartbeats 2000000 in
theorem visit_9 {w0 wr : World} {b : Nat} {v0 v1 v2 v3 : Value} {Ai : Option Addr} {ni : Nat} {c : List InsT} {st : St} {i : Nat} {x : InsT} {sv tv : Value} {lo hi : Nat} (h : VisIn w0 wr b v0 v1 v2 v3 Ai ni c st i x sv tv lo hi) (k : x.op = 9) :
    Calls Tryz.prog 52 #[.pointer (some ⟨b, 0, none⟩), .int .i64 i] wr (VisPost w0 c.length b v0 v1 v2 v3 Ai ni (stepAt c st i x)) := by
  obtain ⟨vb, hI, hcode, hhi, hbig, hat, hsz, hok⟩ := h
  have hlt : i < c.length := (List.getElem?_eq_some_iff.1 hat).1
  obtain ⟨hgd, hle⟩ := hI.good _ (at_mem hsz) hsz
  obtain ⟨gs, caps, rfl, hgs1, hgs2, hcs1, hcs2⟩ := vb.rows.form (by omega)
  have qs := vb.rows.cell hlt
  obtain ⟨s, hs⟩ : ∃ s, st.at_ i = s := ⟨_, rfl⟩
  rw [hs] at qs hsz hgd hle
  obtain ⟨g, off, hA, hg1, hg2, -, -, q0, q1, q2, q3, q4⟩ := InsT.at_ hcode hat
  subst hA
  rw [k] at q0
  have HBK : Hid (backB c i x = false) := back_no (by rw [k]; rfl)
  unfold maxLen at hcs2
  have ca := vb.box.cell
  have la := vb.box.lt
  have HS := Lib.hid hs
  have HAT := Lib.hid hat
  have K_ := Lib.hid k
  have HG := Lib.hid hgd
  clear hs hat k hgd
  have HEM : Hid (∀ (q : St × Bool) (p : Int) (z : ByteArray), q.1 = st → Fit c.length (empties st.sh) z → empties (giveP q p z).1.sh ≤ empties st.sh) := fun q p z hq hz => by have := (giveP_inv (q := q) (p := p) (s := z) (by rw [hq]; exact hI) (by rw [hq]; exact hz)).2; rwa [hq] at this
  have HR : Hid (stepAt c st i x = if (giveP (st, false) ((i : Int) + 1) (s ++ ⟨#[118]⟩)).2 = true then none else some (giveP (st, false) ((i : Int) + 1) (s ++ ⟨#[118]⟩)).1) := by
    show _ = _
    have ha : after x (st.at_ i) = if true = true then some ((s ++ ⟨#[118]⟩), ⟨#[]⟩) else none := by rw [HS.out]; simp only [after, K_.out]; rfl
    have := step_q (nx' := (s ++ ⟨#[118]⟩)) (lb' := ⟨#[]⟩) HBK.out ha (fun _ => rfl) (fun _ => rfl)
    simp only [Bool.not_true, Bool.or_false] at this
    rw [giveP_nil] at this
    exact this
  have FN : Fit c.length (empties st.sh) (s ++ ⟨#[118]⟩) := (fit_app HG.out hle _)
  go_enter Tryz.func52, Tryz.ntmps52
  go_upto_region 2 with (fail)
  have h1 := vb.more #[.int .i64 9, .int .i64 x.a, .int .i64 x.b, .int .i64 x.line, .string x.text] 79
  have hcd1 := hcode.alloc (Nat.le_trans hhi vb.rows.bel.size) (.cells #[.int .i64 9, .int .i64 x.a, .int .i64 x.b, .int .i64 x.line, .string x.text] 79)
  obtain ⟨bx, hbx⟩ : ∃ bx, wr.heap.size = bx := ⟨_, rfl⟩
  rw [hbx] at h1 ⊢
  generalize wr.alloc (.cells #[.int .i64 9, .int .i64 x.a, .int .i64 x.b, .int .i64 x.line, .string x.text] 79) = w1 at h1 hcd1 ⊢
  clear ca la qs q0 q1 q2 q3 q4 hcode hbx vb
  have cx := h1.one.cell
  have lx := h1.one.lt
  go_wp2_with fail
  refine (impl_isLabel 9 _).mono ?_; rw [show jumpB 9 = false from rfl]; rintro e w2 ⟨rfl, rfl⟩
  go_wp2_with fail
  have hG := impl_give h1 hI (by omega) hbig ((i : Int) + 1) (s ++ ⟨#[118]⟩) (by rw [ByteArray.size_append]; omega)
  refine hG.mono ?_; clear hG; rintro e w2 ⟨rfl, sv2, tv2, h2⟩
  clear cx lx
  have cx := h2.one.cell
  have lx := h2.one.lt
  go_wp2_with fail
  go_end0
  refine ⟨rfl, (giveP (st, false) ((i : Int) + 1) (s ++ ⟨#[118]⟩)), ?_⟩
  refine ⟨?_, ?_, ?_⟩
  · exact ⟨_, _, h2.less⟩
  · exact (giveP_inv (q := (st, false)) (p := ((i : Int) + 1)) (s := (s ++ ⟨#[118]⟩)) hI FN).1
  · exact HR.out
set_option maxRecDepth 100000 in
set_option maxHeartbeats 2000000 in
theorem visit_10 {w0 wr : World} {b : Nat} {v0 v1 v2 v3 : Value} {Ai : Option Addr} {ni : Nat} {c : List InsT} {st : St} {i : Nat} {x : InsT} {sv tv : Value} {lo hi : Nat} (h : VisIn w0 wr b v0 v1 v2 v3 Ai ni c st i x sv tv lo hi) (k : x.op = 10) :
    Calls Tryz.prog 52 #[.pointer (some ⟨b, 0, none⟩), .int .i64 i] wr (VisPost w0 c.length b v0 v1 v2 v3 Ai ni (stepAt c st i x)) := by
  obtain ⟨vb, hI, hcode, hhi, hbig, hat, hsz, hok⟩ := h
  have hlt : i < c.length := (List.getElem?_eq_some_iff.1 hat).1
  obtain ⟨hgd, hle⟩ := hI.good _ (at_mem hsz) hsz
  obtain ⟨gs, caps, rfl, hgs1, hgs2, hcs1, hcs2⟩ := vb.rows.form (by omega)
  have qs := vb.rows.cell hlt
  obtain ⟨s, hs⟩ : ∃ s, st.at_ i = s := ⟨_, rfl⟩
  rw [hs] at qs hsz hgd hle
  obtain ⟨g, off, hA, hg1, hg2, -, -, q0, q1, q2, q3, q4⟩ := InsT.at_ hcode hat
  subst hA
  rw [k] at q0
  have HBK : Hid (backB c i x = false) := back_no (by rw [k]; rfl)
  unfold maxLen at hcs2
  have ca := vb.box.cell
  have la := vb.box.lt
  have HS := Lib.hid hs
  have HAT := Lib.hid hat
  have K_ := Lib.hid k
  have HG := Lib.hid hgd
  clear hs hat k hgd
  have HEM : Hid (∀ (q : St × Bool) (p : Int) (z : ByteArray), q.1 = st → Fit c.length (empties st.sh) z → empties (giveP q p z).1.sh ≤ empties st.sh) := fun q p z hq hz => by have := (giveP_inv (q := q) (p := p) (s := z) (by rw [hq]; exact hI) (by rw [hq]; exact hz)).2; rwa [hq] at this
  have HR : Hid (stepAt c st i x = if (giveP (st, false) ((i : Int) + 1) (s ++ ⟨#[118]⟩)).2 = true then none else some (giveP (st, false) ((i : Int) + 1) (s ++ ⟨#[118]⟩)).1) := by
    show _ = _
    have ha : after x (st.at_ i) = if true = true then some ((s ++ ⟨#[118]⟩), ⟨#[]⟩) else none := by rw [HS.out]; simp only [after, K_.out]; rfl
    have := step_q (nx' := (s ++ ⟨#[118]⟩)) (lb' := ⟨#[]⟩) HBK.out ha (fun _ => rfl) (fun _ => rfl)
    simp only [Bool.not_true, Bool.or_false] at this
    rw [giveP_nil] at this
    exact this
  have FN : Fit c.length (empties st.sh) (s ++ ⟨#[118]⟩) := (fit_app HG.out hle _)
  go_enter Tryz.func52, Tryz.ntmps52
  go_upto_region 2 with (fail)
  have h1 := vb.more #[.int .i64 10, .int .i64 x.a, .int .i64 x.b, .int .i64 x.line, .string x.text] 79
  have hcd1 := hcode.alloc (Nat.le_trans hhi vb.rows.bel.size) (.cells #[.int .i64 10, .int .i64 x.a, .int .i64 x.b, .int .i64 x.line, .string x.text] 79)
  obtain ⟨bx, hbx⟩ : ∃ bx, wr.heap.size = bx := ⟨_, rfl⟩
  rw [hbx] at h1 ⊢
  generalize wr.alloc (.cells #[.int .i64 10, .int .i64 x.a, .int .i64 x.b, .int .i64 x.line, .string x.text] 79) = w1 at h1 hcd1 ⊢
  clear ca la qs q0 q1 q2 q3 q4 hcode hbx vb
  have cx := h1.one.cell
  have lx := h1.one.lt
  go_wp2_with fail
  refine (impl_isLabel 10 _).mono ?_; rw [show jumpB 10 = false from rfl]; rintro e w2 ⟨rfl, rfl⟩
  go_wp2_with fail
  have hG := impl_give h1 hI (by omega) hbig ((i : Int) + 1) (s ++ ⟨#[118]⟩) (by rw [ByteArray.size_append]; omega)
  refine hG.mono ?_; clear hG; rintro e w2 ⟨rfl, sv2, tv2, h2⟩
  clear cx lx
  have cx := h2.one.cell
  have lx := h2.one.lt
  go_wp2_with fail
  go_end0
  refine ⟨rfl, (giveP (st, false) ((i : Int) + 1) (s ++ ⟨#[118]⟩)), ?_⟩
  refine ⟨?_, ?_, ?_⟩
  · exact ⟨_, _, h2.less⟩
  · exact (giveP_inv (q := (st, false)) (p := ((i : Int) + 1)) (s := (s ++ ⟨#[118]⟩)) hI FN).1
  · exact HR.out
set_option maxRecDepth 100000 in
set_option maxHeartbeats 2000000 in
theorem visit_16 {w0 wr : World} {b : Nat} {v0 v1 v2 v3 : Value} {Ai : Option Addr} {ni : Nat} {c : List InsT} {st : St} {i : Nat} {x : InsT} {sv tv : Value} {lo hi : Nat} (h : VisIn w0 wr b v0 v1 v2 v3 Ai ni c st i x sv tv lo hi) (k : x.op = 16) :
    Calls Tryz.prog 52 #[.pointer (some ⟨b, 0, none⟩), .int .i64 i] wr (VisPost w0 c.length b v0 v1 v2 v3 Ai ni (stepAt c st i x)) := by
  obtain ⟨vb, hI, hcode, hhi, hbig, hat, hsz, hok⟩ := h
  have hlt : i < c.length := (List.getElem?_eq_some_iff.1 hat).1
  obtain ⟨hgd, hle⟩ := hI.good _ (at_mem hsz) hsz
  obtain ⟨gs, caps, rfl, hgs1, hgs2, hcs1, hcs2⟩ := vb.rows.form (by omega)
  have qs := vb.rows.cell hlt
  obtain ⟨s, hs⟩ : ∃ s, st.at_ i = s := ⟨_, rfl⟩
  rw [hs] at qs hsz hgd hle
  obtain ⟨g, off, hA, hg1, hg2, -, -, q0, q1, q2, q3, q4⟩ := InsT.at_ hcode hat
  subst hA
  rw [k] at q0
  have HBK : Hid (backB c i x = false) := back_no (by rw [k]; rfl)
  unfold maxLen at hcs2
  have ca := vb.box.cell
  have la := vb.box.lt
  have HS := Lib.hid hs
  have HAT := Lib.hid hat
  have K_ := Lib.hid k
  have HG := Lib.hid hgd
  clear hs hat k hgd
  have HEM : Hid (∀ (q : St × Bool) (p : Int) (z : ByteArray), q.1 = st → Fit c.length (empties st.sh) z → empties (giveP q p z).1.sh ≤ empties st.sh) := fun q p z hq hz => by have := (giveP_inv (q := q) (p := p) (s := z) (by rw [hq]; exact hI) (by rw [hq]; exact hz)).2; rwa [hq] at this
  have HR : Hid (stepAt c st i x = if (st, false).2 = true then none else some (st, false).1) := by
    show _ = _
    have ha : after x (st.at_ i) = if true = true then some (⟨#[]⟩, ⟨#[]⟩) else none := by rw [HS.out]; simp only [after, K_.out]; rfl
    have := step_q (nx' := ⟨#[]⟩) (lb' := ⟨#[]⟩) HBK.out ha (fun _ => rfl) (fun _ => rfl)
    simp only [Bool.not_true, Bool.or_false] at this
    rw [giveP_nil] at this
    rw [giveP_nil] at this
    exact this
  go_enter Tryz.func52, Tryz.ntmps52
  go_upto_region 2 with (fail)
  have h1 := vb.more #[.int .i64 16, .int .i64 x.a, .int .i64 x.b, .int .i64 x.line, .string x.text] 79
  have hcd1 := hcode.alloc (Nat.le_trans hhi vb.rows.bel.size) (.cells #[.int .i64 16, .int .i64 x.a, .int .i64 x.b, .int .i64 x.line, .string x.text] 79)
  obtain ⟨bx, hbx⟩ : ∃ bx, wr.heap.size = bx := ⟨_, rfl⟩
  rw [hbx] at h1 ⊢
  generalize wr.alloc (.cells #[.int .i64 16, .int .i64 x.a, .int .i64 x.b, .int .i64 x.line, .string x.text] 79) = w1 at h1 hcd1 ⊢
  clear ca la qs q0 q1 q2 q3 q4 hcode hbx vb
  have cx := h1.one.cell
  have lx := h1.one.lt
  go_wp2_with fail
  refine (impl_isLabel 16 _).mono ?_; rw [show jumpB 16 = false from rfl]; rintro e w2 ⟨rfl, rfl⟩
  go_wp2_with fail
  go_end0
  refine ⟨rfl, (st, false), ?_⟩
  refine ⟨?_, ?_, ?_⟩
  · exact ⟨_, _, h1.less⟩
  · exact hI
  · exact HR.out
set_option maxRecDepth 100000 in
set_option maxHeartbeats 2000000 in
theorem visit_18 {w0 wr : World} {b : Nat} {v0 v1 v2 v3 : Value} {Ai : Option Addr} {ni : Nat} {c : List InsT} {st : St} {i : Nat} {x : InsT} {sv tv : Value} {lo hi : Nat} (h : VisIn w0 wr b v0 v1 v2 v3 Ai ni c st i x sv tv lo hi) (k : x.op = 18) :
    Calls Tryz.prog 52 #[.pointer (some ⟨b, 0, none⟩), .int .i64 i] wr (VisPost w0 c.length b v0 v1 v2 v3 Ai ni (stepAt c st i x)) := by
  obtain ⟨vb, hI, hcode, hhi, hbig, hat, hsz, hok⟩ := h
  have hlt : i < c.length := (List.getElem?_eq_some_iff.1 hat).1
  obtain ⟨hgd, hle⟩ := hI.good _ (at_mem hsz) hsz
  obtain ⟨gs, caps, rfl, hgs1, hgs2, hcs1, hcs2⟩ := vb.rows.form (by omega)
  have qs := vb.rows.cell hlt
  obtain ⟨s, hs⟩ : ∃ s, st.at_ i = s := ⟨_, rfl⟩
  rw [hs] at qs hsz hgd hle
  obtain ⟨g, off, hA, hg1, hg2, -, -, q0, q1, q2, q3, q4⟩ := InsT.at_ hcode hat
  subst hA
  rw [k] at q0
  have HBK : Hid (backB c i x = false) := back_no (by rw [k]; rfl)
  unfold maxLen at hcs2
  have ca := vb.box.cell
  have la := vb.box.lt
  have HS := Lib.hid hs
  have HAT := Lib.hid hat
  have K_ := Lib.hid k
  have HG := Lib.hid hgd
  clear hs hat k hgd
  have HEM : Hid (∀ (q : St × Bool) (p : Int) (z : ByteArray), q.1 = st → Fit c.length (empties st.sh) z → empties (giveP q p z).1.sh ≤ empties st.sh) := fun q p z hq hz => by have := (giveP_inv (q := q) (p := p) (s := z) (by rw [hq]; exact hI) (by rw [hq]; exact hz)).2; rwa [hq] at this
  have HR : Hid (stepAt c st i x = if (giveP (st, false) ((i : Int) + 1) s).2 = true then none else some (giveP (st, false) ((i : Int) + 1) s).1) := by
    show _ = _
    have ha : after x (st.at_ i) = if true = true then some (s, ⟨#[]⟩) else none := by rw [HS.out]; simp only [after, K_.out]; rfl
    have := step_q (nx' := s) (lb' := ⟨#[]⟩) HBK.out ha (fun _ => rfl) (fun _ => rfl)
    simp only [Bool.not_true, Bool.or_false] at this
    rw [giveP_nil] at this
    exact this
  have FN : Fit c.length (empties st.sh) s := (fit_self HG.out hle)
  go_enter Tryz.func52, Tryz.ntmps52
  go_upto_region 2 with (fail)
  have h1 := vb.more #[.int .i64 18, .int .i64 x.a, .int .i64 x.b, .int .i64 x.line, .string x.text] 79
  have hcd1 := hcode.alloc (Nat.le_trans hhi vb.rows.bel.size) (.cells #[.int .i64 18, .int .i64 x.a, .int .i64 x.b, .int .i64 x.line, .string x.text] 79)
  obtain ⟨bx, hbx⟩ : ∃ bx, wr.heap.size = bx := ⟨_, rfl⟩
  rw [hbx] at h1 ⊢
  generalize wr.alloc (.cells #[.int .i64 18, .int .i64 x.a, .int .i64 x.b, .int .i64 x.line, .string x.text] 79) = w1 at h1 hcd1 ⊢
  clear ca la qs q0 q1 q2 q3 q4 hcode hbx vb
  have cx := h1.one.cell
  have lx := h1.one.lt
  go_wp2_with fail
  refine (impl_isLabel 18 _).mono ?_; rw [show jumpB 18 = false from rfl]; rintro e w2 ⟨rfl, rfl⟩
  go_wp2_with fail
  have hG := impl_give h1 hI (by omega) hbig ((i : Int) + 1) s hsz
  refine hG.mono ?_; clear hG; rintro e w2 ⟨rfl, sv2, tv2, h2⟩
  clear cx lx
  have cx := h2.one.cell
  have lx := h2.one.lt
  go_wp2_with fail
  go_end0
  refine ⟨rfl, (giveP (st, false) ((i : Int) + 1) s), ?_⟩
  refine ⟨?_, ?_, ?_⟩
  · exact ⟨_, _, h2.less⟩
  · exact (giveP_inv (q := (st, false)) (p := ((i : Int) + 1)) (s := s) hI FN).1
  · exact HR.out
set_option maxRecDepth 100000 in
set_option maxHeartbeats 2000000 in
theorem visit_11 {w0 wr : World} {b : Nat} {v0 v1 v2 v3 : Value} {Ai : Option Addr} {ni : Nat} {c : List InsT} {st : St} {i : Nat} {x : InsT} {sv tv : Value} {lo hi : Nat} (h : VisIn w0 wr b v0 v1 v2 v3 Ai ni c st i x sv tv lo hi) (k : x.op = 11) :
    Calls Tryz.prog 52 #[.pointer (some ⟨b, 0, none⟩), .int .i64 i] wr (VisPost w0 c.length b v0 v1 v2 v3 Ai ni (stepAt c st i x)) := by
  obtain ⟨vb, hI, hcode, hhi, hbig, hat, hsz, hok⟩ := h
  have hlt : i < c.length := (List.getElem?_eq_some_iff.1 hat).1
  obtain ⟨hgd, hle⟩ := hI.good _ (at_mem hsz) hsz
  obtain ⟨gs, caps, rfl, hgs1, hgs2, hcs1, hcs2⟩ := vb.rows.form (by omega)
  have qs := vb.rows.cell hlt
  obtain ⟨s, hs⟩ : ∃ s, st.at_ i = s := ⟨_, rfl⟩
  rw [hs] at qs hsz hgd hle
  obtain ⟨g, off, hA, hg1, hg2, -, -, q0, q1, q2, q3, q4⟩ := InsT.at_ hcode hat
  subst hA
  rw [k] at q0
  obtain ⟨hb0, hb9⟩ := hok.arg (by omega)
  obtain ⟨bn, hbn⟩ : ∃ bn : Nat, x.b = bn := ⟨x.b.toNat, by omega⟩
  have hb9 : bn ≤ 9 := by omega
  have HBN := Lib.hid hbn
  rw [hbn] at q2
  clear hb0 hbn
  have HBK : Hid (backB c i x = false) := back_no (by rw [k]; rfl)
  unfold maxLen at hcs2
  have ca := vb.box.cell
  have la := vb.box.lt
  have HS := Lib.hid hs
  have HAT := Lib.hid hat
  have K_ := Lib.hid k
  have HG := Lib.hid hgd
  clear hs hat k hgd
  have HEM : Hid (∀ (q : St × Bool) (p : Int) (z : ByteArray), q.1 = st → Fit c.length (empties st.sh) z → empties (giveP q p z).1.sh ≤ empties st.sh) := fun q p z hq hz => by have := (giveP_inv (q := q) (p := p) (s := z) (by rw [hq]; exact hI) (by rw [hq]; exact hz)).2; rwa [hq] at this
  have HR : Hid (stepAt c st i x = if (giveP (st, false || !(endsB s (vees bn))) ((i : Int) + 1) (cutE s (vees bn) ++ ⟨#[118]⟩)).2 = true then none else some (giveP (st, false || !(endsB s (vees bn))) ((i : Int) + 1) (cutE s (vees bn) ++ ⟨#[118]⟩)).1) := by
    show _ = _
    have ha : after x (st.at_ i) = if (endsB s (vees bn)) = true then some (cutN s bn ++ ⟨#[118]⟩, ⟨#[]⟩) else none := by rw [HS.out]; simp only [after, K_.out, HBN.out]; rfl
    have := step_q (nx' := (cutE s (vees bn) ++ ⟨#[118]⟩)) (lb' := ⟨#[]⟩) HBK.out ha (fun e => by rw [cutE_yes (by first | exact e | exact ((Bool.and_eq_true _ _).mp e).2)]; rw [vees_size]) (fun _ => rfl)
    rw [giveP_nil] at this
    exact this
  have hcz := cutE_size s (vees bn) hsz
  have FN : Fit c.length (empties st.sh) (cutE s (vees bn) ++ ⟨#[118]⟩) := (fit_app (cutE_good HG.out) (by have := hcz.2; omega) _)
  go_enter Tryz.func52, Tryz.ntmps52
  go_upto_region 2 with (fail)
  have h1 := vb.more #[.int .i64 11, .int .i64 x.a, .int .i64 (bn : Int), .int .i64 x.line, .string x.text] 79
  have hcd1 := hcode.alloc (Nat.le_trans hhi vb.rows.bel.size) (.cells #[.int .i64 11, .int .i64 x.a, .int .i64 (bn : Int), .int .i64 x.line, .string x.text] 79)
  obtain ⟨bx, hbx⟩ : ∃ bx, wr.heap.size = bx := ⟨_, rfl⟩
  rw [hbx] at h1 ⊢
  generalize wr.alloc (.cells #[.int .i64 11, .int .i64 x.a, .int .i64 (bn : Int), .int .i64 x.line, .string x.text] 79) = w1 at h1 hcd1 ⊢
  clear ca la qs q0 q1 q2 q3 q4 hcode hbx vb
  have cx := h1.one.cell
  have lx := h1.one.lt
  go_wp2_with fail
  refine (impl_isLabel 11 _).mono ?_; rw [show jumpB 11 = false from rfl]; rintro e w2 ⟨rfl, rfl⟩
  go_wp2_with fail
  refine (Tryz.strings_Repeat ⟨#[118]⟩ bn _ (by omega) (by rw [size_one]; omega)).mono ?_; rw [show (⟨(Lib.repeatL (⟨#[118]⟩ : ByteArray).data.toList bn).toArray⟩ : ByteArray) = vees bn from rfl]; rintro e w9 ⟨rfl, hb9⟩
  have h9 := h1.later hb9
  clear cx lx
  have cx := h9.one.cell
  have lx := h9.one.lt
  go_wp2_with fail
  have hG := impl_cutEnd h9 s (vees bn) hsz (by omega)
  refine hG.mono ?_; clear hG; rintro e w10 ⟨rfl, sv10, tv10, h10⟩
  dsimp only at h10
  clear cx lx
  have cx := h10.one.cell
  have lx := h10.one.lt
  go_wp2_with fail
  have hG := impl_give h10 hI (by omega) hbig ((i : Int) + 1) (cutE s (vees bn) ++ ⟨#[118]⟩) (by rw [ByteArray.size_append]; omega)
  refine hG.mono ?_; clear hG; rintro e w11 ⟨rfl, sv11, tv11, h11⟩
  clear cx lx
  have cx := h11.one.cell
  have lx := h11.one.lt
  go_wp2_with fail
  go_end0
  refine ⟨rfl, (giveP (st, false || !endsB s (vees bn)) ((i : Int) + 1) (cutE s (vees bn) ++ ⟨#[118]⟩)), ?_⟩
  refine ⟨?_, ?_, ?_⟩
  · exact ⟨_, _, h11.less⟩
  · exact (giveP_inv (q := (st, false || !endsB s (vees bn))) (p := ((i : Int) + 1)) (s := (cutE s (vees bn) ++ ⟨#[118]⟩)) hI FN).1
  · exact HR.out
end Go.Proofs.YtekobbeoaalibaaGreatDoor
