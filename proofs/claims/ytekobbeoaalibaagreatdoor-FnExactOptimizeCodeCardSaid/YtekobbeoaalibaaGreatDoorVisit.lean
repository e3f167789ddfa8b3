/- Visit: several texts in one. -/
import Derived.Test.YtekobbeoaalibaaGreatDoorVerI
import Derived.Deep.RegionHeld3
import Derived.Test.YtekobbeoaalibaaGreatDoorInsDefs
import Derived.StillTailTactics
import Derived.IntWalk
section
namespace Go.Proofs.YtekobbeoaalibaaGreatDoor
open Go.RowKit
set_option linter.unusedVariables false

theorem wrap8 (n : Int) (h0 : 0 ≤ n) (h1 : n ≤ 255) : IntKind.u8.wrap n = n := by
  simp [IntKind.wrap, IntKind.bits, IntKind.signed]; omega
/-- what the visit is given -/
structure VisIn (w0 wr : World) (b : Nat) (v0 v1 v2 v3 : Value) (Ai : Option Addr) (ni : Nat) (c : List InsT) (st : St) (i : Nat) (x : InsT) (sv tv : Value) (lo hi : Nat) : Prop where
  vb : VB w0 wr c.length b v0 v1 v2 v3 Ai ni [] (st, false) sv tv
  inv : Inv c.length st
  code : LRep wr lo hi 5 InsT.dats (.slice Ai c.length ni) c
  hi_ : hi ≤ w0.heap.size
  big : c.length ≤ 60000
  at_ : c[i]? = some x
  shp : 0 < (st.at_ i).size
  ok : InsV c.length x
def VisPost (w0 : World) (n b : Nat) (v0 v1 v2 v3 : Value) (Ai : Option Addr) (ni : Nat) (r : Option St) (e : Ending) (w' : World) : Prop :=
  e = .returned (.tuple #[]) ∧ ∃ q : St × Bool, VPost w0 n b v0 v1 v2 v3 Ai ni [] q w' ∧ Inv n q.1 ∧ r = if q.2 = true then none else some q.1
theorem size_dup (w : World) : w.heap.size = w.heap.size := rfl
end Go.Proofs.YtekobbeoaalibaaGreatDoor
end

section
namespace Go.Proofs.YtekobbeoaalibaaGreatDoor
open Go.RowKit
set_option linter.unusedVariables false

set_option maxRecDepth 100000 in
set_option maxHeartbeats 2000000 in
theorem visit_1 {w0 wr : World} {b : Nat} {v0 v1 v2 v3 : Value} {Ai : Option Addr} {ni : Nat} {c : List InsT} {st : St} {i : Nat} {x : InsT} {sv tv : Value} {lo hi : Nat} (h : VisIn w0 wr b v0 v1 v2 v3 Ai ni c st i x sv tv lo hi) (k : x.op = 1) :
    Calls Tryz.prog 52 #[.pointer (some ⟨b, 0, none⟩), .int .i64 i] wr (VisPost w0 c.length b v0 v1 v2 v3 Ai ni (stepAt c st i x)) := by
  obtain ⟨vb, hI, hcode, hhi, hbig, hat, hsz, hok⟩ := h
  have hlt : i < c.length := (List.getElem?_eq_some_iff.1 hat).1
  obtain ⟨hgd, hle⟩ := hI.good _ (at_mem hsz) hsz
  obtain ⟨gs, caps, rfl, hgs1, hgs2, hcs1, hcs2⟩ := vb.rows.form (by omega)
  have qs := vb.rows.cell hlt
  obtain ⟨s, hs⟩ : ∃ s, st.at_ i = s := ⟨_, rfl⟩
  rw [hs] at qs hsz hgd hle
  obtain ⟨g, off, hA, hg1, hg2, -, -, q0, q1, q2, q3, q4⟩ := InsT.at_ hcode hat
  subst hA
  rw [k] at q0
  have HBK : Hid (backB c i x = false) := back_no (by rw [k]; rfl)
  unfold maxLen at hcs2
  have ca := vb.box.cell
  have la := vb.box.lt
  have HS := Lib.hid hs
  have HAT := Lib.hid hat
  have K_ := Lib.hid k
  have HG := Lib.hid hgd
  clear hs hat k hgd
  have HEM : Hid (∀ (q : St × Bool) (p : Int) (z : ByteArray), q.1 = st → Fit c.length (empties st.sh) z → empties (giveP q p z).1.sh ≤ empties st.sh) := fun q p z hq hz => by have := (giveP_inv (q := q) (p := p) (s := z) (by rw [hq]; exact hI) (by rw [hq]; exact hz)).2; rwa [hq] at this
  have HR : Hid (stepAt c st i x = if (giveP (st, false) ((i : Int) + 1) (s ++ ⟨#[118]⟩)).2 = true then none else some (giveP (st, false) ((i : Int) + 1) (s ++ ⟨#[118]⟩)).1) := by
    show _ = _
    have ha : after x (st.at_ i) = if true = true then some ((s ++ ⟨#[118]⟩), ⟨#[]⟩) else none := by rw [HS.out]; simp only [after, K_.out]; rfl
    have := step_q (nx' := (s ++ ⟨#[118]⟩)) (lb' := ⟨#[]⟩) HBK.out ha (fun _ => rfl) (fun _ => rfl)
    simp only [Bool.not_true, Bool.or_false] at this
    rw [giveP_nil] at this
    exact this
  have FN : Fit c.length (empties st.sh) (s ++ ⟨#[118]⟩) := (fit_app HG.out hle _)
  go_enter Tryz.func52, Tryz.ntmps52
  go_upto_region 2 with (fail)
  have h1 := vb.more #[.int .i64 1, .int .i64 x.a, .int .i64 x.b, .int .i64 x.line, .string x.text] 79
  have hcd1 := hcode.alloc (Nat.le_trans hhi vb.rows.bel.size) (.cells #[.int .i64 1, .int .i64 x.a, .int .i64 x.b, .int .i64 x.line, .string x.text] 79)
  obtain ⟨bx, hbx⟩ : ∃ bx, wr.heap.size = bx := ⟨_, rfl⟩
  rw [hbx] at h1 ⊢
  generalize wr.alloc (.cells #[.int .i64 1, .int .i64 x.a, .int .i64 x.b, .int .i64 x.line, .string x.text] 79) = w1 at h1 hcd1 ⊢
  clear ca la qs q0 q1 q2 q3 q4 hcode hbx vb
  have cx := h1.one.cell
  have lx := h1.one.lt
  go_wp2_with fail
  refine (impl_isLabel 1 _).mono ?_; rw [show jumpB 1 = false from rfl]; rintro e w2 ⟨rfl, rfl⟩
  go_wp2_with fail
  have hG := impl_give h1 hI (by omega) hbig ((i : Int) + 1) (s ++ ⟨#[118]⟩) (by rw [ByteArray.size_append]; omega)
  refine hG.mono ?_; clear hG; rintro e w2 ⟨rfl, sv2, tv2, h2⟩
  clear cx lx
  have cx := h2.one.cell
  have lx := h2.one.lt
  go_wp2_with fail
  go_end0
  refine ⟨rfl, (giveP (st, false) ((i : Int) + 1) (s ++ ⟨#[118]⟩)), ?_⟩
  refine ⟨?_, ?_, ?_⟩
  · exact ⟨_, _, h2.less⟩
  · exact (giveP_inv (q := (st, false)) (p := ((i : Int) + 1)) (s := (s ++ ⟨#[118]⟩)) hI FN).1
  · exact HR.out
set_option maxRecDepth 100000 in
set_option maxHeartbeats 2000000 in
theorem visit_2 {w0 wr : World} {b : Nat} {v0 v1 v2 v3 : Value} {Ai : Option Addr} {ni : Nat} {c : List InsT} {st : St} {i : Nat} {x : InsT} {sv tv : Value} {lo hi : Nat} (h : VisIn w0 wr b v0 v1 v2 v3 Ai ni c st i x sv tv lo hi) (k : x.op = 2) :
    Calls Tryz.prog 52 #[.pointer (some ⟨b, 0, none⟩), .int .i64 i] wr (VisPost w0 c.length b v0 v1 v2 v3 Ai ni (stepAt c st i x)) := by
  obtain ⟨vb, hI, hcode, hhi, hbig, hat, hsz, hok⟩ := h
  have hlt : i < c.length := (List.getElem?_eq_some_iff.1 hat).1
  obtain ⟨hgd, hle⟩ := hI.good _ (at_mem hsz) hsz
  obtain ⟨gs, caps, rfl, hgs1, hgs2, hcs1, hcs2⟩ := vb.rows.form (by omega)
  have qs := vb.rows.cell hlt
  obtain ⟨s, hs⟩ : ∃ s, st.at_ i = s := ⟨_, rfl⟩
  rw [hs] at qs hsz hgd hle
  obtain ⟨g, off, hA, hg1, hg2, -, -, q0, q1, q2, q3, q4⟩ := InsT.at_ hcode hat
  subst hA
  rw [k] at q0
  have HBK : Hid (backB c i x = false) := back_no (by rw [k]; rfl)
  unfold maxLen at hcs2
  have ca := vb.box.cell
  have la := vb.box.lt
  have HS := Lib.hid hs
  have HAT := Lib.hid hat
  have K_ := Lib.hid k
  have HG := Lib.hid hgd
  clear hs hat k hgd
  have HEM : Hid (∀ (q : St × Bool) (p : Int) (z : ByteArray), q.1 = st → Fit c.length (empties st.sh) z → empties (giveP q p z).1.sh ≤ empties st.sh) := fun q p z hq hz => by have := (giveP_inv (q := q) (p := p) (s := z) (by rw [hq]; exact hI) (by rw [hq]; exact hz)).2; rwa [hq] at this
  have HR : Hid (stepAt c st i x = if (giveP (st, false) ((i : Int) + 1) (s ++ ⟨#[118]⟩)).2 = true then none else some (giveP (st, false) ((i : Int) + 1) (s ++ ⟨#[118]⟩)).1) := by
    show _ = _
    have ha : after x (st.at_ i) = if true = true then some ((s ++ ⟨#[118]⟩), ⟨#[]⟩) else none := by rw [HS.out]; simp only [after, K_.out]; rfl
    have := step_q (nx' := (s ++ ⟨#[118]⟩)) (lb' := ⟨#[]⟩) HBK.out ha (fun _ => rfl) (fun _ => rfl)
    simp only [Bool.not_true, Bool.or_false] at this
    rw [giveP_nil] at this
    exact this
  have FN : Fit c.length (empties st.sh) (s ++ ⟨#[118]⟩) := (fit_app HG.out hle _)
  go_enter Tryz.func52, Tryz.ntmps52
  go_upto_region 2 with (fail)
  have h1 := vb.more #[.int .i64 2, .int .i64 x.a, .int .i64 x.b, .int .i64 x.line, .string x.text] 79
  have hcd1 := hcode.alloc (Nat.le_trans hhi vb.rows.bel.size) (.cells #[.int .i64 2, .int .i64 x.a, .int .i64 x.b, .int .i64 x.line, .string x.text] 79)
  obtain ⟨bx, hbx⟩ : ∃ bx, wr.heap.size = bx := ⟨_, rfl⟩
  rw [hbx] at h1 ⊢
  generalize wr.alloc (.cells #[.int .i64 2, .int .i64 x.a, .int .i64 x.b, .int .i64 x.line, .string x.text] 79) = w1 at h1 hcd1 ⊢
  clear ca la qs q0 q1 q2 q3 q4 hcode hbx vb
  have cx := h1.one.cell
  have lx := h1.one.lt
  go_wp2_with fail
  refine (impl_isLabel 2 _).mono ?_; rw [show jumpB 2 = false from rfl]; rintro e w2 ⟨rfl, rfl⟩
  go_wp2_with fail
  have hG := impl_give h1 hI (by omega) hbig ((i : Int) + 1) (s ++ ⟨#[118]⟩) (by rw [ByteArray.size_append]; omega)
  refine hG.mono ?_; clear hG; rintro e w2 ⟨rfl, sv2, tv2, h2⟩
  clear cx lx
  have cx := h2.one.cell
  have lx := h2.one.lt
  go_wp2_with fail
  go_end0
  refine ⟨rfl, (giveP (st, false) ((i : Int) + 1) (s ++ ⟨#[118]⟩)), ?_⟩
  refine ⟨?_, ?_, ?_⟩
  · exact ⟨_, _, h2.less⟩
  · exact (giveP_inv (q := (st, false)) (p := ((i : Int) + 1)) (s := (s ++ ⟨#[118]⟩)) hI FN).1
  · exact HR.out
set_option maxRecDepth 100000 in
set_option maxHeartbeats 2000000 in
theorem visit_3 {w0 wr : World} {b : Nat} {v0 v1 v2 v3 : Value} {Ai : Option Addr} {ni : Nat} {c : List InsT} {st : St} {i : Nat} {x : InsT} {sv tv : Value} {lo hi : Nat} (h : VisIn w0 wr b v0 v1 v2 v3 Ai ni c st i x sv tv lo hi) (k : x.op = 3) :
    Calls Tryz.prog 52 #[.pointer (some ⟨b, 0, none⟩), .int .i64 i] wr (VisPost w0 c.length b v0 v1 v2 v3 Ai ni (stepAt c st i x)) := by
  obtain ⟨vb, hI, hcode, hhi, hbig, hat, hsz, hok⟩ := h
  have hlt : i < c.length := (List.getElem?_eq_some_iff.1 hat).1
  obtain ⟨hgd, hle⟩ := hI.good _ (at_mem hsz) hsz
  obtain ⟨gs, caps, rfl, hgs1, hgs2, hcs1, hcs2⟩ := vb.rows.form (by omega)
  have qs := vb.rows.cell hlt
  obtain ⟨s, hs⟩ : ∃ s, st.at_ i = s := ⟨_, rfl⟩
  rw [hs] at qs hsz hgd hle
  obtain ⟨g, off, hA, hg1, hg2, -, -, q0, q1, q2, q3, q4⟩ := InsT.at_ hcode hat
  subst hA
  rw [k] at q0
  have HBK : Hid (backB c i x = false) := back_no (by rw [k]; rfl)
  unfold maxLen at hcs2
  have ca := vb.box.cell
  have la := vb.box.lt
  have HS := Lib.hid hs
  have HAT := Lib.hid hat
  have K_ := Lib.hid k
  have HG := Lib.hid hgd
  clear hs hat k hgd
  have HEM : Hid (∀ (q : St × Bool) (p : Int) (z : ByteArray), q.1 = st → Fit c.length (empties st.sh) z → empties (giveP q p z).1.sh ≤ empties st.sh) := fun q p z hq hz => by have := (giveP_inv (q := q) (p := p) (s := z) (by rw [hq]; exact hI) (by rw [hq]; exact hz)).2; rwa [hq] at this
  have HR : Hid (stepAt c st i x = if (giveP (st, false) ((i : Int) + 1) (s ++ ⟨#[118]⟩)).2 = true then none else some (giveP (st, false) ((i : Int) + 1) (s ++ ⟨#[118]⟩)).1) := by
    show _ = _
    have ha : after x (st.at_ i) = if true = true then some ((s ++ ⟨#[118]⟩), ⟨#[]⟩) else none := by rw [HS.out]; simp only [after, K_.out]; rfl
    have := step_q (nx' := (s ++ ⟨#[118]⟩)) (lb' := ⟨#[]⟩) HBK.out ha (fun _ => rfl) (fun _ => rfl)
    simp only [Bool.not_true, Bool.or_false] at this
    rw [giveP_nil] at this
    exact this
  have FN : Fit c.length (empties st.sh) (s ++ ⟨#[118]⟩) := (fit_app HG.out hle _)
  go_enter Tryz.func52, Tryz.ntmps52
  go_upto_region 2 with (fail)
  have h1 := vb.more #[.int .i64 3, .int .i64 x.a, .int .i64 x.b, .int .i64 x.line, .string x.text] 79
  have hcd1 := hcode.alloc (Nat.le_trans hhi vb.rows.bel.size) (.cells #[.int .i64 3, .int .i64 x.a, .int .i64 x.b, .int .i64 x.line, .string x.text] 79)
  obtain ⟨bx, hbx⟩ : ∃ bx, wr.heap.size = bx := ⟨_, rfl⟩
  rw [hbx] at h1 ⊢
  generalize wr.alloc (.cells #[.int .i64 3, .int .i64 x.a, .int .i64 x.b, .int .i64 x.line, .string x.text] 79) = w1 at h1 hcd1 ⊢
  clear ca la qs q0 q1 q2 q3 q4 hcode hbx vb
  have cx := h1.one.cell
  have lx := h1.one.lt
  go_wp2_with fail
  refine (impl_isLabel 3 _).mono ?_; rw [show jumpB 3 = false from rfl]; rintro e w2 ⟨rfl, rfl⟩
  go_wp2_with fail
  have hG := impl_give h1 hI (by omega) hbig ((i : Int) + 1) (s ++ ⟨#[118]⟩) (by rw [ByteArray.size_append]; omega)
  refine hG.mono ?_; clear hG; rintro e w2 ⟨rfl, sv2, tv2, h2⟩
  clear cx lx
  have cx := h2.one.cell
  have lx := h2.one.lt
  go_wp2_with fail
  go_end0
  refine ⟨rfl, (giveP (st, false) ((i : Int) + 1) (s ++ ⟨#[118]⟩)), ?_⟩
  refine ⟨?_, ?_, ?_⟩
  · exact ⟨_, _, h2.less⟩
  · exact (giveP_inv (q := (st, false)) (p := ((i : Int) + 1)) (s := (s ++ ⟨#[118]⟩)) hI FN).1
  · exact HR.out
set_option maxRecDepth 100000 in
set_option maxHeartbeats 2000000 in
theorem visit_4 {w0 wr : World} {b : Nat} {v0 v1 v2 v3 : Value} {Ai : Option Addr} {ni : Nat} {c : List InsT} {st : St} {i : Nat} {x : InsT} {sv tv : Value} {lo hi : Nat} (h : VisIn w0 wr b v0 v1 v2 v3 Ai ni c st i x sv tv lo hi) (k : x.op = 4) :
    Calls Tryz.prog 52 #[.pointer (some ⟨b, 0, none⟩), .int .i64 i] wr (VisPost w0 c.length b v0 v1 v2 v3 Ai ni (stepAt c st i x)) := by
  obtain ⟨vb, hI, hcode, hhi, hbig, hat, hsz, hok⟩ := h
  have hlt : i < c.length := (List.getElem?_eq_some_iff.1 hat).1
  obtain ⟨hgd, hle⟩ := hI.good _ (at_mem hsz) hsz
  obtain ⟨gs, caps, rfl, hgs1, hgs2, hcs1, hcs2⟩ := vb.rows.form (by omega)
  have qs := vb.rows.cell hlt
  obtain ⟨s, hs⟩ : ∃ s, st.at_ i = s := ⟨_, rfl⟩
  rw [hs] at qs hsz hgd hle
  obtain ⟨g, off, hA, hg1, hg2, -, -, q0, q1, q2, q3, q4⟩ := InsT.at_ hcode hat
  subst hA
  rw [k] at q0
  have HBK : Hid (backB c i x = false) := back_no (by rw [k]; rfl)
  unfold maxLen at hcs2
  have ca := vb.box.cell
  have la := vb.box.lt
  have HS := Lib.hid hs
  have HAT := Lib.hid hat
  have K_ := Lib.hid k
  have HG := Lib.hid hgd
  clear hs hat k hgd
  have HEM : Hid (∀ (q : St × Bool) (p : Int) (z : ByteArray), q.1 = st → Fit c.length (empties st.sh) z → empties (giveP q p z).1.sh ≤ empties st.sh) := fun q p z hq hz => by have := (giveP_inv (q := q) (p := p) (s := z) (by rw [hq]; exact hI) (by rw [hq]; exact hz)).2; rwa [hq] at this
  have HR : Hid (stepAt c st i x = if (giveP (st, false) ((i : Int) + 1) (s ++ ⟨#[118]⟩)).2 = true then none else some (giveP (st, false) ((i : Int) + 1) (s ++ ⟨#[118]⟩)).1) := by
    show _ = _
    have ha : after x (st.at_ i) = if true = true then some ((s ++ ⟨#[118]⟩), ⟨#[]⟩) else none := by rw [HS.out]; simp only [after, K_.out]; rfl
    have := step_q (nx' := (s ++ ⟨#[118]⟩)) (lb' := ⟨#[]⟩) HBK.out ha (fun _ => rfl) (fun _ => rfl)
    simp only [Bool.not_true, Bool.or_false] at this
    rw [giveP_nil] at this
    exact this
  have FN : Fit c.length (empties st.sh) (s ++ ⟨#[118]⟩) := (fit_app HG.out hle _)
  go_enter Tryz.func52, Tryz.ntmps52
  go_upto_region 2 with (fail)
  have h1 := vb.more #[.int .i64 4, .int .i64 x.a, .int .i64 x.b, .int .i64 x.line, .string x.text] 79
  have hcd1 := hcode.alloc (Nat.le_trans hhi vb.rows.bel.size) (.cells #[.int .i64 4, .int .i64 x.a, .int .i64 x.b, .int .i64 x.line, .string x.text] 79)
  obtain ⟨bx, hbx⟩ : ∃ bx, wr.heap.size = bx := ⟨_, rfl⟩
  rw [hbx] at h1 ⊢
  generalize wr.alloc (.cells #[.int .i64 4, .int .i64 x.a, .int .i64 x.b, .int .i64 x.line, .string x.text] 79) = w1 at h1 hcd1 ⊢
  clear ca la qs q0 q1 q2 q3 q4 hcode hbx vb
  have cx := h1.one.cell
  have lx := h1.one.lt
  go_wp2_with fail
  refine (impl_isLabel 4 _).mono ?_; rw [show jumpB 4 = false from rfl]; rintro e w2 ⟨rfl, rfl⟩
  go_wp2_with fail
  have hG := impl_give h1 hI (by omega) hbig ((i : Int) + 1) (s ++ ⟨#[118]⟩) (by rw [ByteArray.size_append]; omega)
  refine hG.mono ?_; clear hG; rintro e w2 ⟨rfl, sv2, tv2, h2⟩
  clear cx lx
  have cx := h2.one.cell
  have lx := h2.one.lt
  go_wp2_with fail
  go_end0
  refine ⟨rfl, (giveP (st, false) ((i : Int) + 1) (s ++ ⟨#[118]⟩)), ?_⟩
  refine ⟨?_, ?_, ?_⟩
  · exact ⟨_, _, h2.less⟩
  · exact (giveP_inv (q := (st, false)) (p := ((i : Int) + 1)) (s := (s ++ ⟨#[118]⟩)) hI FN).1
  · exact HR.out
set_option maxRecDepth 100000 in
set_option maxHeartbeats 2000000 in
theorem visit_6 {w0 wr : World} {b : Nat} {v0 v1 v2 v3 : Value} {Ai : Option Addr} {ni : Nat} {c : List InsT} {st : St} {i : Nat} {x : InsT} {sv tv : Value} {lo hi : Nat} (h : VisIn w0 wr b v0 v1 v2 v3 Ai ni c st i x sv tv lo hi) (k : x.op = 6) :
    Calls Tryz.prog 52 #[.pointer (some ⟨b, 0, none⟩), .int .i64 i] wr (VisPost w0 c.length b v0 v1 v2 v3 Ai ni (stepAt c st i x)) := by
  obtain ⟨vb, hI, hcode, hhi, hbig, hat, hsz, hok⟩ := h
  have hlt : i < c.length := (List.getElem?_eq_some_iff.1 hat).1
  obtain ⟨hgd, hle⟩ := hI.good _ (at_mem hsz) hsz
  obtain ⟨gs, caps, rfl, hgs1, hgs2, hcs1, hcs2⟩ := vb.rows.form (by omega)
  have qs := vb.rows.cell hlt
  obtain ⟨s, hs⟩ : ∃ s, st.at_ i = s := ⟨_, rfl⟩
  rw [hs] at qs hsz hgd hle
  obtain ⟨g, off, hA, hg1, hg2, -, -, q0, q1, q2, q3, q4⟩ := InsT.at_ hcode hat
  subst hA
  rw [k] at q0
  have HBK : Hid (backB c i x = false) := back_no (by rw [k]; rfl)
  unfold maxLen at hcs2
  have ca := vb.box.cell
  have la := vb.box.lt
  have HS := Lib.hid hs
  have HAT := Lib.hid hat
  have K_ := Lib.hid k
  have HG := Lib.hid hgd
  clear hs hat k hgd
  have HEM : Hid (∀ (q : St × Bool) (p : Int) (z : ByteArray), q.1 = st → Fit c.length (empties st.sh) z → empties (giveP q p z).1.sh ≤ empties st.sh) := fun q p z hq hz => by have := (giveP_inv (q := q) (p := p) (s := z) (by rw [hq]; exact hI) (by rw [hq]; exact hz)).2; rwa [hq] at this
  have HR : Hid (stepAt c st i x = if (giveP (st, false) ((i : Int) + 1) (s ++ ⟨#[118]⟩)).2 = true then none else some (giveP (st, false) ((i : Int) + 1) (s ++ ⟨#[118]⟩)).1) := by
    show _ = _
    have ha : after x (st.at_ i) = if true = true then some ((s ++ ⟨#[118]⟩), ⟨#[]⟩) else none := by rw [HS.out]; simp only [after, K_.out]; rfl
    have := step_q (nx' := (s ++ ⟨#[118]⟩)) (lb' := ⟨#[]⟩) HBK.out ha (fun _ => rfl) (fun _ => rfl)
    simp only [Bool.not_true, Bool.or_false] at this
    rw [giveP_nil] at this
    exact this
  have FN : Fit c.length (empties st.sh) (s ++ ⟨#[118]⟩) := (fit_app HG.out hle _)
  go_enter Tryz.func52, Tryz.ntmps52
  go_upto_region 2 with (fail)
  have h1 := vb.more #[.int .i64 6, .int .i64 x.a, .int .i64 x.b, .int .i64 x.line, .string x.text] 79
  have hcd1 := hcode.alloc (Nat.le_trans hhi vb.rows.bel.size) (.cells #[.int .i64 6, .int .i64 x.a, .int .i64 x.b, .int .i64 x.line, .string x.text] 79)
  obtain ⟨bx, hbx⟩ : ∃ bx, wr.heap.size = bx := ⟨_, rfl⟩
  rw [hbx] at h1 ⊢
  generalize wr.alloc (.cells #[.int .i64 6, .int .i64 x.a, .int .i64 x.b, .int .i64 x.line, .string x.text] 79) = w1 at h1 hcd1 ⊢
  clear ca la qs q0 q1 q2 q3 q4 hcode hbx vb
  have cx := h1.one.cell
  have lx := h1.one.lt
  go_wp2_with fail
  refine (impl_isLabel 6 _).mono ?_; rw [show jumpB 6 = false from rfl]; rintro e w2 ⟨rfl, rfl⟩
  go_wp2_with fail
  have hG := impl_give h1 hI (by omega) hbig ((i : Int) + 1) (s ++ ⟨#[118]⟩) (by rw [ByteArray.size_append]; omega)
  refine hG.mono ?_; clear hG; rintro e w2 ⟨rfl, sv2, tv2, h2⟩
  clear cx lx
  have cx := h2.one.cell
  have lx := h2.one.lt
  go_wp2_with fail
  go_end0
  refine ⟨rfl, (giveP (st, false) ((i : Int) + 1) (s ++ ⟨#[118]⟩)), ?_⟩
  refine ⟨?_, ?_, ?_⟩
  · exact ⟨_, _, h2.less⟩
  · exact (giveP_inv (q := (st, false)) (p := ((i : Int) + 1)) (s := (s ++ ⟨#[118]⟩)) hI FN).1
  · exact HR.out
set_option maxRecDepth 100000 in
set_option maxHeartbeats 2000000 in
theorem visit_7 {w0 wr : World} {b : Nat} {v0 v1 v2 v3 : Value} {Ai : Option Addr} {ni : Nat} {c : List InsT} {st : St} {i : Nat} {x : InsT} {sv tv : Value} {lo hi : Nat} (h : VisIn w0 wr b v0 v1 v2 v3 Ai ni c st i x sv tv lo hi) (k : x.op = 7) :
    Calls Tryz.prog 52 #[.pointer (some ⟨b, 0, none⟩), .int .i64 i] wr (VisPost w0 c.length b v0 v1 v2 v3 Ai ni (stepAt c st i x)) := by
  obtain ⟨vb, hI, hcode, hhi, hbig, hat, hsz, hok⟩ := h
  have hlt : i < c.length := (List.getElem?_eq_some_iff.1 hat).1
  obtain ⟨hgd, hle⟩ := hI.good _ (at_mem hsz) hsz
  obtain ⟨gs, caps, rfl, hgs1, hgs2, hcs1, hcs2⟩ := vb.rows.form (by omega)
  have qs := vb.rows.cell hlt
  obtain ⟨s, hs⟩ : ∃ s, st.at_ i = s := ⟨_, rfl⟩
  rw [hs] at qs hsz hgd hle
  obtain ⟨g, off, hA, hg1, hg2, -, -, q0, q1, q2, q3, q4⟩ := InsT.at_ hcode hat
  subst hA
  rw [k] at q0
  have HBK : Hid (backB c i x = false) := back_no (by rw [k]; rfl)
  unfold maxLen at hcs2
  have ca := vb.box.cell
  have la := vb.box.lt
  have HS := Lib.hid hs
  have HAT := Lib.hid hat
  have K_ := Lib.hid k
  have HG := Lib.hid hgd
  clear hs hat k hgd
  have HEM : Hid (∀ (q : St × Bool) (p : Int) (z : ByteArray), q.1 = st → Fit c.length (empties st.sh) z → empties (giveP q p z).1.sh ≤ empties st.sh) := fun q p z hq hz => by have := (giveP_inv (q := q) (p := p) (s := z) (by rw [hq]; exact hI) (by rw [hq]; exact hz)).2; rwa [hq] at this
  have HR : Hid (stepAt c st i x = if (giveP (st, false) ((i : Int) + 1) (s ++ ⟨#[118]⟩)).2 = true then none else some (giveP (st, false) ((i : Int) + 1) (s ++ ⟨#[118]⟩)).1) := by
    show _ = _
    have ha : after x (st.at_ i) = if true = true then some ((s ++ ⟨#[118]⟩), ⟨#[]⟩) else none := by rw [HS.out]; simp only [after, K_.out]; rfl
    have := step_q (nx' := (s ++ ⟨#[118]⟩)) (lb' := ⟨#[]⟩) HBK.out ha (fun _ => rfl) (fun _ => rfl)
    simp only [Bool.not_true, Bool.or_false] at this
    rw [giveP_nil] at this
    exact this
  have FN : Fit c.length (empties st.sh) (s ++ ⟨#[118]⟩) := (fit_app HG.out hle _)
  go_enter Tryz.func52, Tryz.ntmps52
  go_upto_region 2 with (fail)
  have h1 := vb.more #[.int .i64 7, .int .i64 x.a, .int .i64 x.b, .int .i64 x.line, .string x.text] 79
  have hcd1 := hcode.alloc (Nat.le_trans hhi vb.rows.bel.size) (.cells #[.int .i64 7, .int .i64 x.a, .int .i64 x.b, .int .i64 x.line, .string x.text] 79)
  obtain ⟨bx, hbx⟩ : ∃ bx, wr.heap.size = bx := ⟨_, rfl⟩
  rw [hbx] at h1 ⊢
  generalize wr.alloc (.cells #[.int .i64 7, .int .i64 x.a, .int .i64 x.b, .int .i64 x.line, .string x.text] 79) = w1 at h1 hcd1 ⊢
  clear ca la qs q0 q1 q2 q3 q4 hcode hbx vb
  have cx := h1.one.cell
  have lx := h1.one.lt
  go_wp2_with fail
  refine (impl_isLabel 7 _).mono ?_; rw [show jumpB 7 = false from rfl]; rintro e w2 ⟨rfl, rfl⟩
  go_wp2_with fail
  have hG := impl_give h1 hI (by omega) hbig ((i : Int) + 1) (s ++ ⟨#[118]⟩) (by rw [ByteArray.size_append]; omega)
  refine hG.mono ?_; clear hG; rintro e w2 ⟨rfl, sv2, tv2, h2⟩
  clear cx lx
  have cx := h2.one.cell
  have lx := h2.one.lt
  go_wp2_with fail
  go_end0
  refine ⟨rfl, (giveP (st, false) ((i : Int) + 1) (s ++ ⟨#[118]⟩)), ?_⟩
  refine ⟨?_, ?_, ?_⟩
  · exact ⟨_, _, h2.less⟩
  · exact (giveP_inv (q := (st, false)) (p := ((i : Int) + 1)) (s := (s ++ ⟨#[118]⟩)) hI FN).1
  · exact HR.out
set_option maxRecDepth 100000 in
set_option maxHeartbeats 2000000 in
theorem visit_8 {w0 wr : World} {b : Nat} {v0 v1 v2 v3 : Value} {Ai : Option Addr} {ni : Nat} {c : List InsT} {st : St} {i : Nat} {x : InsT} {sv tv : Value} {lo hi : Nat} (h : VisIn w0 wr b v0 v1 v2 v3 Ai ni c st i x sv tv lo hi) (k : x.op = 8) :
    Calls Tryz.prog 52 #[.pointer (some ⟨b, 0, none⟩), .int .i64 i] wr (VisPost w0 c.length b v0 v1 v2 v3 Ai ni (stepAt c st i x)) := by
  obtain ⟨vb, hI, hcode, hhi, hbig, hat, hsz, hok⟩ := h
  have hlt : i < c.length := (List.getElem?_eq_some_iff.1 hat).1
  obtain ⟨hgd, hle⟩ := hI.good _ (at_mem hsz) hsz
  obtain ⟨gs, caps, rfl, hgs1, hgs2, hcs1, hcs2⟩ := vb.rows.form (by omega)
  have qs := vb.rows.cell hlt
  obtain ⟨s, hs⟩ : ∃ s, st.at_ i = s := ⟨_, rfl⟩
  rw [hs] at qs hsz hgd hle
  obtain ⟨g, off, hA, hg1, hg2, -, -, q0, q1, q2, q3, q4⟩ := InsT.at_ hcode hat
  subst hA
  rw [k] at q0
  have HBK : Hid (backB c i x = false) := back_no (by rw [k]; rfl)
  unfold maxLen at hcs2
  have ca := vb.box.cell
  have la := vb.box.lt
  have HS := Lib.hid hs
  have HAT := Lib.hid hat
  have K_ := Lib.hid k
  have HG := Lib.hid hgd
  clear hs hat k hgd
  have HEM : Hid (∀ (q : St × Bool) (p : Int) (z : ByteArray), q.1 = st → Fit c.length (empties st.sh) z → empties (giveP q p z).1.sh ≤ empties st.sh) := fun q p z hq hz => by have := (giveP_inv (q := q) (p := p) (s := z) (by rw [hq]; exact hI) (by rw [hq]; exact hz)).2; rwa [hq] at this
  have HR : Hid (stepAt c st i x = if (giveP (st, false) ((i : Int) + 1) (s ++ ⟨#[118]⟩)).2 = true then none else some (giveP (st, false) ((i : Int) + 1) (s ++ ⟨#[118]⟩)).1) := by
    show _ = _
    have ha : after x (st.at_ i) = if true = true then some ((s ++ ⟨#[118]⟩), ⟨#[]⟩) else none := by rw [HS.out]; simp only [after, K_.out]; rfl
    have := step_q (nx' := (s ++ ⟨#[118]⟩)) (lb' := ⟨#[]⟩) HBK.out ha (fun _ => rfl) (fun _ => rfl)
    simp only [Bool.not_true, Bool.or_false] at this
    rw [giveP_nil] at this
    exact this
  have FN : Fit c.length (empties st.sh) (s ++ ⟨#[118]⟩) := (fit_app HG.out hle _)
  go_enter Tryz.func52, Tryz.ntmps52
  go_upto_region 2 with (fail)
  have h1 := vb.more #[.int .i64 8, .int .i64 x.a, .int .i64 x.b, .int .i64 x.line, .string x.text] 79
  have hcd1 := hcode.alloc (Nat.le_trans hhi vb.rows.bel.size) (.cells #[.int .i64 8, .int .i64 x.a, .int .i64 x.b, .int .i64 x.line, .string x.text] 79)
  obtain ⟨bx, hbx⟩ : ∃ bx, wr.heap.size = bx := ⟨_, rfl⟩
  rw [hbx] at h1 ⊢
  generalize wr.alloc (.cells #[.int .i64 8, .int .i64 x.a, .int .i64 x.b, .int .i64 x.line, .string x.text] 79) = w1 at h1 hcd1 ⊢
  clear ca la qs q0 q1 q2 q3 q4 hcode hbx vb
  have cx := h1.one.cell
  have lx := h1.one.lt
  go_wp2_with fail
  refine (impl_isLabel 8 _).mono ?_; rw [show jumpB 8 = false from rfl]; rintro e w2 ⟨rfl, rfl⟩
  go_wp2_with fail
  have hG := impl_give h1 hI (by omega) hbig ((i : Int) + 1) (s ++ ⟨#[118]⟩) (by rw [ByteArray.size_append]; omega)
  refine hG.mono ?_; clear hG; rintro e w2 ⟨rfl, sv2, tv2, h2⟩
  clear cx lx
  have cx := h2.one.cell
  have lx := h2.one.lt
  go_wp2_with fail
  go_end0
  refine ⟨rfl, (giveP (st, false) ((i : Int) + 1) (s ++ ⟨#[118]⟩)), ?_⟩
  refine ⟨?_, ?_, ?_⟩
  · exact ⟨_, _, h2.less⟩
  · exact (giveP_inv (q := (st, false)) (p := ((i : Int) + 1)) (s := (s ++ ⟨#[118]⟩)) hI FN).1
  · exact HR.out
set_option maxRecDepth 100000 in
set_option maxHeartbeats 2000000 in
theorem visit_9 {w0 wr : World} {b : Nat} {v0 v1 v2 v3 : Value} {Ai : Option Addr} {ni : Nat} {c : List InsT} {st : St} {i : Nat} {x : InsT} {sv tv : Value} {lo hi : Nat} (h : VisIn w0 wr b v0 v1 v2 v3 Ai ni c st i x sv tv lo hi) (k : x.op = 9) :
    Calls Tryz.prog 52 #[.pointer (some ⟨b, 0, none⟩), .int .i64 i] wr (VisPost w0 c.length b v0 v1 v2 v3 Ai ni (stepAt c st i x)) := by
  obtain ⟨vb, hI, hcode, hhi, hbig, hat, hsz, hok⟩ := h
  have hlt : i < c.length := (List.getElem?_eq_some_iff.1 hat).1
  obtain ⟨hgd, hle⟩ := hI.good _ (at_mem hsz) hsz
  obtain ⟨gs, caps, rfl, hgs1, hgs2, hcs1, hcs2⟩ := vb.rows.form (by omega)
  have qs := vb.rows.cell hlt
  obtain ⟨s, hs⟩ : ∃ s, st.at_ i = s := ⟨_, rfl⟩
  rw [hs] at qs hsz hgd hle
  obtain ⟨g, off, hA, hg1, hg2, -, -, q0, q1, q2, q3, q4⟩ := InsT.at_ hcode hat
  subst hA
  rw [k] at q0
  have HBK : Hid (backB c i x = false) := back_no (by rw [k]; rfl)
  unfold maxLen at hcs2
  have ca := vb.box.cell
  have la := vb.box.lt
  have HS := Lib.hid hs
  have HAT := Lib.hid hat
  have K_ := Lib.hid k
  have HG := Lib.hid hgd
  clear hs hat k hgd
  have HEM : Hid (∀ (q : St × Bool) (p : Int) (z : ByteArray), q.1 = st → Fit c.length (empties st.sh) z → empties (giveP q p z).1.sh ≤ empties st.sh) := fun q p z hq hz => by have := (giveP_inv (q := q) (p := p) (s := z) (by rw [hq]; exact hI) (by rw [hq]; exact hz)).2; rwa [hq] at this
  have HR : Hid (stepAt c st i x = if (giveP (st, false) ((i : Int) + 1) (s ++ ⟨#[118]⟩)).2 = true then none else some (giveP (st, false) ((i : Int) + 1) (s ++ ⟨#[118]⟩)).1) := by
    show _ = _
    have ha : after x (st.at_ i) = if true = true then some ((s ++ ⟨#[118]⟩), ⟨#[]⟩) else none := by rw [HS.out]; simp only [after, K_.out]; rfl
    have := step_q (nx' := (s ++ ⟨#[118]⟩)) (lb' := ⟨#[]⟩) HBK.out ha (fun _ => rfl) (fun _ => rfl)
    simp only [Bool.not_true, Bool.or_false] at this
    rw [giveP_nil] at this
    exact this
  have FN : Fit c.length (empties st.sh) (s ++ ⟨#[118]⟩) := (fit_app HG.out hle _)
  go_enter Tryz.func52, Tryz.ntmps52
  go_upto_region 2 with (fail)
  have h1 := vb.more #[.int .i64 9, .int .i64 x.a, .int .i64 x.b, .int .i64 x.line, .string x.text] 79
  have hcd1 := hcode.alloc (Nat.le_trans hhi vb.rows.bel.size) (.cells #[.int .i64 9, .int .i64 x.a, .int .i64 x.b, .int .i64 x.line, .string x.text] 79)
  obtain ⟨bx, hbx⟩ : ∃ bx, wr.heap.size = bx := ⟨_, rfl⟩
  rw [hbx] at h1 ⊢
  generalize wr.alloc (.cells #[.int .i64 9, .int .i64 x.a, .int .i64 x.b, .int .i64 x.line, .string x.text] 79) = w1 at h1 hcd1 ⊢
  clear ca la qs q0 q1 q2 q3 q4 hcode hbx vb
  have cx := h1.one.cell
  have lx := h1.one.lt
  go_wp2_with fail
  refine (impl_isLabel 9 _).mono ?_; rw [show jumpB 9 = false from rfl]; rintro e w2 ⟨rfl, rfl⟩
  go_wp2_with fail
  have hG := impl_give h1 hI (by omega) hbig ((i : Int) + 1) (s ++ ⟨#[118]⟩) (by rw [ByteArray.size_append]; omega)
  refine hG.mono ?_; clear hG; rintro e w2 ⟨rfl, sv2, tv2, h2⟩
  clear cx lx
  have cx := h2.one.cell
  have lx := h2.one.lt
  go_wp2_with fail
  go_end0
  refine ⟨rfl, (giveP (st, false) ((i : Int) + 1) (s ++ ⟨#[118]⟩)), ?_⟩
  refine ⟨?_, ?_, ?_⟩
  · exact ⟨_, _, h2.less⟩
  · exact (giveP_inv (q := (st, false)) (p := ((i : Int) + 1)) (s := (s ++ ⟨#[118]⟩)) hI FN).1
  · exact HR.out
set_option maxRecDepth 100000 in
set_option maxHeartbeats 2000000 in
theorem visit_10 {w0 wr : World} {b : Nat} {v0 v1 v2 v3 : Value} {Ai : Option Addr} {ni : Nat} {c : List InsT} {st : St} {i : Nat} {x : InsT} {sv tv : Value} {lo hi : Nat} (h : VisIn w0 wr b v0 v1 v2 v3 Ai ni c st i x sv tv lo hi) (k : x.op = 10) :
    Calls Tryz.prog 52 #[.pointer (some ⟨b, 0, none⟩), .int .i64 i] wr (VisPost w0 c.length b v0 v1 v2 v3 Ai ni (stepAt c st i x)) := by
  obtain ⟨vb, hI, hcode, hhi, hbig, hat, hsz, hok⟩ := h
  have hlt : i < c.length := (List.getElem?_eq_some_iff.1 hat).1
  obtain ⟨hgd, hle⟩ := hI.good _ (at_mem hsz) hsz
  obtain ⟨gs, caps, rfl, hgs1, hgs2, hcs1, hcs2⟩ := vb.rows.form (by omega)
  have qs := vb.rows.cell hlt
  obtain ⟨s, hs⟩ : ∃ s, st.at_ i = s := ⟨_, rfl⟩
  rw [hs] at qs hsz hgd hle
  obtain ⟨g, off, hA, hg1, hg2, -, -, q0, q1, q2, q3, q4⟩ := InsT.at_ hcode hat
  subst hA
  rw [k] at q0
  have HBK : Hid (backB c i x = false) := back_no (by rw [k]; rfl)
  unfold maxLen at hcs2
  have ca := vb.box.cell
  have la := vb.box.lt
  have HS := Lib.hid hs
  have HAT := Lib.hid hat
  have K_ := Lib.hid k
  have HG := Lib.hid hgd
  clear hs hat k hgd
  have HEM : Hid (∀ (q : St × Bool) (p : Int) (z : ByteArray), q.1 = st → Fit c.length (empties st.sh) z → empties (giveP q p z).1.sh ≤ empties st.sh) := fun q p z hq hz => by have := (giveP_inv (q := q) (p := p) (s := z) (by rw [hq]; exact hI) (by rw [hq]; exact hz)).2; rwa [hq] at this
  have HR : Hid (stepAt c st i x = if (giveP (st, false) ((i : Int) + 1) (s ++ ⟨#[118]⟩)).2 = true then none else some (giveP (st, false) ((i : Int) + 1) (s ++ ⟨#[118]⟩)).1) := by
    show _ = _
    have ha : after x (st.at_ i) = if true = true then some ((s ++ ⟨#[118]⟩), ⟨#[]⟩) else none := by rw [HS.out]; simp only [after, K_.out]; rfl
    have := step_q (nx' := (s ++ ⟨#[118]⟩)) (lb' := ⟨#[]⟩) HBK.out ha (fun _ => rfl) (fun _ => rfl)
    simp only [Bool.not_true, Bool.or_false] at this
    rw [giveP_nil] at this
    exact this
  have FN : Fit c.length (empties st.sh) (s ++ ⟨#[118]⟩) := (fit_app HG.out hle _)
  go_enter Tryz.func52, Tryz.ntmps52
  go_upto_region 2 with (fail)
  have h1 := vb.more #[.int .i64 10, .int .i64 x.a, .int .i64 x.b, .int .i64 x.line, .string x.text] 79
  have hcd1 := hcode.alloc (Nat.le_trans hhi vb.rows.bel.size) (.cells #[.int .i64 10, .int .i64 x.a, .int .i64 x.b, .int .i64 x.line, .string x.text] 79)
  obtain ⟨bx, hbx⟩ : ∃ bx, wr.heap.size = bx := ⟨_, rfl⟩
  rw [hbx] at h1 ⊢
  generalize wr.alloc (.cells #[.int .i64 10, .int .i64 x.a, .int .i64 x.b, .int .i64 x.line, .string x.text] 79) = w1 at h1 hcd1 ⊢
  clear ca la qs q0 q1 q2 q3 q4 hcode hbx vb
  have cx := h1.one.cell
  have lx := h1.one.lt
  go_wp2_with fail
  refine (impl_isLabel 10 _).mono ?_; rw [show jumpB 10 = false from rfl]; rintro e w2 ⟨rfl, rfl⟩
  go_wp2_with fail
  have hG := impl_give h1 hI (by omega) hbig ((i : Int) + 1) (s ++ ⟨#[118]⟩) (by rw [ByteArray.size_append]; omega)
  refine hG.mono ?_; clear hG; rintro e w2 ⟨rfl, sv2, tv2, h2⟩
  clear cx lx
  have cx := h2.one.cell
  have lx := h2.one.lt
  go_wp2_with fail
  go_end0
  refine ⟨rfl, (giveP (st, false) ((i : Int) + 1) (s ++ ⟨#[118]⟩)), ?_⟩
  refine ⟨?_, ?_, ?_⟩
  · exact ⟨_, _, h2.less⟩
  · exact (giveP_inv (q := (st, false)) (p := ((i : Int) + 1)) (s := (s ++ ⟨#[118]⟩)) hI FN).1
  · exact HR.out
set_option maxRecDepth 100000 in
set_option maxHeartbeats 2000000 in
theorem visit_16 {w0 wr : World} {b : Nat} {v0 v1 v2 v3 : Value} {Ai : Option Addr} {ni : Nat} {c : List InsT} {st : St} {i : Nat} {x : InsT} {sv tv : Value} {lo hi : Nat} (h : VisIn w0 wr b v0 v1 v2 v3 Ai ni c st i x sv tv lo hi) (k : x.op = 16) :
    Calls Tryz.prog 52 #[.pointer (some ⟨b, 0, none⟩), .int .i64 i] wr (VisPost w0 c.length b v0 v1 v2 v3 Ai ni (stepAt c st i x)) := by
  obtain ⟨vb, hI, hcode, hhi, hbig, hat, hsz, hok⟩ := h
  have hlt : i < c.length := (List.getElem?_eq_some_iff.1 hat).1
  obtain ⟨hgd, hle⟩ := hI.good _ (at_mem hsz) hsz
  obtain ⟨gs, caps, rfl, hgs1, hgs2, hcs1, hcs2⟩ := vb.rows.form (by omega)
  have qs := vb.rows.cell hlt
  obtain ⟨s, hs⟩ : ∃ s, st.at_ i = s := ⟨_, rfl⟩
  rw [hs] at qs hsz hgd hle
  obtain ⟨g, off, hA, hg1, hg2, -, -, q0, q1, q2, q3, q4⟩ := InsT.at_ hcode hat
  subst hA
  rw [k] at q0
  have HBK : Hid (backB c i x = false) := back_no (by rw [k]; rfl)
  unfold maxLen at hcs2
  have ca := vb.box.cell
  have la := vb.box.lt
  have HS := Lib.hid hs
  have HAT := Lib.hid hat
  have K_ := Lib.hid k
  have HG := Lib.hid hgd
  clear hs hat k hgd
  have HEM : Hid (∀ (q : St × Bool) (p : Int) (z : ByteArray), q.1 = st → Fit c.length (empties st.sh) z → empties (giveP q p z).1.sh ≤ empties st.sh) := fun q p z hq hz => by have := (giveP_inv (q := q) (p := p) (s := z) (by rw [hq]; exact hI) (by rw [hq]; exact hz)).2; rwa [hq] at this
  have HR : Hid (stepAt c st i x = if (st, false).2 = true then none else some (st, false).1) := by
    show _ = _
    have ha : after x (st.at_ i) = if true = true then some (⟨#[]⟩, ⟨#[]⟩) else none := by rw [HS.out]; simp only [after, K_.out]; rfl
    have := step_q (nx' := ⟨#[]⟩) (lb' := ⟨#[]⟩) HBK.out ha (fun _ => rfl) (fun _ => rfl)
    simp only [Bool.not_true, Bool.or_false] at this
    rw [giveP_nil] at this
    rw [giveP_nil] at this
    exact this
  go_enter Tryz.func52, Tryz.ntmps52
  go_upto_region 2 with (fail)
  have h1 := vb.more #[.int .i64 16, .int .i64 x.a, .int .i64 x.b, .int .i64 x.line, .string x.text] 79
  have hcd1 := hcode.alloc (Nat.le_trans hhi vb.rows.bel.size) (.cells #[.int .i64 16, .int .i64 x.a, .int .i64 x.b, .int .i64 x.line, .string x.text] 79)
  obtain ⟨bx, hbx⟩ : ∃ bx, wr.heap.size = bx := ⟨_, rfl⟩
  rw [hbx] at h1 ⊢
  generalize wr.alloc (.cells #[.int .i64 16, .int .i64 x.a, .int .i64 x.b, .int .i64 x.line, .string x.text] 79) = w1 at h1 hcd1 ⊢
  clear ca la qs q0 q1 q2 q3 q4 hcode hbx vb
  have cx := h1.one.cell
  have lx := h1.one.lt
  go_wp2_with fail
  refine (impl_isLabel 16 _).mono ?_; rw [show jumpB 16 = false from rfl]; rintro e w2 ⟨rfl, rfl⟩
  go_wp2_with fail
  go_end0
  refine ⟨rfl, (st, false), ?_⟩
  refine ⟨?_, ?_, ?_⟩
  · exact ⟨_, _, h1.less⟩
  · exact hI
  · exact HR.out
set_option maxRecDepth 100000 in
set_option maxHeartbeats 2000000 in
theorem visit_18 {w0 wr : World} {b : Nat} {v0 v1 v2 v3 : Value} {Ai : Option Addr} {ni : Nat} {c : List InsT} {st : St} {i : Nat} {x : InsT} {sv tv : Value} {lo hi : Nat} (h : VisIn w0 wr b v0 v1 v2 v3 Ai ni c st i x sv tv lo hi) (k : x.op = 18) :
    Calls Tryz.prog 52 #[.pointer (some ⟨b, 0, none⟩), .int .i64 i] wr (VisPost w0 c.length b v0 v1 v2 v3 Ai ni (stepAt c st i x)) := by
  obtain ⟨vb, hI, hcode, hhi, hbig, hat, hsz, hok⟩ := h
  have hlt : i < c.length := (List.getElem?_eq_some_iff.1 hat).1
  obtain ⟨hgd, hle⟩ := hI.good _ (at_mem hsz) hsz
  obtain ⟨gs, caps, rfl, hgs1, hgs2, hcs1, hcs2⟩ := vb.rows.form (by omega)
  have qs := vb.rows.cell hlt
  obtain ⟨s, hs⟩ : ∃ s, st.at_ i = s := ⟨_, rfl⟩
  rw [hs] at qs hsz hgd hle
  obtain ⟨g, off, hA, hg1, hg2, -, -, q0, q1, q2, q3, q4⟩ := InsT.at_ hcode hat
  subst hA
  rw [k] at q0
  have HBK : Hid (backB c i x = false) := back_no (by rw [k]; rfl)
  unfold maxLen at hcs2
  have ca := vb.box.cell
  have la := vb.box.lt
  have HS := Lib.hid hs
  have HAT := Lib.hid hat
  have K_ := Lib.hid k
  have HG := Lib.hid hgd
  clear hs hat k hgd
  have HEM : Hid (∀ (q : St × Bool) (p : Int) (z : ByteArray), q.1 = st → Fit c.length (empties st.sh) z → empties (giveP q p z).1.sh ≤ empties st.sh) := fun q p z hq hz => by have := (giveP_inv (q := q) (p := p) (s := z) (by rw [hq]; exact hI) (by rw [hq]; exact hz)).2; rwa [hq] at this
  have HR : Hid (stepAt c st i x = if (giveP (st, false) ((i : Int) + 1) s).2 = true then none else some (giveP (st, false) ((i : Int) + 1) s).1) := by
    show _ = _
    have ha : after x (st.at_ i) = if true = true then some (s, ⟨#[]⟩) else none := by rw [HS.out]; simp only [after, K_.out]; rfl
    have := step_q (nx' := s) (lb' := ⟨#[]⟩) HBK.out ha (fun _ => rfl) (fun _ => rfl)
    simp only [Bool.not_true, Bool.or_false] at this
    rw [giveP_nil] at this
    exact this
  have FN : Fit c.length (empties st.sh) s := (fit_self HG.out hle)
  go_enter Tryz.func52, Tryz.ntmps52
  go_upto_region 2 with (fail)
  have h1 := vb.more #[.int .i64 18, .int .i64 x.a, .int .i64 x.b, .int .i64 x.line, .string x.text] 79
  have hcd1 := hcode.alloc (Nat.le_trans hhi vb.rows.bel.size) (.cells #[.int .i64 18, .int .i64 x.a, .int .i64 x.b, .int .i64 x.line, .string x.text] 79)
  obtain ⟨bx, hbx⟩ : ∃ bx, wr.heap.size = bx := ⟨_, rfl⟩
  rw [hbx] at h1 ⊢
  generalize wr.alloc (.cells #[.int .i64 18, .int .i64 x.a, .int .i64 x.b, .int .i64 x.line, .string x.text] 79) = w1 at h1 hcd1 ⊢
  clear ca la qs q0 q1 q2 q3 q4 hcode hbx vb
  have cx := h1.one.cell
  have lx := h1.one.lt
  go_wp2_with fail
  refine (impl_isLabel 18 _).mono ?_; rw [show jumpB 18 = false from rfl]; rintro e w2 ⟨rfl, rfl⟩
  go_wp2_with fail
  have hG := impl_give h1 hI (by omega) hbig ((i : Int) + 1) s hsz
  refine hG.mono ?_; clear hG; rintro e w2 ⟨rfl, sv2, tv2, h2⟩
  clear cx lx
  have cx := h2.one.cell
  have lx := h2.one.lt
  go_wp2_with fail
  go_end0
  refine ⟨rfl, (giveP (st, false) ((i : Int) + 1) s), ?_⟩
  refine ⟨?_, ?_, ?_⟩
  · exact ⟨_, _, h2.less⟩
  · exact (giveP_inv (q := (st, false)) (p := ((i : Int) + 1)) (s := s) hI FN).1
  · exact HR.out
set_option maxRecDepth 100000 in
set_option maxHeartbeats 2000000 in
theorem visit_11 {w0 wr : World} {b : Nat} {v0 v1 v2 v3 : Value} {Ai : Option Addr} {ni : Nat} {c : List InsT} {st : St} {i : Nat} {x : InsT} {sv tv : Value} {lo hi : Nat} (h : VisIn w0 wr b v0 v1 v2 v3 Ai ni c st i x sv tv lo hi) (k : x.op = 11) :
    Calls Tryz.prog 52 #[.pointer (some ⟨b, 0, none⟩), .int .i64 i] wr (VisPost w0 c.length b v0 v1 v2 v3 Ai ni (stepAt c st i x)) := by
  obtain ⟨vb, hI, hcode, hhi, hbig, hat, hsz, hok⟩ := h
  have hlt : i < c.length := (List.getElem?_eq_some_iff.1 hat).1
  obtain ⟨hgd, hle⟩ := hI.good _ (at_mem hsz) hsz
  obtain ⟨gs, caps, rfl, hgs1, hgs2, hcs1, hcs2⟩ := vb.rows.form (by omega)
  have qs := vb.rows.cell hlt
  obtain ⟨s, hs⟩ : ∃ s, st.at_ i = s := ⟨_, rfl⟩
  rw [hs] at qs hsz hgd hle
  obtain ⟨g, off, hA, hg1, hg2, -, -, q0, q1, q2, q3, q4⟩ := InsT.at_ hcode hat
  subst hA
  rw [k] at q0
  obtain ⟨hb0, hb9⟩ := hok.arg (by omega)
  obtain ⟨bn, hbn⟩ : ∃ bn : Nat, x.b = bn := ⟨x.b.toNat, by omega⟩
  have hb9 : bn ≤ 9 := by omega
  have HBN := Lib.hid hbn
  rw [hbn] at q2
  clear hb0 hbn
  have HBK : Hid (backB c i x = false) := back_no (by rw [k]; rfl)
  unfold maxLen at hcs2
  have ca := vb.box.cell
  have la := vb.box.lt
  have HS := Lib.hid hs
  have HAT := Lib.hid hat
  have K_ := Lib.hid k
  have HG := Lib.hid hgd
  clear hs hat k hgd
  have HEM : Hid (∀ (q : St × Bool) (p : Int) (z : ByteArray), q.1 = st → Fit c.length (empties st.sh) z → empties (giveP q p z).1.sh ≤ empties st.sh) := fun q p z hq hz => by have := (giveP_inv (q := q) (p := p) (s := z) (by rw [hq]; exact hI) (by rw [hq]; exact hz)).2; rwa [hq] at this
  have HR : Hid (stepAt c st i x = if (giveP (st, false || !(endsB s (vees bn))) ((i : Int) + 1) (cutE s (vees bn) ++ ⟨#[118]⟩)).2 = true then none else some (giveP (st, false || !(endsB s (vees bn))) ((i : Int) + 1) (cutE s (vees bn) ++ ⟨#[118]⟩)).1) := by
    show _ = _
    have ha : after x (st.at_ i) = if (endsB s (vees bn)) = true then some (cutN s bn ++ ⟨#[118]⟩, ⟨#[]⟩) else none := by rw [HS.out]; simp only [after, K_.out, HBN.out]; rfl
    have := step_q (nx' := (cutE s (vees bn) ++ ⟨#[118]⟩)) (lb' := ⟨#[]⟩) HBK.out ha (fun e => by rw [cutE_yes (by first | exact e | exact ((Bool.and_eq_true _ _).mp e).2)]; rw [vees_size]) (fun _ => rfl)
    rw [giveP_nil] at this
    exact this
  have hcz := cutE_size s (vees bn) hsz
  have FN : Fit c.length (empties st.sh) (cutE s (vees bn) ++ ⟨#[118]⟩) := (fit_app (cutE_good HG.out) (by have := hcz.2; omega) _)
  go_enter Tryz.func52, Tryz.ntmps52
  go_upto_region 2 with (fail)
  have h1 := vb.more #[.int .i64 11, .int .i64 x.a, .int .i64 (bn : Int), .int .i64 x.line, .string x.text] 79
  have hcd1 := hcode.alloc (Nat.le_trans hhi vb.rows.bel.size) (.cells #[.int .i64 11, .int .i64 x.a, .int .i64 (bn : Int), .int .i64 x.line, .string x.text] 79)
  obtain ⟨bx, hbx⟩ : ∃ bx, wr.heap.size = bx := ⟨_, rfl⟩
  rw [hbx] at h1 ⊢
  generalize wr.alloc (.cells #[.int .i64 11, .int .i64 x.a, .int .i64 (bn : Int), .int .i64 x.line, .string x.text] 79) = w1 at h1 hcd1 ⊢
  clear ca la qs q0 q1 q2 q3 q4 hcode hbx vb
  have cx := h1.one.cell
  have lx := h1.one.lt
  go_wp2_with fail
  refine (impl_isLabel 11 _).mono ?_; rw [show jumpB 11 = false from rfl]; rintro e w2 ⟨rfl, rfl⟩
  go_wp2_with fail
  refine (Tryz.strings_Repeat ⟨#[118]⟩ bn _ (by omega) (by rw [size_one]; omega)).mono ?_; rw [show (⟨(Lib.repeatL (⟨#[118]⟩ : ByteArray).data.toList bn).toArray⟩ : ByteArray) = vees bn from rfl]; rintro e w9 ⟨rfl, hb9⟩
  have h9 := h1.later hb9
  clear cx lx
  have cx := h9.one.cell
  have lx := h9.one.lt
  go_wp2_with fail
  have hG := impl_cutEnd h9 s (vees bn) hsz (by omega)
  refine hG.mono ?_; clear hG; rintro e w10 ⟨rfl, sv10, tv10, h10⟩
  dsimp only at h10
  clear cx lx
  have cx := h10.one.cell
  have lx := h10.one.lt
  go_wp2_with fail
  have hG := impl_give h10 hI (by omega) hbig ((i : Int) + 1) (cutE s (vees bn) ++ ⟨#[118]⟩) (by rw [ByteArray.size_append]; omega)
  refine hG.mono ?_; clear hG; rintro e w11 ⟨rfl, sv11, tv11, h11⟩
  clear cx lx
  have cx := h11.one.cell
  have lx := h11.one.lt
  go_wp2_with fail
  go_end0
  refine ⟨rfl, (giveP (st, false || !endsB s (vees bn)) ((i : Int) + 1) (cutE s (vees bn) ++ ⟨#[118]⟩)), ?_⟩
  refine ⟨?_, ?_, ?_⟩
  · exact ⟨_, _, h11.less⟩
  · exact (giveP_inv (q := (st, false || !endsB s (vees bn))) (p := ((i : Int) + 1)) (s := (cutE s (vees bn) ++ ⟨#[118]⟩)) hI FN).1
  · exact HR.out
end Go.Proofs.YtekobbeoaalibaaGreatDoor
end

section
namespace Go.Proofs.YtekobbeoaalibaaGreatDoor
open Go.RowKit
set_option linter.unusedVariables false

set_option maxRecDepth 100000 in
set_option maxHeartbeats 2000000 in
theorem visit_12 {w0 wr : World} {b : Nat} {v0 v1 v2 v3 : Value} {Ai : Option Addr} {ni : Nat} {c : List InsT} {st : St} {i : Nat} {x : InsT} {sv tv : Value} {lo hi : Nat} (h : VisIn w0 wr b v0 v1 v2 v3 Ai ni c st i x sv tv lo hi) (k : x.op = 12) :
    Calls Tryz.prog 52 #[.pointer (some ⟨b, 0, none⟩), .int .i64 i] wr (VisPost w0 c.length b v0 v1 v2 v3 Ai ni (stepAt c st i x)) := by
  obtain ⟨vb, hI, hcode, hhi, hbig, hat, hsz, hok⟩ := h
  have hlt : i < c.length := (List.getElem?_eq_some_iff.1 hat).1
  obtain ⟨hgd, hle⟩ := hI.good _ (at_mem hsz) hsz
  obtain ⟨gs, caps, rfl, hgs1, hgs2, hcs1, hcs2⟩ := vb.rows.form (by omega)
  have qs := vb.rows.cell hlt
  obtain ⟨s, hs⟩ : ∃ s, st.at_ i = s := ⟨_, rfl⟩
  rw [hs] at qs hsz hgd hle
  obtain ⟨g, off, hA, hg1, hg2, -, -, q0, q1, q2, q3, q4⟩ := InsT.at_ hcode hat
  subst hA
  rw [k] at q0
  obtain ⟨hb0, hb9⟩ := hok.arg (by omega)
  obtain ⟨bn, hbn⟩ : ∃ bn : Nat, x.b = bn := ⟨x.b.toNat, by omega⟩
  have hb9 : bn ≤ 9 := by omega
  have HBN := Lib.hid hbn
  rw [hbn] at q2
  clear hb0 hbn
  have HBK : Hid (backB c i x = false) := back_no (by rw [k]; rfl)
  unfold maxLen at hcs2
  have ca := vb.box.cell
  have la := vb.box.lt
  have HS := Lib.hid hs
  have HAT := Lib.hid hat
  have K_ := Lib.hid k
  have HG := Lib.hid hgd
  clear hs hat k hgd
  have HEM : Hid (∀ (q : St × Bool) (p : Int) (z : ByteArray), q.1 = st → Fit c.length (empties st.sh) z → empties (giveP q p z).1.sh ≤ empties st.sh) := fun q p z hq hz => by have := (giveP_inv (q := q) (p := p) (s := z) (by rw [hq]; exact hI) (by rw [hq]; exact hz)).2; rwa [hq] at this
  have HR : Hid (stepAt c st i x = if (giveP (st, false || !(endsB s (vees bn))) ((i : Int) + 1) (cutE s (vees bn) ++ ⟨#[118]⟩)).2 = true then none else some (giveP (st, false || !(endsB s (vees bn))) ((i : Int) + 1) (cutE s (vees bn) ++ ⟨#[118]⟩)).1) := by
    show _ = _
    have ha : after x (st.at_ i) = if (endsB s (vees bn)) = true then some (cutN s bn ++ ⟨#[118]⟩, ⟨#[]⟩) else none := by rw [HS.out]; simp only [after, K_.out, HBN.out]; rfl
    have := step_q (nx' := (cutE s (vees bn) ++ ⟨#[118]⟩)) (lb' := ⟨#[]⟩) HBK.out ha (fun e => by rw [cutE_yes (by first | exact e | exact ((Bool.and_eq_true _ _).mp e).2)]; rw [vees_size]) (fun _ => rfl)
    rw [giveP_nil] at this
    exact this
  have hcz := cutE_size s (vees bn) hsz
  have FN : Fit c.length (empties st.sh) (cutE s (vees bn) ++ ⟨#[118]⟩) := (fit_app (cutE_good HG.out) (by have := hcz.2; omega) _)
  go_enter Tryz.func52, Tryz.ntmps52
  go_upto_region 2 with (fail)
  have h1 := vb.more #[.int .i64 12, .int .i64 x.a, .int .i64 (bn : Int), .int .i64 x.line, .string x.text] 79
  have hcd1 := hcode.alloc (Nat.le_trans hhi vb.rows.bel.size) (.cells #[.int .i64 12, .int .i64 x.a, .int .i64 (bn : Int), .int .i64 x.line, .string x.text] 79)
  obtain ⟨bx, hbx⟩ : ∃ bx, wr.heap.size = bx := ⟨_, rfl⟩
  rw [hbx] at h1 ⊢
  generalize wr.alloc (.cells #[.int .i64 12, .int .i64 x.a, .int .i64 (bn : Int), .int .i64 x.line, .string x.text] 79) = w1 at h1 hcd1 ⊢
  clear ca la qs q0 q1 q2 q3 q4 hcode hbx vb
  have cx := h1.one.cell
  have lx := h1.one.lt
  go_wp2_with fail
  refine (impl_isLabel 12 _).mono ?_; rw [show jumpB 12 = false from rfl]; rintro e w2 ⟨rfl, rfl⟩
  go_wp2_with fail
  refine (Tryz.strings_Repeat ⟨#[118]⟩ bn _ (by omega) (by rw [size_one]; omega)).mono ?_; rw [show (⟨(Lib.repeatL (⟨#[118]⟩ : ByteArray).data.toList bn).toArray⟩ : ByteArray) = vees bn from rfl]; rintro e w9 ⟨rfl, hb9⟩
  have h9 := h1.later hb9
  clear cx lx
  have cx := h9.one.cell
  have lx := h9.one.lt
  go_wp2_with fail
  have hG := impl_cutEnd h9 s (vees bn) hsz (by omega)
  refine hG.mono ?_; clear hG; rintro e w10 ⟨rfl, sv10, tv10, h10⟩
  dsimp only at h10
  clear cx lx
  have cx := h10.one.cell
  have lx := h10.one.lt
  go_wp2_with fail
  have hG := impl_give h10 hI (by omega) hbig ((i : Int) + 1) (cutE s (vees bn) ++ ⟨#[118]⟩) (by rw [ByteArray.size_append]; omega)
  refine hG.mono ?_; clear hG; rintro e w11 ⟨rfl, sv11, tv11, h11⟩
  clear cx lx
  have cx := h11.one.cell
  have lx := h11.one.lt
  go_wp2_with fail
  go_end0
  refine ⟨rfl, (giveP (st, false || !endsB s (vees bn)) ((i : Int) + 1) (cutE s (vees bn) ++ ⟨#[118]⟩)), ?_⟩
  refine ⟨?_, ?_, ?_⟩
  · exact ⟨_, _, h11.less⟩
  · exact (giveP_inv (q := (st, false || !endsB s (vees bn))) (p := ((i : Int) + 1)) (s := (cutE s (vees bn) ++ ⟨#[118]⟩)) hI FN).1
  · exact HR.out
set_option maxRecDepth 100000 in
set_option maxHeartbeats 2000000 in
theorem visit_14 {w0 wr : World} {b : Nat} {v0 v1 v2 v3 : Value} {Ai : Option Addr} {ni : Nat} {c : List InsT} {st : St} {i : Nat} {x : InsT} {sv tv : Value} {lo hi : Nat} (h : VisIn w0 wr b v0 v1 v2 v3 Ai ni c st i x sv tv lo hi) (k : x.op = 14) :
    Calls Tryz.prog 52 #[.pointer (some ⟨b, 0, none⟩), .int .i64 i] wr (VisPost w0 c.length b v0 v1 v2 v3 Ai ni (stepAt c st i x)) := by
  obtain ⟨vb, hI, hcode, hhi, hbig, hat, hsz, hok⟩ := h
  have hlt : i < c.length := (List.getElem?_eq_some_iff.1 hat).1
  obtain ⟨hgd, hle⟩ := hI.good _ (at_mem hsz) hsz
  obtain ⟨gs, caps, rfl, hgs1, hgs2, hcs1, hcs2⟩ := vb.rows.form (by omega)
  have qs := vb.rows.cell hlt
  obtain ⟨s, hs⟩ : ∃ s, st.at_ i = s := ⟨_, rfl⟩
  rw [hs] at qs hsz hgd hle
  obtain ⟨g, off, hA, hg1, hg2, -, -, q0, q1, q2, q3, q4⟩ := InsT.at_ hcode hat
  subst hA
  rw [k] at q0
  have HBK : Hid (backB c i x = false) := back_no (by rw [k]; rfl)
  unfold maxLen at hcs2
  have ca := vb.box.cell
  have la := vb.box.lt
  have HS := Lib.hid hs
  have HAT := Lib.hid hat
  have K_ := Lib.hid k
  have HG := Lib.hid hgd
  clear hs hat k hgd
  have HEM : Hid (∀ (q : St × Bool) (p : Int) (z : ByteArray), q.1 = st → Fit c.length (empties st.sh) z → empties (giveP q p z).1.sh ≤ empties st.sh) := fun q p z hq hz => by have := (giveP_inv (q := q) (p := p) (s := z) (by rw [hq]; exact hI) (by rw [hq]; exact hz)).2; rwa [hq] at this
  have hml := mark_lt s
  by_cases hm : markI s < 0
  · have HR : Hid (stepAt c st i x = if ((st, true) : St × Bool).2 = true then none else some ((st, true) : St × Bool).1) := by
      show _ = _
      have ha : after x s = none := by simp only [after, K_.out]; exact if_pos hm
      unfold stepAt; rw [HBK.out, if_neg (by decide), HS.out, ha]; rfl
    go_enter Tryz.func52, Tryz.ntmps52
    go_upto_region 2 with (fail)
    have h1 := vb.more #[.int .i64 14, .int .i64 x.a, .int .i64 x.b, .int .i64 x.line, .string x.text] 79
    have hcd1 := hcode.alloc (Nat.le_trans hhi vb.rows.bel.size) (.cells #[.int .i64 14, .int .i64 x.a, .int .i64 x.b, .int .i64 x.line, .string x.text] 79)
    obtain ⟨bx, hbx⟩ : ∃ bx, wr.heap.size = bx := ⟨_, rfl⟩
    rw [hbx] at h1 ⊢
    generalize wr.alloc (.cells #[.int .i64 14, .int .i64 x.a, .int .i64 x.b, .int .i64 x.line, .string x.text] 79) = w1 at h1 hcd1 ⊢
    clear ca la qs q0 q1 q2 q3 q4 hcode hbx vb
    have cx := h1.one.cell
    have lx := h1.one.lt
    go_wp2_with fail
    refine (impl_isLabel 14 _).mono ?_; rw [show jumpB 14 = false from rfl]; rintro e w2 ⟨rfl, rfl⟩
    go_wp2_with fail
    refine (Tryz.strings_LastIndexByte _ 109 (by simp; omega) _).mono ?_; rw [show Lib.lastIndexByte (s.extract 1 s.size) 109 = markI s from rfl]; rintro e w3 ⟨rfl, rfl⟩
    have ca := h1.box.cell
    have la := h1.box.lt
    have cf := h1.box.frozen
    go_wp2_with fail
    go_end0
    exact ⟨rfl, (st, true), ⟨_, _, h1.bad.less⟩, hI, HR.out⟩
  · obtain ⟨mk, hmk⟩ : ∃ mk : Nat, markI s = mk := ⟨(markI s).toNat, by omega⟩
    have HMK := Lib.hid hmk
    have hm1 : 1 + mk < s.size := by have := hml.2 (by omega); omega
    have HR : Hid (stepAt c st i x = if (giveP (st, false) ((i : Int) + 1) (s.extract 0 (1 + mk))).2 = true then none else some (giveP (st, false) ((i : Int) + 1) (s.extract 0 (1 + mk))).1) := by
      show _ = _
      have ha : after x (st.at_ i) = if true = true then some (s.extract 0 (1 + mk), ⟨#[]⟩) else none := by rw [HS.out]; simp only [after, K_.out]; rw [hmk]; exact if_neg (by omega)
      have := step_q (lb' := ⟨#[]⟩) HBK.out ha (fun _ => rfl) (fun _ => rfl)
      rwa [giveP_nil] at this
    have FN : Fit c.length (empties st.sh) (s.extract 0 (1 + mk)) := fit_self (good_extract _ _ HG.out (by omega)) (by simp only [ByteArray.size_extract]; omega)
    clear hmk hm hml
    go_enter Tryz.func52, Tryz.ntmps52
    go_upto_region 2 with (fail)
    have h1 := vb.more #[.int .i64 14, .int .i64 x.a, .int .i64 x.b, .int .i64 x.line, .string x.text] 79
    have hcd1 := hcode.alloc (Nat.le_trans hhi vb.rows.bel.size) (.cells #[.int .i64 14, .int .i64 x.a, .int .i64 x.b, .int .i64 x.line, .string x.text] 79)
    obtain ⟨bx, hbx⟩ : ∃ bx, wr.heap.size = bx := ⟨_, rfl⟩
    rw [hbx] at h1 ⊢
    generalize wr.alloc (.cells #[.int .i64 14, .int .i64 x.a, .int .i64 x.b, .int .i64 x.line, .string x.text] 79) = w1 at h1 hcd1 ⊢
    clear ca la qs q0 q1 q2 q3 q4 hcode hbx vb
    have cx := h1.one.cell
    have lx := h1.one.lt
    go_wp2_with fail
    refine (impl_isLabel 14 _).mono ?_; rw [show jumpB 14 = false from rfl]; rintro e w2 ⟨rfl, rfl⟩
    go_wp2_with fail
    refine (Tryz.strings_LastIndexByte _ 109 (by simp; omega) _).mono ?_; rw [show Lib.lastIndexByte (s.extract 1 s.size) 109 = markI s from rfl, HMK.out]; rintro e w3 ⟨rfl, rfl⟩
    go_wp2_with fail
    have hG := impl_give h1 hI (by omega) hbig ((i : Int) + 1) (s.extract 0 (1 + mk)) (by simp only [ByteArray.size_extract]; omega)
    refine hG.mono ?_; clear hG; rintro e w2 ⟨rfl, sv2, tv2, h2⟩
    clear cx lx
    have cx := h2.one.cell
    have lx := h2.one.lt
    go_wp2_with fail
    go_end0
    exact ⟨rfl, (giveP (st, false) ((i : Int) + 1) (s.extract 0 (1 + mk))), ⟨_, _, h2.less⟩, (giveP_inv (q := (st, false)) (p := (i : Int) + 1) (s := s.extract 0 (1 + mk)) hI FN).1, HR.out⟩
set_option maxRecDepth 100000 in
set_option maxHeartbeats 2000000 in
theorem visit_20 {w0 wr : World} {b : Nat} {v0 v1 v2 v3 : Value} {Ai : Option Addr} {ni : Nat} {c : List InsT} {st : St} {i : Nat} {x : InsT} {sv tv : Value} {lo hi : Nat} (h : VisIn w0 wr b v0 v1 v2 v3 Ai ni c st i x sv tv lo hi) (k : x.op = 20) :
    Calls Tryz.prog 52 #[.pointer (some ⟨b, 0, none⟩), .int .i64 i] wr (VisPost w0 c.length b v0 v1 v2 v3 Ai ni (stepAt c st i x)) := by
  obtain ⟨vb, hI, hcode, hhi, hbig, hat, hsz, hok⟩ := h
  have hlt : i < c.length := (List.getElem?_eq_some_iff.1 hat).1
  obtain ⟨hgd, hle⟩ := hI.good _ (at_mem hsz) hsz
  obtain ⟨gs, caps, rfl, hgs1, hgs2, hcs1, hcs2⟩ := vb.rows.form (by omega)
  have qs := vb.rows.cell hlt
  obtain ⟨s, hs⟩ : ∃ s, st.at_ i = s := ⟨_, rfl⟩
  rw [hs] at qs hsz hgd hle
  obtain ⟨g, off, hA, hg1, hg2, -, -, q0, q1, q2, q3, q4⟩ := InsT.at_ hcode hat
  subst hA
  rw [k] at q0
  have HBK : Hid (backB c i x = false) := back_no (by rw [k]; rfl)
  unfold maxLen at hcs2
  have ca := vb.box.cell
  have la := vb.box.lt
  have HS := Lib.hid hs
  have HAT := Lib.hid hat
  have K_ := Lib.hid k
  have HG := Lib.hid hgd
  clear hs hat k hgd
  have HEM : Hid (∀ (q : St × Bool) (p : Int) (z : ByteArray), q.1 = st → Fit c.length (empties st.sh) z → empties (giveP q p z).1.sh ≤ empties st.sh) := fun q p z hq hz => by have := (giveP_inv (q := q) (p := p) (s := z) (by rw [hq]; exact hI) (by rw [hq]; exact hz)).2; rwa [hq] at this
  have HR : Hid (stepAt c st i x = if (giveP (st, false || !(endsB s ⟨#[118]⟩)) ((i : Int) + 1) (cutE s ⟨#[118]⟩ ++ ⟨#[109]⟩)).2 = true then none else some (giveP (st, false || !(endsB s ⟨#[118]⟩)) ((i : Int) + 1) (cutE s ⟨#[118]⟩ ++ ⟨#[109]⟩)).1) := by
    show _ = _
    have ha : after x (st.at_ i) = if (endsB s ⟨#[118]⟩) = true then some (cutN s 1 ++ ⟨#[109]⟩, ⟨#[]⟩) else none := by rw [HS.out]; simp only [after, K_.out]; rfl
    have := step_q (nx' := (cutE s ⟨#[118]⟩ ++ ⟨#[109]⟩)) (lb' := ⟨#[]⟩) HBK.out ha (fun e => by rw [cutE_yes (by first | exact e | exact ((Bool.and_eq_true _ _).mp e).2)]; try rfl) (fun _ => rfl)
    rw [giveP_nil] at this
    exact this
  have hcz := cutE_size s ⟨#[118]⟩ hsz
  have FN : Fit c.length (empties st.sh) (cutE s ⟨#[118]⟩ ++ ⟨#[109]⟩) := (fit_app (cutE_good HG.out) (by have := hcz.2; omega) _)
  go_enter Tryz.func52, Tryz.ntmps52
  go_upto_region 2 with (fail)
  have h1 := vb.more #[.int .i64 20, .int .i64 x.a, .int .i64 x.b, .int .i64 x.line, .string x.text] 79
  have hcd1 := hcode.alloc (Nat.le_trans hhi vb.rows.bel.size) (.cells #[.int .i64 20, .int .i64 x.a, .int .i64 x.b, .int .i64 x.line, .string x.text] 79)
  obtain ⟨bx, hbx⟩ : ∃ bx, wr.heap.size = bx := ⟨_, rfl⟩
  rw [hbx] at h1 ⊢
  generalize wr.alloc (.cells #[.int .i64 20, .int .i64 x.a, .int .i64 x.b, .int .i64 x.line, .string x.text] 79) = w1 at h1 hcd1 ⊢
  clear ca la qs q0 q1 q2 q3 q4 hcode hbx vb
  have cx := h1.one.cell
  have lx := h1.one.lt
  go_wp2_with fail
  refine (impl_isLabel 20 _).mono ?_; rw [show jumpB 20 = false from rfl]; rintro e w2 ⟨rfl, rfl⟩
  go_wp2_with fail
  have hG := impl_cutEnd h1 s ⟨#[118]⟩ hsz (by omega)
  refine hG.mono ?_; clear hG; rintro e w2 ⟨rfl, sv2, tv2, h2⟩
  dsimp only at h2
  clear cx lx
  have cx := h2.one.cell
  have lx := h2.one.lt
  go_wp2_with fail
  have hG := impl_give h2 hI (by omega) hbig ((i : Int) + 1) (cutE s ⟨#[118]⟩ ++ ⟨#[109]⟩) (by rw [ByteArray.size_append]; omega)
  refine hG.mono ?_; clear hG; rintro e w3 ⟨rfl, sv3, tv3, h3⟩
  clear cx lx
  have cx := h3.one.cell
  have lx := h3.one.lt
  go_wp2_with fail
  go_end0
  refine ⟨rfl, (giveP (st, false || !endsB s ⟨#[118]⟩) ((i : Int) + 1) (cutE s ⟨#[118]⟩ ++ ⟨#[109]⟩)), ?_⟩
  refine ⟨?_, ?_, ?_⟩
  · exact ⟨_, _, h3.less⟩
  · exact (giveP_inv (q := (st, false || !endsB s ⟨#[118]⟩)) (p := ((i : Int) + 1)) (s := (cutE s ⟨#[118]⟩ ++ ⟨#[109]⟩)) hI FN).1
  · exact HR.out
set_option maxRecDepth 100000 in
set_option maxHeartbeats 2000000 in
theorem visit_21 {w0 wr : World} {b : Nat} {v0 v1 v2 v3 : Value} {Ai : Option Addr} {ni : Nat} {c : List InsT} {st : St} {i : Nat} {x : InsT} {sv tv : Value} {lo hi : Nat} (h : VisIn w0 wr b v0 v1 v2 v3 Ai ni c st i x sv tv lo hi) (k : x.op = 21) :
    Calls Tryz.prog 52 #[.pointer (some ⟨b, 0, none⟩), .int .i64 i] wr (VisPost w0 c.length b v0 v1 v2 v3 Ai ni (stepAt c st i x)) := by
  obtain ⟨vb, hI, hcode, hhi, hbig, hat, hsz, hok⟩ := h
  have hlt : i < c.length := (List.getElem?_eq_some_iff.1 hat).1
  obtain ⟨hgd, hle⟩ := hI.good _ (at_mem hsz) hsz
  obtain ⟨gs, caps, rfl, hgs1, hgs2, hcs1, hcs2⟩ := vb.rows.form (by omega)
  have qs := vb.rows.cell hlt
  obtain ⟨s, hs⟩ : ∃ s, st.at_ i = s := ⟨_, rfl⟩
  rw [hs] at qs hsz hgd hle
  obtain ⟨g, off, hA, hg1, hg2, -, -, q0, q1, q2, q3, q4⟩ := InsT.at_ hcode hat
  subst hA
  rw [k] at q0
  have HBK : Hid (backB c i x = false) := back_no (by rw [k]; rfl)
  unfold maxLen at hcs2
  have ca := vb.box.cell
  have la := vb.box.lt
  have HS := Lib.hid hs
  have HAT := Lib.hid hat
  have K_ := Lib.hid k
  have HG := Lib.hid hgd
  clear hs hat k hgd
  have HEM : Hid (∀ (q : St × Bool) (p : Int) (z : ByteArray), q.1 = st → Fit c.length (empties st.sh) z → empties (giveP q p z).1.sh ≤ empties st.sh) := fun q p z hq hz => by have := (giveP_inv (q := q) (p := p) (s := z) (by rw [hq]; exact hI) (by rw [hq]; exact hz)).2; rwa [hq] at this
  have HR : Hid (stepAt c st i x = if (giveP (st, false || !(endsB s ⟨#[109, 118]⟩)) ((i : Int) + 1) (cutE s ⟨#[109, 118]⟩ ++ ⟨#[118]⟩)).2 = true then none else some (giveP (st, false || !(endsB s ⟨#[109, 118]⟩)) ((i : Int) + 1) (cutE s ⟨#[109, 118]⟩ ++ ⟨#[118]⟩)).1) := by
    show _ = _
    have ha : after x (st.at_ i) = if (endsB s ⟨#[109, 118]⟩) = true then some (cutN s 2 ++ ⟨#[118]⟩, ⟨#[]⟩) else none := by rw [HS.out]; simp only [after, K_.out]; rfl
    have := step_q (nx' := (cutE s ⟨#[109, 118]⟩ ++ ⟨#[118]⟩)) (lb' := ⟨#[]⟩) HBK.out ha (fun e => by rw [cutE_yes (by first | exact e | exact ((Bool.and_eq_true _ _).mp e).2)]; try rfl) (fun _ => rfl)
    rw [giveP_nil] at this
    exact this
  have hcz := cutE_size s ⟨#[109, 118]⟩ hsz
  have FN : Fit c.length (empties st.sh) (cutE s ⟨#[109, 118]⟩ ++ ⟨#[118]⟩) := (fit_app (cutE_good HG.out) (by have := hcz.2; omega) _)
  go_enter Tryz.func52, Tryz.ntmps52
  go_upto_region 2 with (fail)
  have h1 := vb.more #[.int .i64 21, .int .i64 x.a, .int .i64 x.b, .int .i64 x.line, .string x.text] 79
  have hcd1 := hcode.alloc (Nat.le_trans hhi vb.rows.bel.size) (.cells #[.int .i64 21, .int .i64 x.a, .int .i64 x.b, .int .i64 x.line, .string x.text] 79)
  obtain ⟨bx, hbx⟩ : ∃ bx, wr.heap.size = bx := ⟨_, rfl⟩
  rw [hbx] at h1 ⊢
  generalize wr.alloc (.cells #[.int .i64 21, .int .i64 x.a, .int .i64 x.b, .int .i64 x.line, .string x.text] 79) = w1 at h1 hcd1 ⊢
  clear ca la qs q0 q1 q2 q3 q4 hcode hbx vb
  have cx := h1.one.cell
  have lx := h1.one.lt
  go_wp2_with fail
  refine (impl_isLabel 21 _).mono ?_; rw [show jumpB 21 = false from rfl]; rintro e w2 ⟨rfl, rfl⟩
  go_wp2_with fail
  have hG := impl_cutEnd h1 s ⟨#[109, 118]⟩ hsz (by omega)
  refine hG.mono ?_; clear hG; rintro e w2 ⟨rfl, sv2, tv2, h2⟩
  dsimp only at h2
  clear cx lx
  have cx := h2.one.cell
  have lx := h2.one.lt
  go_wp2_with fail
  have hG := impl_give h2 hI (by omega) hbig ((i : Int) + 1) (cutE s ⟨#[109, 118]⟩ ++ ⟨#[118]⟩) (by rw [ByteArray.size_append]; omega)
  refine hG.mono ?_; clear hG; rintro e w3 ⟨rfl, sv3, tv3, h3⟩
  clear cx lx
  have cx := h3.one.cell
  have lx := h3.one.lt
  go_wp2_with fail
  go_end0
  refine ⟨rfl, (giveP (st, false || !endsB s ⟨#[109, 118]⟩) ((i : Int) + 1) (cutE s ⟨#[109, 118]⟩ ++ ⟨#[118]⟩)), ?_⟩
  refine ⟨?_, ?_, ?_⟩
  · exact ⟨_, _, h3.less⟩
  · exact (giveP_inv (q := (st, false || !endsB s ⟨#[109, 118]⟩)) (p := ((i : Int) + 1)) (s := (cutE s ⟨#[109, 118]⟩ ++ ⟨#[118]⟩)) hI FN).1
  · exact HR.out
set_option maxRecDepth 100000 in
set_option maxHeartbeats 2000000 in
theorem visit_22 {w0 wr : World} {b : Nat} {v0 v1 v2 v3 : Value} {Ai : Option Addr} {ni : Nat} {c : List InsT} {st : St} {i : Nat} {x : InsT} {sv tv : Value} {lo hi : Nat} (h : VisIn w0 wr b v0 v1 v2 v3 Ai ni c st i x sv tv lo hi) (k : x.op = 22) :
    Calls Tryz.prog 52 #[.pointer (some ⟨b, 0, none⟩), .int .i64 i] wr (VisPost w0 c.length b v0 v1 v2 v3 Ai ni (stepAt c st i x)) := by
  obtain ⟨vb, hI, hcode, hhi, hbig, hat, hsz, hok⟩ := h
  have hlt : i < c.length := (List.getElem?_eq_some_iff.1 hat).1
  obtain ⟨hgd, hle⟩ := hI.good _ (at_mem hsz) hsz
  obtain ⟨gs, caps, rfl, hgs1, hgs2, hcs1, hcs2⟩ := vb.rows.form (by omega)
  have qs := vb.rows.cell hlt
  obtain ⟨s, hs⟩ : ∃ s, st.at_ i = s := ⟨_, rfl⟩
  rw [hs] at qs hsz hgd hle
  obtain ⟨g, off, hA, hg1, hg2, -, -, q0, q1, q2, q3, q4⟩ := InsT.at_ hcode hat
  subst hA
  rw [k] at q0
  have HBK : Hid (backB c i x = false) := back_no (by rw [k]; rfl)
  unfold maxLen at hcs2
  have ca := vb.box.cell
  have la := vb.box.lt
  have HS := Lib.hid hs
  have HAT := Lib.hid hat
  have K_ := Lib.hid k
  have HG := Lib.hid hgd
  clear hs hat k hgd
  have HEM : Hid (∀ (q : St × Bool) (p : Int) (z : ByteArray), q.1 = st → Fit c.length (empties st.sh) z → empties (giveP q p z).1.sh ≤ empties st.sh) := fun q p z hq hz => by have := (giveP_inv (q := q) (p := p) (s := z) (by rw [hq]; exact hI) (by rw [hq]; exact hz)).2; rwa [hq] at this
  have HR : Hid (stepAt c st i x = if (giveP (st, false || !(endsB s ⟨#[118]⟩)) ((i : Int) + 1) (cutE s ⟨#[118]⟩ ++ ⟨#[115]⟩)).2 = true then none else some (giveP (st, false || !(endsB s ⟨#[118]⟩)) ((i : Int) + 1) (cutE s ⟨#[118]⟩ ++ ⟨#[115]⟩)).1) := by
    show _ = _
    have ha : after x (st.at_ i) = if (endsB s ⟨#[118]⟩) = true then some (cutN s 1 ++ ⟨#[115]⟩, ⟨#[]⟩) else none := by rw [HS.out]; simp only [after, K_.out]; rfl
    have := step_q (nx' := (cutE s ⟨#[118]⟩ ++ ⟨#[115]⟩)) (lb' := ⟨#[]⟩) HBK.out ha (fun e => by rw [cutE_yes (by first | exact e | exact ((Bool.and_eq_true _ _).mp e).2)]; try rfl) (fun _ => rfl)
    rw [giveP_nil] at this
    exact this
  have hcz := cutE_size s ⟨#[118]⟩ hsz
  have FN : Fit c.length (empties st.sh) (cutE s ⟨#[118]⟩ ++ ⟨#[115]⟩) := (fit_app (cutE_good HG.out) (by have := hcz.2; omega) _)
  go_enter Tryz.func52, Tryz.ntmps52
  go_upto_region 2 with (fail)
  have h1 := vb.more #[.int .i64 22, .int .i64 x.a, .int .i64 x.b, .int .i64 x.line, .string x.text] 79
  have hcd1 := hcode.alloc (Nat.le_trans hhi vb.rows.bel.size) (.cells #[.int .i64 22, .int .i64 x.a, .int .i64 x.b, .int .i64 x.line, .string x.text] 79)
  obtain ⟨bx, hbx⟩ : ∃ bx, wr.heap.size = bx := ⟨_, rfl⟩
  rw [hbx] at h1 ⊢
  generalize wr.alloc (.cells #[.int .i64 22, .int .i64 x.a, .int .i64 x.b, .int .i64 x.line, .string x.text] 79) = w1 at h1 hcd1 ⊢
  clear ca la qs q0 q1 q2 q3 q4 hcode hbx vb
  have cx := h1.one.cell
  have lx := h1.one.lt
  go_wp2_with fail
  refine (impl_isLabel 22 _).mono ?_; rw [show jumpB 22 = false from rfl]; rintro e w2 ⟨rfl, rfl⟩
  go_wp2_with fail
  have hG := impl_cutEnd h1 s ⟨#[118]⟩ hsz (by omega)
  refine hG.mono ?_; clear hG; rintro e w2 ⟨rfl, sv2, tv2, h2⟩
  dsimp only at h2
  clear cx lx
  have cx := h2.one.cell
  have lx := h2.one.lt
  go_wp2_with fail
  have hG := impl_give h2 hI (by omega) hbig ((i : Int) + 1) (cutE s ⟨#[118]⟩ ++ ⟨#[115]⟩) (by rw [ByteArray.size_append]; omega)
  refine hG.mono ?_; clear hG; rintro e w3 ⟨rfl, sv3, tv3, h3⟩
  clear cx lx
  have cx := h3.one.cell
  have lx := h3.one.lt
  go_wp2_with fail
  go_end0
  refine ⟨rfl, (giveP (st, false || !endsB s ⟨#[118]⟩) ((i : Int) + 1) (cutE s ⟨#[118]⟩ ++ ⟨#[115]⟩)), ?_⟩
  refine ⟨?_, ?_, ?_⟩
  · exact ⟨_, _, h3.less⟩
  · exact (giveP_inv (q := (st, false || !endsB s ⟨#[118]⟩)) (p := ((i : Int) + 1)) (s := (cutE s ⟨#[118]⟩ ++ ⟨#[115]⟩)) hI FN).1
  · exact HR.out
set_option maxRecDepth 100000 in
set_option maxHeartbeats 2000000 in
theorem visit_23 {w0 wr : World} {b : Nat} {v0 v1 v2 v3 : Value} {Ai : Option Addr} {ni : Nat} {c : List InsT} {st : St} {i : Nat} {x : InsT} {sv tv : Value} {lo hi : Nat} (h : VisIn w0 wr b v0 v1 v2 v3 Ai ni c st i x sv tv lo hi) (k : x.op = 23) :
    Calls Tryz.prog 52 #[.pointer (some ⟨b, 0, none⟩), .int .i64 i] wr (VisPost w0 c.length b v0 v1 v2 v3 Ai ni (stepAt c st i x)) := by
  obtain ⟨vb, hI, hcode, hhi, hbig, hat, hsz, hok⟩ := h
  have hlt : i < c.length := (List.getElem?_eq_some_iff.1 hat).1
  obtain ⟨hgd, hle⟩ := hI.good _ (at_mem hsz) hsz
  obtain ⟨gs, caps, rfl, hgs1, hgs2, hcs1, hcs2⟩ := vb.rows.form (by omega)
  have qs := vb.rows.cell hlt
  obtain ⟨s, hs⟩ : ∃ s, st.at_ i = s := ⟨_, rfl⟩
  rw [hs] at qs hsz hgd hle
  obtain ⟨g, off, hA, hg1, hg2, -, -, q0, q1, q2, q3, q4⟩ := InsT.at_ hcode hat
  subst hA
  rw [k] at q0
  have HBK : Hid (backB c i x = false) := back_no (by rw [k]; rfl)
  unfold maxLen at hcs2
  have ca := vb.box.cell
  have la := vb.box.lt
  have HS := Lib.hid hs
  have HAT := Lib.hid hat
  have K_ := Lib.hid k
  have HG := Lib.hid hgd
  clear hs hat k hgd
  have HEM : Hid (∀ (q : St × Bool) (p : Int) (z : ByteArray), q.1 = st → Fit c.length (empties st.sh) z → empties (giveP q p z).1.sh ≤ empties st.sh) := fun q p z hq hz => by have := (giveP_inv (q := q) (p := p) (s := z) (by rw [hq]; exact hI) (by rw [hq]; exact hz)).2; rwa [hq] at this
  have HR : Hid (stepAt c st i x = if (giveP (st, false || !(endsB s ⟨#[115, 118]⟩)) ((i : Int) + 1) (cutE s ⟨#[115, 118]⟩ ++ ⟨#[118]⟩)).2 = true then none else some (giveP (st, false || !(endsB s ⟨#[115, 118]⟩)) ((i : Int) + 1) (cutE s ⟨#[115, 118]⟩ ++ ⟨#[118]⟩)).1) := by
    show _ = _
    have ha : after x (st.at_ i) = if (endsB s ⟨#[115, 118]⟩) = true then some (cutN s 2 ++ ⟨#[118]⟩, ⟨#[]⟩) else none := by rw [HS.out]; simp only [after, K_.out]; rfl
    have := step_q (nx' := (cutE s ⟨#[115, 118]⟩ ++ ⟨#[118]⟩)) (lb' := ⟨#[]⟩) HBK.out ha (fun e => by rw [cutE_yes (by first | exact e | exact ((Bool.and_eq_true _ _).mp e).2)]; try rfl) (fun _ => rfl)
    rw [giveP_nil] at this
    exact this
  have hcz := cutE_size s ⟨#[115, 118]⟩ hsz
  have FN : Fit c.length (empties st.sh) (cutE s ⟨#[115, 118]⟩ ++ ⟨#[118]⟩) := (fit_app (cutE_good HG.out) (by have := hcz.2; omega) _)
  go_enter Tryz.func52, Tryz.ntmps52
  go_upto_region 2 with (fail)
  have h1 := vb.more #[.int .i64 23, .int .i64 x.a, .int .i64 x.b, .int .i64 x.line, .string x.text] 79
  have hcd1 := hcode.alloc (Nat.le_trans hhi vb.rows.bel.size) (.cells #[.int .i64 23, .int .i64 x.a, .int .i64 x.b, .int .i64 x.line, .string x.text] 79)
  obtain ⟨bx, hbx⟩ : ∃ bx, wr.heap.size = bx := ⟨_, rfl⟩
  rw [hbx] at h1 ⊢
  generalize wr.alloc (.cells #[.int .i64 23, .int .i64 x.a, .int .i64 x.b, .int .i64 x.line, .string x.text] 79) = w1 at h1 hcd1 ⊢
  clear ca la qs q0 q1 q2 q3 q4 hcode hbx vb
  have cx := h1.one.cell
  have lx := h1.one.lt
  go_wp2_with fail
  refine (impl_isLabel 23 _).mono ?_; rw [show jumpB 23 = false from rfl]; rintro e w2 ⟨rfl, rfl⟩
  go_wp2_with fail
  have hG := impl_cutEnd h1 s ⟨#[115, 118]⟩ hsz (by omega)
  refine hG.mono ?_; clear hG; rintro e w2 ⟨rfl, sv2, tv2, h2⟩
  dsimp only at h2
  clear cx lx
  have cx := h2.one.cell
  have lx := h2.one.lt
  go_wp2_with fail
  have hG := impl_give h2 hI (by omega) hbig ((i : Int) + 1) (cutE s ⟨#[115, 118]⟩ ++ ⟨#[118]⟩) (by rw [ByteArray.size_append]; omega)
  refine hG.mono ?_; clear hG; rintro e w3 ⟨rfl, sv3, tv3, h3⟩
  clear cx lx
  have cx := h3.one.cell
  have lx := h3.one.lt
  go_wp2_with fail
  go_end0
  refine ⟨rfl, (giveP (st, false || !endsB s ⟨#[115, 118]⟩) ((i : Int) + 1) (cutE s ⟨#[115, 118]⟩ ++ ⟨#[118]⟩)), ?_⟩
  refine ⟨?_, ?_, ?_⟩
  · exact ⟨_, _, h3.less⟩
  · exact (giveP_inv (q := (st, false || !endsB s ⟨#[115, 118]⟩)) (p := ((i : Int) + 1)) (s := (cutE s ⟨#[115, 118]⟩ ++ ⟨#[118]⟩)) hI FN).1
  · exact HR.out
set_option maxRecDepth 100000 in
set_option maxHeartbeats 2000000 in
theorem visit_24 {w0 wr : World} {b : Nat} {v0 v1 v2 v3 : Value} {Ai : Option Addr} {ni : Nat} {c : List InsT} {st : St} {i : Nat} {x : InsT} {sv tv : Value} {lo hi : Nat} (h : VisIn w0 wr b v0 v1 v2 v3 Ai ni c st i x sv tv lo hi) (k : x.op = 24) :
    Calls Tryz.prog 52 #[.pointer (some ⟨b, 0, none⟩), .int .i64 i] wr (VisPost w0 c.length b v0 v1 v2 v3 Ai ni (stepAt c st i x)) := by
  obtain ⟨vb, hI, hcode, hhi, hbig, hat, hsz, hok⟩ := h
  have hlt : i < c.length := (List.getElem?_eq_some_iff.1 hat).1
  obtain ⟨hgd, hle⟩ := hI.good _ (at_mem hsz) hsz
  obtain ⟨gs, caps, rfl, hgs1, hgs2, hcs1, hcs2⟩ := vb.rows.form (by omega)
  have qs := vb.rows.cell hlt
  obtain ⟨s, hs⟩ : ∃ s, st.at_ i = s := ⟨_, rfl⟩
  rw [hs] at qs hsz hgd hle
  obtain ⟨g, off, hA, hg1, hg2, -, -, q0, q1, q2, q3, q4⟩ := InsT.at_ hcode hat
  subst hA
  rw [k] at q0
  have HBK : Hid (backB c i x = false) := back_no (by rw [k]; rfl)
  unfold maxLen at hcs2
  have ca := vb.box.cell
  have la := vb.box.lt
  have HS := Lib.hid hs
  have HAT := Lib.hid hat
  have K_ := Lib.hid k
  have HG := Lib.hid hgd
  clear hs hat k hgd
  have HEM : Hid (∀ (q : St × Bool) (p : Int) (z : ByteArray), q.1 = st → Fit c.length (empties st.sh) z → empties (giveP q p z).1.sh ≤ empties st.sh) := fun q p z hq hz => by have := (giveP_inv (q := q) (p := p) (s := z) (by rw [hq]; exact hI) (by rw [hq]; exact hz)).2; rwa [hq] at this
  have HR : Hid (stepAt c st i x = if (st, false || !(routB s && endsB s ⟨#[118]⟩)).2 = true then none else some (st, false || !(routB s && endsB s ⟨#[118]⟩)).1) := by
    show _ = _
    have ha : after x (st.at_ i) = if (routB s && endsB s ⟨#[118]⟩) = true then some (⟨#[]⟩, ⟨#[]⟩) else none := by rw [HS.out]; simp only [after, K_.out]; cases routB s <;> cases endsB s ⟨#[118]⟩ <;> rfl
    have := step_q (nx' := ⟨#[]⟩) (lb' := ⟨#[]⟩) HBK.out ha (fun _ => rfl) (fun _ => rfl)
    rw [giveP_nil] at this
    rw [giveP_nil] at this
    exact this
  go_enter Tryz.func52, Tryz.ntmps52
  go_upto_region 2 with (fail)
  have h1 := vb.more #[.int .i64 24, .int .i64 x.a, .int .i64 x.b, .int .i64 x.line, .string x.text] 79
  have hcd1 := hcode.alloc (Nat.le_trans hhi vb.rows.bel.size) (.cells #[.int .i64 24, .int .i64 x.a, .int .i64 x.b, .int .i64 x.line, .string x.text] 79)
  obtain ⟨bx, hbx⟩ : ∃ bx, wr.heap.size = bx := ⟨_, rfl⟩
  rw [hbx] at h1 ⊢
  generalize wr.alloc (.cells #[.int .i64 24, .int .i64 x.a, .int .i64 x.b, .int .i64 x.line, .string x.text] 79) = w1 at h1 hcd1 ⊢
  clear ca la qs q0 q1 q2 q3 q4 hcode hbx vb
  have cx := h1.one.cell
  have lx := h1.one.lt
  go_wp2_with fail
  refine (impl_isLabel 24 _).mono ?_; rw [show jumpB 24 = false from rfl]; rintro e w2 ⟨rfl, rfl⟩
  go_wp2_with fail
  refine (impl_isRoutineShape s _ HG.out).mono ?_; rintro e w7 ⟨rfl, rfl⟩
  go_wp2_with fail
  have hG := impl_need h1 (routB s)
  refine hG.mono ?_; clear hG; rintro e w2 ⟨rfl, sv2, tv2, h2⟩
  clear cx lx
  have cx := h2.one.cell
  have lx := h2.one.lt
  go_wp2_with fail
  have hG := impl_cutEnd h2 s ⟨#[118]⟩ hsz (by omega)
  refine hG.mono ?_; clear hG; rintro e w3 ⟨rfl, sv3, tv3, h3⟩
  dsimp only at h3
  clear cx lx
  have cx := h3.one.cell
  have lx := h3.one.lt
  go_wp2_with fail
  have HQ : Hid (((st, (false || !routB s) || !endsB s ⟨#[118]⟩) : St × Bool) = (st, false || !(routB s && endsB s ⟨#[118]⟩))) := by show _ = _; cases routB s <;> cases endsB s ⟨#[118]⟩ <;> rfl
  go_end0
  refine ⟨rfl, ((st, (false || !routB s) || !endsB s ⟨#[118]⟩) : St × Bool), ?_⟩
  refine ⟨?_, ?_, ?_⟩
  · exact ⟨_, _, h3.less⟩
  · exact hI
  · rw [HR.out]; cases routB s <;> cases endsB s ⟨#[118]⟩ <;> rfl
set_option maxRecDepth 100000 in
set_option maxHeartbeats 2000000 in
theorem visit_25 {w0 wr : World} {b : Nat} {v0 v1 v2 v3 : Value} {Ai : Option Addr} {ni : Nat} {c : List InsT} {st : St} {i : Nat} {x : InsT} {sv tv : Value} {lo hi : Nat} (h : VisIn w0 wr b v0 v1 v2 v3 Ai ni c st i x sv tv lo hi) (k : x.op = 25) :
    Calls Tryz.prog 52 #[.pointer (some ⟨b, 0, none⟩), .int .i64 i] wr (VisPost w0 c.length b v0 v1 v2 v3 Ai ni (stepAt c st i x)) := by
  obtain ⟨vb, hI, hcode, hhi, hbig, hat, hsz, hok⟩ := h
  have hlt : i < c.length := (List.getElem?_eq_some_iff.1 hat).1
  obtain ⟨hgd, hle⟩ := hI.good _ (at_mem hsz) hsz
  obtain ⟨gs, caps, rfl, hgs1, hgs2, hcs1, hcs2⟩ := vb.rows.form (by omega)
  have qs := vb.rows.cell hlt
  obtain ⟨s, hs⟩ : ∃ s, st.at_ i = s := ⟨_, rfl⟩
  rw [hs] at qs hsz hgd hle
  obtain ⟨g, off, hA, hg1, hg2, -, -, q0, q1, q2, q3, q4⟩ := InsT.at_ hcode hat
  subst hA
  rw [k] at q0
  have HBK : Hid (backB c i x = false) := back_no (by rw [k]; rfl)
  unfold maxLen at hcs2
  have ca := vb.box.cell
  have la := vb.box.lt
  have HS := Lib.hid hs
  have HAT := Lib.hid hat
  have K_ := Lib.hid k
  have HG := Lib.hid hgd
  clear hs hat k hgd
  have HEM : Hid (∀ (q : St × Bool) (p : Int) (z : ByteArray), q.1 = st → Fit c.length (empties st.sh) z → empties (giveP q p z).1.sh ≤ empties st.sh) := fun q p z hq hz => by have := (giveP_inv (q := q) (p := p) (s := z) (by rw [hq]; exact hI) (by rw [hq]; exact hz)).2; rwa [hq] at this
  have HR : Hid (stepAt c st i x = if (st, false || !(routB s)).2 = true then none else some (st, false || !(routB s)).1) := by
    show _ = _
    have ha : after x (st.at_ i) = if (routB s) = true then some (⟨#[]⟩, ⟨#[]⟩) else none := by rw [HS.out]; simp only [after, K_.out]; rfl
    have := step_q (nx' := ⟨#[]⟩) (lb' := ⟨#[]⟩) HBK.out ha (fun _ => rfl) (fun _ => rfl)
    rw [giveP_nil] at this
    rw [giveP_nil] at this
    exact this
  go_enter Tryz.func52, Tryz.ntmps52
  go_upto_region 2 with (fail)
  have h1 := vb.more #[.int .i64 25, .int .i64 x.a, .int .i64 x.b, .int .i64 x.line, .string x.text] 79
  have hcd1 := hcode.alloc (Nat.le_trans hhi vb.rows.bel.size) (.cells #[.int .i64 25, .int .i64 x.a, .int .i64 x.b, .int .i64 x.line, .string x.text] 79)
  obtain ⟨bx, hbx⟩ : ∃ bx, wr.heap.size = bx := ⟨_, rfl⟩
  rw [hbx] at h1 ⊢
  generalize wr.alloc (.cells #[.int .i64 25, .int .i64 x.a, .int .i64 x.b, .int .i64 x.line, .string x.text] 79) = w1 at h1 hcd1 ⊢
  clear ca la qs q0 q1 q2 q3 q4 hcode hbx vb
  have cx := h1.one.cell
  have lx := h1.one.lt
  go_wp2_with fail
  refine (impl_isLabel 25 _).mono ?_; rw [show jumpB 25 = false from rfl]; rintro e w2 ⟨rfl, rfl⟩
  go_wp2_with fail
  refine (impl_isRoutineShape s _ HG.out).mono ?_; rintro e w7 ⟨rfl, rfl⟩
  go_wp2_with fail
  have hG := impl_need h1 (routB s)
  refine hG.mono ?_; clear hG; rintro e w2 ⟨rfl, sv2, tv2, h2⟩
  clear cx lx
  have cx := h2.one.cell
  have lx := h2.one.lt
  go_wp2_with fail
  go_end0
  refine ⟨rfl, (st, false || !(routB s)), ?_⟩
  refine ⟨?_, ?_, ?_⟩
  · exact ⟨_, _, h2.less⟩
  · exact hI
  · exact HR.out
end Go.Proofs.YtekobbeoaalibaaGreatDoor
end

section
namespace Go.Proofs.YtekobbeoaalibaaGreatDoor
open Go.RowKit
set_option linter.unusedVariables false

set_option maxRecDepth 100000 in
set_option maxHeartbeats 2000000 in
theorem visit_5 {w0 wr : World} {b : Nat} {v0 v1 v2 v3 : Value} {Ai : Option Addr} {ni : Nat} {c : List InsT} {st : St} {i : Nat} {x : InsT} {sv tv : Value} {lo hi : Nat} (h : VisIn w0 wr b v0 v1 v2 v3 Ai ni c st i x sv tv lo hi) (k : x.op = 5) :
    Calls Tryz.prog 52 #[.pointer (some ⟨b, 0, none⟩), .int .i64 i] wr (VisPost w0 c.length b v0 v1 v2 v3 Ai ni (stepAt c st i x)) := by
  obtain ⟨vb, hI, hcode, hhi, hbig, hat, hsz, hok⟩ := h
  have hlt : i < c.length := (List.getElem?_eq_some_iff.1 hat).1
  obtain ⟨hgd, hle⟩ := hI.good _ (at_mem hsz) hsz
  obtain ⟨gs, caps, rfl, hgs1, hgs2, hcs1, hcs2⟩ := vb.rows.form (by omega)
  have qs := vb.rows.cell hlt
  obtain ⟨s, hs⟩ : ∃ s, st.at_ i = s := ⟨_, rfl⟩
  rw [hs] at qs hsz hgd hle
  obtain ⟨g, off, hA, hg1, hg2, -, -, q0, q1, q2, q3, q4⟩ := InsT.at_ hcode hat
  subst hA
  rw [k] at q0
  have HBK : Hid (backB c i x = false) := back_no (by rw [k]; rfl)
  unfold maxLen at hcs2
  have ca := vb.box.cell
  have la := vb.box.lt
  have HS := Lib.hid hs
  have HAT := Lib.hid hat
  have K_ := Lib.hid k
  have HG := Lib.hid hgd
  clear hs hat k hgd
  have HEM : Hid (∀ (q : St × Bool) (p : Int) (z : ByteArray), q.1 = st → Fit c.length (empties st.sh) z → empties (giveP q p z).1.sh ≤ empties st.sh) := fun q p z hq hz => by have := (giveP_inv (q := q) (p := p) (s := z) (by rw [hq]; exact hI) (by rw [hq]; exact hz)).2; rwa [hq] at this
  have HR : Hid (stepAt c st i x = if (giveP (st, false || !(decide (x.a < (slotsN s : Int)))) ((i : Int) + 1) (s ++ ⟨#[118]⟩)).2 = true then none else some (giveP (st, false || !(decide (x.a < (slotsN s : Int)))) ((i : Int) + 1) (s ++ ⟨#[118]⟩)).1) := by
    show _ = _
    have ha : after x (st.at_ i) = if (decide (x.a < (slotsN s : Int))) = true then some ((s ++ ⟨#[118]⟩), ⟨#[]⟩) else none := by rw [HS.out]; cases hd : decide (x.a < (slotsN s : Int)) <;> simp only [decide_eq_true_eq, decide_eq_false_iff_not] at hd <;> simp [after, K_.out, hd]
    have := step_q (nx' := (s ++ ⟨#[118]⟩)) (lb' := ⟨#[]⟩) HBK.out ha (fun _ => rfl) (fun _ => rfl)
    rw [giveP_nil] at this
    exact this
  have HSL := Lib.hid (fun w => impl_slotsOf s w HG.out)
  have FN : Fit c.length (empties st.sh) (s ++ ⟨#[118]⟩) := (fit_app HG.out hle _)
  go_enter Tryz.func52, Tryz.ntmps52
  go_upto_region 2 with (fail)
  have h1 := vb.more #[.int .i64 5, .int .i64 x.a, .int .i64 x.b, .int .i64 x.line, .string x.text] 79
  have hcd1 := hcode.alloc (Nat.le_trans hhi vb.rows.bel.size) (.cells #[.int .i64 5, .int .i64 x.a, .int .i64 x.b, .int .i64 x.line, .string x.text] 79)
  obtain ⟨bx, hbx⟩ : ∃ bx, wr.heap.size = bx := ⟨_, rfl⟩
  rw [hbx] at h1 ⊢
  generalize wr.alloc (.cells #[.int .i64 5, .int .i64 x.a, .int .i64 x.b, .int .i64 x.line, .string x.text] 79) = w1 at h1 hcd1 ⊢
  clear ca la qs q0 q1 q2 q3 q4 hcode hbx vb
  have cx := h1.one.cell
  have lx := h1.one.lt
  go_wp2_with fail
  refine (impl_isLabel 5 _).mono ?_; rw [show jumpB 5 = false from rfl]; rintro e w2 ⟨rfl, rfl⟩
  go_wp2_with fail
  go_region_held3 (fun w' => ∀ j, w'.cell? ⟨bx, j, none⟩ = (#[.int .i64 5, .int .i64 x.a, .int .i64 x.b, .int .i64 x.line, .string x.text] : Array Value)[j]?) (first | exact cx | exact h2.one.cell)
    (first
      | (go_at_call 93; refine (HSL.out _).mono ?_; rintro e wS ⟨rfl, rfl⟩)
      | (go_at_call 92; have hG := impl_need (h1.same (Same.refl w1).drew) (decide (x.a < (slotsN s : Int))); refine hG.mono ?_; clear hG; rintro e w2 ⟨rfl, sv2, tv2, h2⟩))
  try dsimp only at h2
  clear cx lx
  have cx := h2.one.cell
  have lx := h2.one.lt
  go_wp2_with fail
  have hG := impl_give h2 hI (by omega) hbig ((i : Int) + 1) (s ++ ⟨#[118]⟩) (by rw [ByteArray.size_append]; omega)
  refine hG.mono ?_; clear hG; rintro e w3 ⟨rfl, sv3, tv3, h3⟩
  clear cx lx
  have cx := h3.one.cell
  have lx := h3.one.lt
  go_wp2_with fail
  go_end0
  refine ⟨rfl, (giveP (st, false || !(decide (x.a < (slotsN s : Int)))) ((i : Int) + 1) (s ++ ⟨#[118]⟩)), ?_⟩
  refine ⟨?_, ?_, ?_⟩
  · exact ⟨_, _, h3.less⟩
  · exact (giveP_inv (q := (st, false || !(decide (x.a < (slotsN s : Int))))) (p := ((i : Int) + 1)) (s := (s ++ ⟨#[118]⟩)) hI FN).1
  · exact HR.out
set_option maxRecDepth 100000 in
set_option maxHeartbeats 2000000 in
theorem visit_13m {w0 wr : World} {b : Nat} {v0 v1 v2 v3 : Value} {Ai : Option Addr} {ni : Nat} {c : List InsT} {st : St} {i : Nat} {x : InsT} {sv tv : Value} {lo hi : Nat} (h : VisIn w0 wr b v0 v1 v2 v3 Ai ni c st i x sv tv lo hi) (k : x.op = 13) (ha1 : x.a = -1) :
    Calls Tryz.prog 52 #[.pointer (some ⟨b, 0, none⟩), .int .i64 i] wr (VisPost w0 c.length b v0 v1 v2 v3 Ai ni (stepAt c st i x)) := by
  obtain ⟨vb, hI, hcode, hhi, hbig, hat, hsz, hok⟩ := h
  have hlt : i < c.length := (List.getElem?_eq_some_iff.1 hat).1
  obtain ⟨hgd, hle⟩ := hI.good _ (at_mem hsz) hsz
  obtain ⟨gs, caps, rfl, hgs1, hgs2, hcs1, hcs2⟩ := vb.rows.form (by omega)
  have qs := vb.rows.cell hlt
  obtain ⟨s, hs⟩ : ∃ s, st.at_ i = s := ⟨_, rfl⟩
  rw [hs] at qs hsz hgd hle
  obtain ⟨g, off, hA, hg1, hg2, -, -, q0, q1, q2, q3, q4⟩ := InsT.at_ hcode hat
  subst hA
  rw [k] at q0
  have HBK : Hid (backB c i x = false) := back_far (by omega)
  rw [ha1] at q1
  have HA1 := Lib.hid ha1
  unfold maxLen at hcs2
  have ca := vb.box.cell
  have la := vb.box.lt
  have HS := Lib.hid hs
  have HAT := Lib.hid hat
  have K_ := Lib.hid k
  have HG := Lib.hid hgd
  clear hs hat k hgd
  have HEM : Hid (∀ (q : St × Bool) (p : Int) (z : ByteArray), q.1 = st → Fit c.length (empties st.sh) z → empties (giveP q p z).1.sh ≤ empties st.sh) := fun q p z hq hz => by have := (giveP_inv (q := q) (p := p) (s := z) (by rw [hq]; exact hI) (by rw [hq]; exact hz)).2; rwa [hq] at this
  have HR : Hid (stepAt c st i x = if (giveP (st, false) ((i : Int) + 1) (s ++ ⟨#[109]⟩)).2 = true then none else some (giveP (st, false) ((i : Int) + 1) (s ++ ⟨#[109]⟩)).1) := by
    show _ = _
    have ha : after x (st.at_ i) = if true = true then some ((s ++ ⟨#[109]⟩), ⟨#[]⟩) else none := by rw [HS.out]; simp only [after, K_.out, HA1.out]; rfl
    have := step_q (nx' := (s ++ ⟨#[109]⟩)) (lb' := ⟨#[]⟩) HBK.out ha (fun _ => rfl) (fun _ => rfl)
    simp only [Bool.not_true, Bool.or_false] at this
    rw [giveP_nil] at this
    exact this
  have FN : Fit c.length (empties st.sh) (s ++ ⟨#[109]⟩) := (fit_app HG.out hle _)
  go_enter Tryz.func52, Tryz.ntmps52
  go_upto_region 2 with (fail)
  have h1 := vb.more #[.int .i64 13, .int .i64 (-1), .int .i64 x.b, .int .i64 x.line, .string x.text] 79
  have hcd1 := hcode.alloc (Nat.le_trans hhi vb.rows.bel.size) (.cells #[.int .i64 13, .int .i64 (-1), .int .i64 x.b, .int .i64 x.line, .string x.text] 79)
  obtain ⟨bx, hbx⟩ : ∃ bx, wr.heap.size = bx := ⟨_, rfl⟩
  rw [hbx] at h1 ⊢
  generalize wr.alloc (.cells #[.int .i64 13, .int .i64 (-1), .int .i64 x.b, .int .i64 x.line, .string x.text] 79) = w1 at h1 hcd1 ⊢
  clear ca la qs q0 q1 q2 q3 q4 hcode hbx vb
  have cx := h1.one.cell
  have lx := h1.one.lt
  go_wp2_with fail
  refine (impl_isLabel 13 _).mono ?_; rw [show jumpB 13 = true from rfl]; rintro e w2 ⟨rfl, rfl⟩
  go_wp2_with fail
  have hG := impl_give h1 hI (by omega) hbig ((i : Int) + 1) (s ++ ⟨#[109]⟩) (by rw [ByteArray.size_append]; omega)
  refine hG.mono ?_; clear hG; rintro e w2 ⟨rfl, sv2, tv2, h2⟩
  clear cx lx
  have cx := h2.one.cell
  have lx := h2.one.lt
  go_wp2_with fail
  go_end0
  refine ⟨rfl, (giveP (st, false) ((i : Int) + 1) (s ++ ⟨#[109]⟩)), ?_⟩
  refine ⟨?_, ?_, ?_⟩
  · exact ⟨_, _, h2.less⟩
  · exact (giveP_inv (q := (st, false)) (p := ((i : Int) + 1)) (s := (s ++ ⟨#[109]⟩)) hI FN).1
  · exact HR.out
set_option maxRecDepth 100000 in
set_option maxHeartbeats 2000000 in
theorem visit_13f {w0 wr : World} {b : Nat} {v0 v1 v2 v3 : Value} {Ai : Option Addr} {ni : Nat} {c : List InsT} {st : St} {i : Nat} {x : InsT} {sv tv : Value} {lo hi : Nat} (h : VisIn w0 wr b v0 v1 v2 v3 Ai ni c st i x sv tv lo hi) (k : x.op = 13) (hf : (i : Int) < x.a) :
    Calls Tryz.prog 52 #[.pointer (some ⟨b, 0, none⟩), .int .i64 i] wr (VisPost w0 c.length b v0 v1 v2 v3 Ai ni (stepAt c st i x)) := by
  obtain ⟨vb, hI, hcode, hhi, hbig, hat, hsz, hok⟩ := h
  have hlt : i < c.length := (List.getElem?_eq_some_iff.1 hat).1
  obtain ⟨hgd, hle⟩ := hI.good _ (at_mem hsz) hsz
  obtain ⟨gs, caps, rfl, hgs1, hgs2, hcs1, hcs2⟩ := vb.rows.form (by omega)
  have qs := vb.rows.cell hlt
  obtain ⟨s, hs⟩ : ∃ s, st.at_ i = s := ⟨_, rfl⟩
  rw [hs] at qs hsz hgd hle
  obtain ⟨g, off, hA, hg1, hg2, -, -, q0, q1, q2, q3, q4⟩ := InsT.at_ hcode hat
  subst hA
  rw [k] at q0
  have hla : x.a < c.length := by have := hok.lab (by rw [k]; decide); omega
  have hn : 0 ≤ x.a := by omega
  obtain ⟨an, han⟩ : ∃ an : Nat, x.a = an := ⟨x.a.toNat, by omega⟩
  have HAN := Lib.hid han
  have HBK : Hid (backB c i x = false) := back_far (by omega)
  have hai : an < c.length := by omega
  have hfi : i < an := by omega
  rw [han] at q1
  clear hla hn hf han
  unfold maxLen at hcs2
  have ca := vb.box.cell
  have la := vb.box.lt
  have HS := Lib.hid hs
  have HAT := Lib.hid hat
  have K_ := Lib.hid k
  have HG := Lib.hid hgd
  clear hs hat k hgd
  have HEM : Hid (∀ (q : St × Bool) (p : Int) (z : ByteArray), q.1 = st → Fit c.length (empties st.sh) z → empties (giveP q p z).1.sh ≤ empties st.sh) := fun q p z hq hz => by have := (giveP_inv (q := q) (p := p) (s := z) (by rw [hq]; exact hI) (by rw [hq]; exact hz)).2; rwa [hq] at this
  have HR : Hid (stepAt c st i x = if (giveP (giveP (st, false) ((i : Int) + 1) (s ++ ⟨#[109]⟩)) x.a s).2 = true then none else some (giveP (giveP (st, false) ((i : Int) + 1) (s ++ ⟨#[109]⟩)) x.a s).1) := by
    show _ = _
    have ha : after x (st.at_ i) = if true = true then some ((s ++ ⟨#[109]⟩), s) else none := by rw [HS.out]; simp only [after, K_.out]; rw [if_neg (show ¬ x.a = -1 by have := HAN.out; omega)]; rfl
    have := step_q (nx' := (s ++ ⟨#[109]⟩)) (lb' := s) HBK.out ha (fun _ => rfl) (fun _ => rfl)
    simp only [Bool.not_true, Bool.or_false] at this
    exact this
  rw [HAN.out] at HR
  have FN : Fit c.length (empties st.sh) (s ++ ⟨#[109]⟩) := (fit_app HG.out hle _)
  have FL : Fit c.length (empties st.sh) s := (fit_self HG.out hle)
  have HI2 : Inv c.length (giveP (giveP (st, false) ((i : Int) + 1) (s ++ ⟨#[109]⟩)) (an : Int) s).1 := (giveP_inv (giveP_inv (q := (st, false)) hI FN).1 (Fit.less FL (HEM.out (st, false) _ _ rfl FN))).1
  go_enter Tryz.func52, Tryz.ntmps52
  go_upto_region 2 with (fail)
  have h1 := vb.more #[.int .i64 13, .int .i64 (an : Int), .int .i64 x.b, .int .i64 x.line, .string x.text] 79
  have hcd1 := hcode.alloc (Nat.le_trans hhi vb.rows.bel.size) (.cells #[.int .i64 13, .int .i64 (an : Int), .int .i64 x.b, .int .i64 x.line, .string x.text] 79)
  obtain ⟨bx, hbx⟩ : ∃ bx, wr.heap.size = bx := ⟨_, rfl⟩
  rw [hbx] at h1 ⊢
  generalize wr.alloc (.cells #[.int .i64 13, .int .i64 (an : Int), .int .i64 x.b, .int .i64 x.line, .string x.text] 79) = w1 at h1 hcd1 ⊢
  clear ca la qs q0 q1 q2 q3 q4 hcode hbx vb
  have cx := h1.one.cell
  have lx := h1.one.lt
  go_wp2_with fail
  refine (impl_isLabel 13 _).mono ?_; rw [show jumpB 13 = true from rfl]; rintro e w2 ⟨rfl, rfl⟩
  go_wp2_with fail
  have hG := impl_give h1 hI (by omega) hbig ((i : Int) + 1) (s ++ ⟨#[109]⟩) (by rw [ByteArray.size_append]; omega)
  refine hG.mono ?_; clear hG; rintro e w2 ⟨rfl, sv2, tv2, h2⟩
  clear cx lx
  have cx := h2.one.cell
  have lx := h2.one.lt
  go_wp2_with fail
  have hG := impl_give h2 (giveP_inv (q := (st, false)) (p := ((i : Int) + 1)) (s := (s ++ ⟨#[109]⟩)) hI FN).1 (by omega) hbig (an : Int) s hsz
  refine hG.mono ?_; clear hG; rintro e w3 ⟨rfl, sv3, tv3, h3⟩
  clear cx lx
  have cx := h3.one.cell
  have lx := h3.one.lt
  go_wp2_with fail
  go_end0
  refine ⟨rfl, (giveP (giveP (st, false) ((i : Int) + 1) (s ++ ⟨#[109]⟩)) (an : Int) s), ?_⟩
  refine ⟨?_, ?_, ?_⟩
  · exact ⟨_, _, h3.less⟩
  · exact HI2
  · exact HR.out
set_option maxRecDepth 100000 in
set_option maxHeartbeats 2000000 in
theorem visit_13b {w0 wr : World} {b : Nat} {v0 v1 v2 v3 : Value} {Ai : Option Addr} {ni : Nat} {c : List InsT} {st : St} {i : Nat} {x : InsT} {sv tv : Value} {lo hi : Nat} (h : VisIn w0 wr b v0 v1 v2 v3 Ai ni c st i x sv tv lo hi) (k : x.op = 13) (hn : 0 ≤ x.a) (hf : x.a ≤ i) :
    Calls Tryz.prog 52 #[.pointer (some ⟨b, 0, none⟩), .int .i64 i] wr (VisPost w0 c.length b v0 v1 v2 v3 Ai ni (stepAt c st i x)) := by
  obtain ⟨vb, hI, hcode, hhi, hbig, hat, hsz, hok⟩ := h
  have hlt : i < c.length := (List.getElem?_eq_some_iff.1 hat).1
  obtain ⟨hgd, hle⟩ := hI.good _ (at_mem hsz) hsz
  obtain ⟨gs, caps, rfl, hgs1, hgs2, hcs1, hcs2⟩ := vb.rows.form (by omega)
  have qs := vb.rows.cell hlt
  obtain ⟨s, hs⟩ : ∃ s, st.at_ i = s := ⟨_, rfl⟩
  rw [hs] at qs hsz hgd hle
  obtain ⟨g, off, hA, hg1, hg2, -, -, q0, q1, q2, q3, q4⟩ := InsT.at_ hcode hat
  subst hA
  rw [k] at q0
  have hla : x.a < c.length := by have := hok.lab (by rw [k]; decide); omega
  obtain ⟨an, han⟩ : ∃ an : Nat, x.a = an := ⟨x.a.toNat, by omega⟩
  have HAN := Lib.hid han
  obtain ⟨y, hy⟩ : ∃ y, c[an]? = some y := ⟨_, List.getElem?_eq_getElem (by omega)⟩
  have HBK : Hid (backB c i x = (false || !(y.op == 18))) := (back_at (by rw [k]; decide) ⟨hn, hf⟩ (by rw [han]; exact hy)).trans (Bool.false_or _).symm
  obtain ⟨g_, off_, hA_, -, -, -, -, y0, -⟩ := InsT.at_ hcode hy
  injection hA_ with hA_; injection hA_ with hA1 hA2; subst hA1 hA2
  have hai : an < c.length := by omega
  have hfi : an ≤ i := by omega
  rw [han] at q1
  clear hla hn hf han
  unfold maxLen at hcs2
  have ca := vb.box.cell
  have la := vb.box.lt
  have HS := Lib.hid hs
  have HAT := Lib.hid hat
  have K_ := Lib.hid k
  have HG := Lib.hid hgd
  clear hs hat k hgd
  have HEM : Hid (∀ (q : St × Bool) (p : Int) (z : ByteArray), q.1 = st → Fit c.length (empties st.sh) z → empties (giveP q p z).1.sh ≤ empties st.sh) := fun q p z hq hz => by have := (giveP_inv (q := q) (p := p) (s := z) (by rw [hq]; exact hI) (by rw [hq]; exact hz)).2; rwa [hq] at this
  have HR : Hid (stepAt c st i x = if (giveP (giveP (st, (false || !(y.op == 18))) ((i : Int) + 1) (s ++ ⟨#[109]⟩)) x.a s).2 = true then none else some (giveP (giveP (st, (false || !(y.op == 18))) ((i : Int) + 1) (s ++ ⟨#[109]⟩)) x.a s).1) := by
    show _ = _
    have ha : after x (st.at_ i) = if true = true then some ((s ++ ⟨#[109]⟩), s) else none := by rw [HS.out]; simp only [after, K_.out]; rw [if_neg (show ¬ x.a = -1 by have := HAN.out; omega)]; rfl
    have := step_q (nx' := (s ++ ⟨#[109]⟩)) (lb' := s) HBK.out ha (fun _ => rfl) (fun _ => rfl)
    simp only [Bool.not_true, Bool.or_false] at this
    exact this
  rw [HAN.out] at HR
  have FN : Fit c.length (empties st.sh) (s ++ ⟨#[109]⟩) := (fit_app HG.out hle _)
  have FL : Fit c.length (empties st.sh) s := (fit_self HG.out hle)
  have HI2 : Inv c.length (giveP (giveP (st, (false || !(y.op == 18))) ((i : Int) + 1) (s ++ ⟨#[109]⟩)) (an : Int) s).1 := (giveP_inv (giveP_inv (q := (st, (false || !(y.op == 18)))) hI FN).1 (Fit.less FL (HEM.out (st, (false || !(y.op == 18))) _ _ rfl FN))).1
  go_enter Tryz.func52, Tryz.ntmps52
  go_upto_region 2 with (fail)
  have h1 := vb.more #[.int .i64 13, .int .i64 (an : Int), .int .i64 x.b, .int .i64 x.line, .string x.text] 79
  have hcd1 := hcode.alloc (Nat.le_trans hhi vb.rows.bel.size) (.cells #[.int .i64 13, .int .i64 (an : Int), .int .i64 x.b, .int .i64 x.line, .string x.text] 79)
  obtain ⟨bx, hbx⟩ : ∃ bx, wr.heap.size = bx := ⟨_, rfl⟩
  rw [hbx] at h1 ⊢
  generalize wr.alloc (.cells #[.int .i64 13, .int .i64 (an : Int), .int .i64 x.b, .int .i64 x.line, .string x.text] 79) = w1 at h1 hcd1 ⊢
  clear y0
  obtain ⟨g_, off_, hA_, -, -, -, -, y0, -⟩ := InsT.at_ hcd1 hy
  injection hA_ with hA_; injection hA_ with hA1 hA2; subst hA1 hA2
  have HY := Lib.hid hy
  clear hy
  clear ca la qs q0 q1 q2 q3 q4 hcode hbx vb
  have cx := h1.one.cell
  have lx := h1.one.lt
  have ca := h1.box.cell
  have la := h1.box.lt
  go_wp2_with fail
  refine (impl_isLabel 13 _).mono ?_; rw [show jumpB 13 = true from rfl]; rintro e w2 ⟨rfl, rfl⟩
  go_wp2_with fail
  go_still_tail 12, (by kernel_rfl)
  change wpList _ _ _ _ _ w1.drew
  have h1d := h1.same (Same.refl w1).drew
  generalize w1.drew = w1d at h1d ⊢
  go_wp2_with fail
  have hG := impl_need h1d (y.op == 18)
  refine hG.mono ?_; clear hG; rintro e w2 ⟨rfl, sv2, tv2, h2⟩
  dsimp only at h2
  clear cx lx
  have cx := h2.one.cell
  have lx := h2.one.lt
  go_wp2_with fail
  have hG := impl_give h2 hI (by omega) hbig ((i : Int) + 1) (s ++ ⟨#[109]⟩) (by rw [ByteArray.size_append]; omega)
  refine hG.mono ?_; clear hG; rintro e w3 ⟨rfl, sv3, tv3, h3⟩
  clear cx lx
  have cx := h3.one.cell
  have lx := h3.one.lt
  go_wp2_with fail
  have hG := impl_give h3 (giveP_inv (q := (st, false || !(y.op == 18))) (p := ((i : Int) + 1)) (s := (s ++ ⟨#[109]⟩)) hI FN).1 (by omega) hbig (an : Int) s hsz
  refine hG.mono ?_; clear hG; rintro e w4 ⟨rfl, sv4, tv4, h4⟩
  clear cx lx
  have cx := h4.one.cell
  have lx := h4.one.lt
  go_wp2_with fail
  go_end0
  refine ⟨rfl, (giveP (giveP (st, false || !(y.op == 18)) ((i : Int) + 1) (s ++ ⟨#[109]⟩)) (an : Int) s), ?_⟩
  refine ⟨?_, ?_, ?_⟩
  · exact ⟨_, _, h4.less⟩
  · exact HI2
  · exact HR.out
set_option maxRecDepth 100000 in
set_option maxHeartbeats 2000000 in
theorem visit_15f {w0 wr : World} {b : Nat} {v0 v1 v2 v3 : Value} {Ai : Option Addr} {ni : Nat} {c : List InsT} {st : St} {i : Nat} {x : InsT} {sv tv : Value} {lo hi : Nat} (h : VisIn w0 wr b v0 v1 v2 v3 Ai ni c st i x sv tv lo hi) (k : x.op = 15) (hf : (i : Int) < x.a) :
    Calls Tryz.prog 52 #[.pointer (some ⟨b, 0, none⟩), .int .i64 i] wr (VisPost w0 c.length b v0 v1 v2 v3 Ai ni (stepAt c st i x)) := by
  obtain ⟨vb, hI, hcode, hhi, hbig, hat, hsz, hok⟩ := h
  have hlt : i < c.length := (List.getElem?_eq_some_iff.1 hat).1
  obtain ⟨hgd, hle⟩ := hI.good _ (at_mem hsz) hsz
  obtain ⟨gs, caps, rfl, hgs1, hgs2, hcs1, hcs2⟩ := vb.rows.form (by omega)
  have qs := vb.rows.cell hlt
  obtain ⟨s, hs⟩ : ∃ s, st.at_ i = s := ⟨_, rfl⟩
  rw [hs] at qs hsz hgd hle
  obtain ⟨g, off, hA, hg1, hg2, -, -, q0, q1, q2, q3, q4⟩ := InsT.at_ hcode hat
  subst hA
  rw [k] at q0
  have hla : x.a < c.length := by have := hok.lab (by rw [k]; decide); omega
  have hn : 0 ≤ x.a := by omega
  obtain ⟨an, han⟩ : ∃ an : Nat, x.a = an := ⟨x.a.toNat, by omega⟩
  have HAN := Lib.hid han
  have HBK : Hid (backB c i x = false) := back_far (by omega)
  have hai : an < c.length := by omega
  have hfi : i < an := by omega
  rw [han] at q1
  clear hla hn hf han
  unfold maxLen at hcs2
  have ca := vb.box.cell
  have la := vb.box.lt
  have HS := Lib.hid hs
  have HAT := Lib.hid hat
  have K_ := Lib.hid k
  have HG := Lib.hid hgd
  clear hs hat k hgd
  have HEM : Hid (∀ (q : St × Bool) (p : Int) (z : ByteArray), q.1 = st → Fit c.length (empties st.sh) z → empties (giveP q p z).1.sh ≤ empties st.sh) := fun q p z hq hz => by have := (giveP_inv (q := q) (p := p) (s := z) (by rw [hq]; exact hI) (by rw [hq]; exact hz)).2; rwa [hq] at this
  have HR : Hid (stepAt c st i x = if (giveP (st, false) x.a s).2 = true then none else some (giveP (st, false) x.a s).1) := by
    show _ = _
    have ha : after x (st.at_ i) = if true = true then some (⟨#[]⟩, s) else none := by rw [HS.out]; simp only [after, K_.out]; rfl
    have := step_q (nx' := ⟨#[]⟩) (lb' := s) HBK.out ha (fun _ => rfl) (fun _ => rfl)
    simp only [Bool.not_true, Bool.or_false] at this
    rw [giveP_nil] at this
    exact this
  rw [HAN.out] at HR
  have FL : Fit c.length (empties st.sh) s := (fit_self HG.out hle)
  go_enter Tryz.func52, Tryz.ntmps52
  go_upto_region 2 with (fail)
  have h1 := vb.more #[.int .i64 15, .int .i64 (an : Int), .int .i64 x.b, .int .i64 x.line, .string x.text] 79
  have hcd1 := hcode.alloc (Nat.le_trans hhi vb.rows.bel.size) (.cells #[.int .i64 15, .int .i64 (an : Int), .int .i64 x.b, .int .i64 x.line, .string x.text] 79)
  obtain ⟨bx, hbx⟩ : ∃ bx, wr.heap.size = bx := ⟨_, rfl⟩
  rw [hbx] at h1 ⊢
  generalize wr.alloc (.cells #[.int .i64 15, .int .i64 (an : Int), .int .i64 x.b, .int .i64 x.line, .string x.text] 79) = w1 at h1 hcd1 ⊢
  clear ca la qs q0 q1 q2 q3 q4 hcode hbx vb
  have cx := h1.one.cell
  have lx := h1.one.lt
  go_wp2_with fail
  refine (impl_isLabel 15 _).mono ?_; rw [show jumpB 15 = true from rfl]; rintro e w2 ⟨rfl, rfl⟩
  go_wp2_with fail
  have hG := impl_give h1 hI (by omega) hbig (an : Int) s hsz
  refine hG.mono ?_; clear hG; rintro e w2 ⟨rfl, sv2, tv2, h2⟩
  clear cx lx
  have cx := h2.one.cell
  have lx := h2.one.lt
  go_wp2_with fail
  go_end0
  refine ⟨rfl, (giveP (st, false) (an : Int) s), ?_⟩
  refine ⟨?_, ?_, ?_⟩
  · exact ⟨_, _, h2.less⟩
  · exact (giveP_inv (q := (st, false)) (p := (an : Int)) (s := s) hI FL).1
  · exact HR.out
set_option maxRecDepth 100000 in
set_option maxHeartbeats 2000000 in
theorem visit_15b {w0 wr : World} {b : Nat} {v0 v1 v2 v3 : Value} {Ai : Option Addr} {ni : Nat} {c : List InsT} {st : St} {i : Nat} {x : InsT} {sv tv : Value} {lo hi : Nat} (h : VisIn w0 wr b v0 v1 v2 v3 Ai ni c st i x sv tv lo hi) (k : x.op = 15) (hn : 0 ≤ x.a) (hf : x.a ≤ i) :
    Calls Tryz.prog 52 #[.pointer (some ⟨b, 0, none⟩), .int .i64 i] wr (VisPost w0 c.length b v0 v1 v2 v3 Ai ni (stepAt c st i x)) := by
  obtain ⟨vb, hI, hcode, hhi, hbig, hat, hsz, hok⟩ := h
  have hlt : i < c.length := (List.getElem?_eq_some_iff.1 hat).1
  obtain ⟨hgd, hle⟩ := hI.good _ (at_mem hsz) hsz
  obtain ⟨gs, caps, rfl, hgs1, hgs2, hcs1, hcs2⟩ := vb.rows.form (by omega)
  have qs := vb.rows.cell hlt
  obtain ⟨s, hs⟩ : ∃ s, st.at_ i = s := ⟨_, rfl⟩
  rw [hs] at qs hsz hgd hle
  obtain ⟨g, off, hA, hg1, hg2, -, -, q0, q1, q2, q3, q4⟩ := InsT.at_ hcode hat
  subst hA
  rw [k] at q0
  have hla : x.a < c.length := by have := hok.lab (by rw [k]; decide); omega
  obtain ⟨an, han⟩ : ∃ an : Nat, x.a = an := ⟨x.a.toNat, by omega⟩
  have HAN := Lib.hid han
  obtain ⟨y, hy⟩ : ∃ y, c[an]? = some y := ⟨_, List.getElem?_eq_getElem (by omega)⟩
  have HBK : Hid (backB c i x = (false || !(y.op == 18))) := (back_at (by rw [k]; decide) ⟨hn, hf⟩ (by rw [han]; exact hy)).trans (Bool.false_or _).symm
  obtain ⟨g_, off_, hA_, -, -, -, -, y0, -⟩ := InsT.at_ hcode hy
  injection hA_ with hA_; injection hA_ with hA1 hA2; subst hA1 hA2
  have hai : an < c.length := by omega
  have hfi : an ≤ i := by omega
  rw [han] at q1
  clear hla hn hf han
  unfold maxLen at hcs2
  have ca := vb.box.cell
  have la := vb.box.lt
  have HS := Lib.hid hs
  have HAT := Lib.hid hat
  have K_ := Lib.hid k
  have HG := Lib.hid hgd
  clear hs hat k hgd
  have HEM : Hid (∀ (q : St × Bool) (p : Int) (z : ByteArray), q.1 = st → Fit c.length (empties st.sh) z → empties (giveP q p z).1.sh ≤ empties st.sh) := fun q p z hq hz => by have := (giveP_inv (q := q) (p := p) (s := z) (by rw [hq]; exact hI) (by rw [hq]; exact hz)).2; rwa [hq] at this
  have HR : Hid (stepAt c st i x = if (giveP (st, (false || !(y.op == 18))) x.a s).2 = true then none else some (giveP (st, (false || !(y.op == 18))) x.a s).1) := by
    show _ = _
    have ha : after x (st.at_ i) = if true = true then some (⟨#[]⟩, s) else none := by rw [HS.out]; simp only [after, K_.out]; rfl
    have := step_q (nx' := ⟨#[]⟩) (lb' := s) HBK.out ha (fun _ => rfl) (fun _ => rfl)
    simp only [Bool.not_true, Bool.or_false] at this
    rw [giveP_nil] at this
    exact this
  rw [HAN.out] at HR
  have FL : Fit c.length (empties st.sh) s := (fit_self HG.out hle)
  go_enter Tryz.func52, Tryz.ntmps52
  go_upto_region 2 with (fail)
  have h1 := vb.more #[.int .i64 15, .int .i64 (an : Int), .int .i64 x.b, .int .i64 x.line, .string x.text] 79
  have hcd1 := hcode.alloc (Nat.le_trans hhi vb.rows.bel.size) (.cells #[.int .i64 15, .int .i64 (an : Int), .int .i64 x.b, .int .i64 x.line, .string x.text] 79)
  obtain ⟨bx, hbx⟩ : ∃ bx, wr.heap.size = bx := ⟨_, rfl⟩
  rw [hbx] at h1 ⊢
  generalize wr.alloc (.cells #[.int .i64 15, .int .i64 (an : Int), .int .i64 x.b, .int .i64 x.line, .string x.text] 79) = w1 at h1 hcd1 ⊢
  clear y0
  obtain ⟨g_, off_, hA_, -, -, -, -, y0, -⟩ := InsT.at_ hcd1 hy
  injection hA_ with hA_; injection hA_ with hA1 hA2; subst hA1 hA2
  have HY := Lib.hid hy
  clear hy
  clear ca la qs q0 q1 q2 q3 q4 hcode hbx vb
  have cx := h1.one.cell
  have lx := h1.one.lt
  have ca := h1.box.cell
  have la := h1.box.lt
  go_wp2_with fail
  refine (impl_isLabel 15 _).mono ?_; rw [show jumpB 15 = true from rfl]; rintro e w2 ⟨rfl, rfl⟩
  go_wp2_with fail
  go_still_tail 12, (by kernel_rfl)
  change wpList _ _ _ _ _ w1.drew
  have h1d := h1.same (Same.refl w1).drew
  generalize w1.drew = w1d at h1d ⊢
  go_wp2_with fail
  have hG := impl_need h1d (y.op == 18)
  refine hG.mono ?_; clear hG; rintro e w2 ⟨rfl, sv2, tv2, h2⟩
  dsimp only at h2
  clear cx lx
  have cx := h2.one.cell
  have lx := h2.one.lt
  go_wp2_with fail
  have hG := impl_give h2 hI (by omega) hbig (an : Int) s hsz
  refine hG.mono ?_; clear hG; rintro e w3 ⟨rfl, sv3, tv3, h3⟩
  clear cx lx
  have cx := h3.one.cell
  have lx := h3.one.lt
  go_wp2_with fail
  go_end0
  refine ⟨rfl, (giveP (st, false || !(y.op == 18)) (an : Int) s), ?_⟩
  refine ⟨?_, ?_, ?_⟩
  · exact ⟨_, _, h3.less⟩
  · exact (giveP_inv (q := (st, false || !(y.op == 18))) (p := (an : Int)) (s := s) hI FL).1
  · exact HR.out
set_option maxRecDepth 100000 in
set_option maxHeartbeats 2000000 in
theorem visit_17f {w0 wr : World} {b : Nat} {v0 v1 v2 v3 : Value} {Ai : Option Addr} {ni : Nat} {c : List InsT} {st : St} {i : Nat} {x : InsT} {sv tv : Value} {lo hi : Nat} (h : VisIn w0 wr b v0 v1 v2 v3 Ai ni c st i x sv tv lo hi) (k : x.op = 17) (hf : (i : Int) < x.a) :
    Calls Tryz.prog 52 #[.pointer (some ⟨b, 0, none⟩), .int .i64 i] wr (VisPost w0 c.length b v0 v1 v2 v3 Ai ni (stepAt c st i x)) := by
  obtain ⟨vb, hI, hcode, hhi, hbig, hat, hsz, hok⟩ := h
  have hlt : i < c.length := (List.getElem?_eq_some_iff.1 hat).1
  obtain ⟨hgd, hle⟩ := hI.good _ (at_mem hsz) hsz
  obtain ⟨gs, caps, rfl, hgs1, hgs2, hcs1, hcs2⟩ := vb.rows.form (by omega)
  have qs := vb.rows.cell hlt
  obtain ⟨s, hs⟩ : ∃ s, st.at_ i = s := ⟨_, rfl⟩
  rw [hs] at qs hsz hgd hle
  obtain ⟨g, off, hA, hg1, hg2, -, -, q0, q1, q2, q3, q4⟩ := InsT.at_ hcode hat
  subst hA
  rw [k] at q0
  have hla : x.a < c.length := by have := hok.lab (by rw [k]; decide); omega
  have hn : 0 ≤ x.a := by omega
  obtain ⟨an, han⟩ : ∃ an : Nat, x.a = an := ⟨x.a.toNat, by omega⟩
  have HAN := Lib.hid han
  have HBK : Hid (backB c i x = false) := back_far (by omega)
  have hai : an < c.length := by omega
  have hfi : i < an := by omega
  rw [han] at q1
  clear hla hn hf han
  unfold maxLen at hcs2
  have ca := vb.box.cell
  have la := vb.box.lt
  have HS := Lib.hid hs
  have HAT := Lib.hid hat
  have K_ := Lib.hid k
  have HG := Lib.hid hgd
  clear hs hat k hgd
  have HEM : Hid (∀ (q : St × Bool) (p : Int) (z : ByteArray), q.1 = st → Fit c.length (empties st.sh) z → empties (giveP q p z).1.sh ≤ empties st.sh) := fun q p z hq hz => by have := (giveP_inv (q := q) (p := p) (s := z) (by rw [hq]; exact hI) (by rw [hq]; exact hz)).2; rwa [hq] at this
  have HR : Hid (stepAt c st i x = if (giveP (giveP (st, false) ((i : Int) + 1) s) x.a s).2 = true then none else some (giveP (giveP (st, false) ((i : Int) + 1) s) x.a s).1) := by
    show _ = _
    have ha : after x (st.at_ i) = if true = true then some (s, s) else none := by rw [HS.out]; simp only [after, K_.out]; rfl
    have := step_q (nx' := s) (lb' := s) HBK.out ha (fun _ => rfl) (fun _ => rfl)
    simp only [Bool.not_true, Bool.or_false] at this
    exact this
  rw [HAN.out] at HR
  have FN : Fit c.length (empties st.sh) s := (fit_self HG.out hle)
  have FL : Fit c.length (empties st.sh) s := (fit_self HG.out hle)
  have HI2 : Inv c.length (giveP (giveP (st, false) ((i : Int) + 1) s) (an : Int) s).1 := (giveP_inv (giveP_inv (q := (st, false)) hI FN).1 (Fit.less FL (HEM.out (st, false) _ _ rfl FN))).1
  go_enter Tryz.func52, Tryz.ntmps52
  go_upto_region 2 with (fail)
  have h1 := vb.more #[.int .i64 17, .int .i64 (an : Int), .int .i64 x.b, .int .i64 x.line, .string x.text] 79
  have hcd1 := hcode.alloc (Nat.le_trans hhi vb.rows.bel.size) (.cells #[.int .i64 17, .int .i64 (an : Int), .int .i64 x.b, .int .i64 x.line, .string x.text] 79)
  obtain ⟨bx, hbx⟩ : ∃ bx, wr.heap.size = bx := ⟨_, rfl⟩
  rw [hbx] at h1 ⊢
  generalize wr.alloc (.cells #[.int .i64 17, .int .i64 (an : Int), .int .i64 x.b, .int .i64 x.line, .string x.text] 79) = w1 at h1 hcd1 ⊢
  clear ca la qs q0 q1 q2 q3 q4 hcode hbx vb
  have cx := h1.one.cell
  have lx := h1.one.lt
  go_wp2_with fail
  refine (impl_isLabel 17 _).mono ?_; rw [show jumpB 17 = true from rfl]; rintro e w2 ⟨rfl, rfl⟩
  go_wp2_with fail
  have hG := impl_give h1 hI (by omega) hbig ((i : Int) + 1) s hsz
  refine hG.mono ?_; clear hG; rintro e w2 ⟨rfl, sv2, tv2, h2⟩
  clear cx lx
  have cx := h2.one.cell
  have lx := h2.one.lt
  go_wp2_with fail
  have hG := impl_give h2 (giveP_inv (q := (st, false)) (p := ((i : Int) + 1)) (s := s) hI FN).1 (by omega) hbig (an : Int) s hsz
  refine hG.mono ?_; clear hG; rintro e w3 ⟨rfl, sv3, tv3, h3⟩
  clear cx lx
  have cx := h3.one.cell
  have lx := h3.one.lt
  go_wp2_with fail
  go_end0
  refine ⟨rfl, (giveP (giveP (st, false) ((i : Int) + 1) s) (an : Int) s), ?_⟩
  refine ⟨?_, ?_, ?_⟩
  · exact ⟨_, _, h3.less⟩
  · exact HI2
  · exact HR.out
set_option maxRecDepth 100000 in
set_option maxHeartbeats 2000000 in
theorem visit_17b {w0 wr : World} {b : Nat} {v0 v1 v2 v3 : Value} {Ai : Option Addr} {ni : Nat} {c : List InsT} {st : St} {i : Nat} {x : InsT} {sv tv : Value} {lo hi : Nat} (h : VisIn w0 wr b v0 v1 v2 v3 Ai ni c st i x sv tv lo hi) (k : x.op = 17) (hn : 0 ≤ x.a) (hf : x.a ≤ i) :
    Calls Tryz.prog 52 #[.pointer (some ⟨b, 0, none⟩), .int .i64 i] wr (VisPost w0 c.length b v0 v1 v2 v3 Ai ni (stepAt c st i x)) := by
  obtain ⟨vb, hI, hcode, hhi, hbig, hat, hsz, hok⟩ := h
  have hlt : i < c.length := (List.getElem?_eq_some_iff.1 hat).1
  obtain ⟨hgd, hle⟩ := hI.good _ (at_mem hsz) hsz
  obtain ⟨gs, caps, rfl, hgs1, hgs2, hcs1, hcs2⟩ := vb.rows.form (by omega)
  have qs := vb.rows.cell hlt
  obtain ⟨s, hs⟩ : ∃ s, st.at_ i = s := ⟨_, rfl⟩
  rw [hs] at qs hsz hgd hle
  obtain ⟨g, off, hA, hg1, hg2, -, -, q0, q1, q2, q3, q4⟩ := InsT.at_ hcode hat
  subst hA
  rw [k] at q0
  have hla : x.a < c.length := by have := hok.lab (by rw [k]; decide); omega
  obtain ⟨an, han⟩ : ∃ an : Nat, x.a = an := ⟨x.a.toNat, by omega⟩
  have HAN := Lib.hid han
  obtain ⟨y, hy⟩ : ∃ y, c[an]? = some y := ⟨_, List.getElem?_eq_getElem (by omega)⟩
  have HBK : Hid (backB c i x = (false || !(y.op == 18))) := (back_at (by rw [k]; decide) ⟨hn, hf⟩ (by rw [han]; exact hy)).trans (Bool.false_or _).symm
  obtain ⟨g_, off_, hA_, -, -, -, -, y0, -⟩ := InsT.at_ hcode hy
  injection hA_ with hA_; injection hA_ with hA1 hA2; subst hA1 hA2
  have hai : an < c.length := by omega
  have hfi : an ≤ i := by omega
  rw [han] at q1
  clear hla hn hf han
  unfold maxLen at hcs2
  have ca := vb.box.cell
  have la := vb.box.lt
  have HS := Lib.hid hs
  have HAT := Lib.hid hat
  have K_ := Lib.hid k
  have HG := Lib.hid hgd
  clear hs hat k hgd
  have HEM : Hid (∀ (q : St × Bool) (p : Int) (z : ByteArray), q.1 = st → Fit c.length (empties st.sh) z → empties (giveP q p z).1.sh ≤ empties st.sh) := fun q p z hq hz => by have := (giveP_inv (q := q) (p := p) (s := z) (by rw [hq]; exact hI) (by rw [hq]; exact hz)).2; rwa [hq] at this
  have HR : Hid (stepAt c st i x = if (giveP (giveP (st, (false || !(y.op == 18))) ((i : Int) + 1) s) x.a s).2 = true then none else some (giveP (giveP (st, (false || !(y.op == 18))) ((i : Int) + 1) s) x.a s).1) := by
    show _ = _
    have ha : after x (st.at_ i) = if true = true then some (s, s) else none := by rw [HS.out]; simp only [after, K_.out]; rfl
    have := step_q (nx' := s) (lb' := s) HBK.out ha (fun _ => rfl) (fun _ => rfl)
    simp only [Bool.not_true, Bool.or_false] at this
    exact this
  rw [HAN.out] at HR
  have FN : Fit c.length (empties st.sh) s := (fit_self HG.out hle)
  have FL : Fit c.length (empties st.sh) s := (fit_self HG.out hle)
  have HI2 : Inv c.length (giveP (giveP (st, (false || !(y.op == 18))) ((i : Int) + 1) s) (an : Int) s).1 := (giveP_inv (giveP_inv (q := (st, (false || !(y.op == 18)))) hI FN).1 (Fit.less FL (HEM.out (st, (false || !(y.op == 18))) _ _ rfl FN))).1
  go_enter Tryz.func52, Tryz.ntmps52
  go_upto_region 2 with (fail)
  have h1 := vb.more #[.int .i64 17, .int .i64 (an : Int), .int .i64 x.b, .int .i64 x.line, .string x.text] 79
  have hcd1 := hcode.alloc (Nat.le_trans hhi vb.rows.bel.size) (.cells #[.int .i64 17, .int .i64 (an : Int), .int .i64 x.b, .int .i64 x.line, .string x.text] 79)
  obtain ⟨bx, hbx⟩ : ∃ bx, wr.heap.size = bx := ⟨_, rfl⟩
  rw [hbx] at h1 ⊢
  generalize wr.alloc (.cells #[.int .i64 17, .int .i64 (an : Int), .int .i64 x.b, .int .i64 x.line, .string x.text] 79) = w1 at h1 hcd1 ⊢
  clear y0
  obtain ⟨g_, off_, hA_, -, -, -, -, y0, -⟩ := InsT.at_ hcd1 hy
  injection hA_ with hA_; injection hA_ with hA1 hA2; subst hA1 hA2
  have HY := Lib.hid hy
  clear hy
  clear ca la qs q0 q1 q2 q3 q4 hcode hbx vb
  have cx := h1.one.cell
  have lx := h1.one.lt
  have ca := h1.box.cell
  have la := h1.box.lt
  go_wp2_with fail
  refine (impl_isLabel 17 _).mono ?_; rw [show jumpB 17 = true from rfl]; rintro e w2 ⟨rfl, rfl⟩
  go_wp2_with fail
  go_still_tail 12, (by kernel_rfl)
  change wpList _ _ _ _ _ w1.drew
  have h1d := h1.same (Same.refl w1).drew
  generalize w1.drew = w1d at h1d ⊢
  go_wp2_with fail
  have hG := impl_need h1d (y.op == 18)
  refine hG.mono ?_; clear hG; rintro e w2 ⟨rfl, sv2, tv2, h2⟩
  dsimp only at h2
  clear cx lx
  have cx := h2.one.cell
  have lx := h2.one.lt
  go_wp2_with fail
  have hG := impl_give h2 hI (by omega) hbig ((i : Int) + 1) s hsz
  refine hG.mono ?_; clear hG; rintro e w3 ⟨rfl, sv3, tv3, h3⟩
  clear cx lx
  have cx := h3.one.cell
  have lx := h3.one.lt
  go_wp2_with fail
  have hG := impl_give h3 (giveP_inv (q := (st, false || !(y.op == 18))) (p := ((i : Int) + 1)) (s := s) hI FN).1 (by omega) hbig (an : Int) s hsz
  refine hG.mono ?_; clear hG; rintro e w4 ⟨rfl, sv4, tv4, h4⟩
  clear cx lx
  have cx := h4.one.cell
  have lx := h4.one.lt
  go_wp2_with fail
  go_end0
  refine ⟨rfl, (giveP (giveP (st, false || !(y.op == 18)) ((i : Int) + 1) s) (an : Int) s), ?_⟩
  refine ⟨?_, ?_, ?_⟩
  · exact ⟨_, _, h4.less⟩
  · exact HI2
  · exact HR.out
end Go.Proofs.YtekobbeoaalibaaGreatDoor
end

section
namespace Go.Proofs.YtekobbeoaalibaaGreatDoor
open Go.RowKit
set_option linter.unusedVariables false

set_option maxRecDepth 100000 in
set_option maxHeartbeats 2000000 in
theorem visit_19f {w0 wr : World} {b : Nat} {v0 v1 v2 v3 : Value} {Ai : Option Addr} {ni : Nat} {c : List InsT} {st : St} {i : Nat} {x : InsT} {sv tv : Value} {lo hi : Nat} (h : VisIn w0 wr b v0 v1 v2 v3 Ai ni c st i x sv tv lo hi) (k : x.op = 19) (hf : (i : Int) < x.a) :
    Calls Tryz.prog 52 #[.pointer (some ⟨b, 0, none⟩), .int .i64 i] wr (VisPost w0 c.length b v0 v1 v2 v3 Ai ni (stepAt c st i x)) := by
  obtain ⟨vb, hI, hcode, hhi, hbig, hat, hsz, hok⟩ := h
  have hlt : i < c.length := (List.getElem?_eq_some_iff.1 hat).1
  obtain ⟨hgd, hle⟩ := hI.good _ (at_mem hsz) hsz
  obtain ⟨gs, caps, rfl, hgs1, hgs2, hcs1, hcs2⟩ := vb.rows.form (by omega)
  have qs := vb.rows.cell hlt
  obtain ⟨s, hs⟩ : ∃ s, st.at_ i = s := ⟨_, rfl⟩
  rw [hs] at qs hsz hgd hle
  obtain ⟨g, off, hA, hg1, hg2, -, -, q0, q1, q2, q3, q4⟩ := InsT.at_ hcode hat
  subst hA
  rw [k] at q0
  have hla : x.a < c.length := by have := hok.lab (by rw [k]; decide); omega
  have hn : 0 ≤ x.a := by omega
  obtain ⟨an, han⟩ : ∃ an : Nat, x.a = an := ⟨x.a.toNat, by omega⟩
  have HAN := Lib.hid han
  have HBK : Hid (backB c i x = false) := back_far (by omega)
  have hai : an < c.length := by omega
  have hfi : i < an := by omega
  rw [han] at q1
  clear hla hn hf han
  unfold maxLen at hcs2
  have ca := vb.box.cell
  have la := vb.box.lt
  have HS := Lib.hid hs
  have HAT := Lib.hid hat
  have K_ := Lib.hid k
  have HG := Lib.hid hgd
  clear hs hat k hgd
  have HEM : Hid (∀ (q : St × Bool) (p : Int) (z : ByteArray), q.1 = st → Fit c.length (empties st.sh) z → empties (giveP q p z).1.sh ≤ empties st.sh) := fun q p z hq hz => by have := (giveP_inv (q := q) (p := p) (s := z) (by rw [hq]; exact hI) (by rw [hq]; exact hz)).2; rwa [hq] at this
  have HR : Hid (stepAt c st i x = if (giveP (giveP (st, false || !(endsB s ⟨#[109, 118]⟩)) ((i : Int) + 1) (cutE s ⟨#[109, 118]⟩ ++ ⟨#[118]⟩)) x.a (cutE s ⟨#[109, 118]⟩)).2 = true then none else some (giveP (giveP (st, false || !(endsB s ⟨#[109, 118]⟩)) ((i : Int) + 1) (cutE s ⟨#[109, 118]⟩ ++ ⟨#[118]⟩)) x.a (cutE s ⟨#[109, 118]⟩)).1) := by
    show _ = _
    have ha : after x (st.at_ i) = if (endsB s ⟨#[109, 118]⟩) = true then some (cutN s 2 ++ ⟨#[118]⟩, cutN s 2) else none := by rw [HS.out]; simp only [after, K_.out]; rfl
    have := step_q (nx' := (cutE s ⟨#[109, 118]⟩ ++ ⟨#[118]⟩)) (lb' := (cutE s ⟨#[109, 118]⟩)) HBK.out ha (fun e => by rw [cutE_yes (by first | exact e | exact ((Bool.and_eq_true _ _).mp e).2)]; try rfl) (fun e => by rw [cutE_yes e]; try rfl)
    exact this
  rw [HAN.out] at HR
  have hcz := cutE_size s ⟨#[109, 118]⟩ hsz
  have FN : Fit c.length (empties st.sh) (cutE s ⟨#[109, 118]⟩ ++ ⟨#[118]⟩) := (fit_app (cutE_good HG.out) (by have := hcz.2; omega) _)
  have FL : Fit c.length (empties st.sh) (cutE s ⟨#[109, 118]⟩) := (fit_self (cutE_good HG.out) (by have := hcz.2; omega))
  have HI2 : Inv c.length (giveP (giveP (st, false || !(endsB s ⟨#[109, 118]⟩)) ((i : Int) + 1) (cutE s ⟨#[109, 118]⟩ ++ ⟨#[118]⟩)) (an : Int) (cutE s ⟨#[109, 118]⟩)).1 := (giveP_inv (giveP_inv (q := (st, false || !(endsB s ⟨#[109, 118]⟩))) hI FN).1 (Fit.less FL (HEM.out (st, false || !(endsB s ⟨#[109, 118]⟩)) _ _ rfl FN))).1
  go_enter Tryz.func52, Tryz.ntmps52
  go_upto_region 2 with (fail)
  have h1 := vb.more #[.int .i64 19, .int .i64 (an : Int), .int .i64 x.b, .int .i64 x.line, .string x.text] 79
  have hcd1 := hcode.alloc (Nat.le_trans hhi vb.rows.bel.size) (.cells #[.int .i64 19, .int .i64 (an : Int), .int .i64 x.b, .int .i64 x.line, .string x.text] 79)
  obtain ⟨bx, hbx⟩ : ∃ bx, wr.heap.size = bx := ⟨_, rfl⟩
  rw [hbx] at h1 ⊢
  generalize wr.alloc (.cells #[.int .i64 19, .int .i64 (an : Int), .int .i64 x.b, .int .i64 x.line, .string x.text] 79) = w1 at h1 hcd1 ⊢
  clear ca la qs q0 q1 q2 q3 q4 hcode hbx vb
  have cx := h1.one.cell
  have lx := h1.one.lt
  go_wp2_with fail
  refine (impl_isLabel 19 _).mono ?_; rw [show jumpB 19 = true from rfl]; rintro e w2 ⟨rfl, rfl⟩
  go_wp2_with fail
  have hG := impl_cutEnd h1 s ⟨#[109, 118]⟩ hsz (by omega)
  refine hG.mono ?_; clear hG; rintro e w2 ⟨rfl, sv2, tv2, h2⟩
  dsimp only at h2
  clear cx lx
  have cx := h2.one.cell
  have lx := h2.one.lt
  go_wp2_with fail
  have hG := impl_give h2 hI (by omega) hbig ((i : Int) + 1) (cutE s ⟨#[109, 118]⟩ ++ ⟨#[118]⟩) (by rw [ByteArray.size_append]; omega)
  refine hG.mono ?_; clear hG; rintro e w3 ⟨rfl, sv3, tv3, h3⟩
  clear cx lx
  have cx := h3.one.cell
  have lx := h3.one.lt
  go_wp2_with fail
  have hG := impl_give h3 (giveP_inv (q := (st, false || !endsB s ⟨#[109, 118]⟩)) (p := ((i : Int) + 1)) (s := (cutE s ⟨#[109, 118]⟩ ++ ⟨#[118]⟩)) hI FN).1 (by omega) hbig (an : Int) (cutE s ⟨#[109, 118]⟩) hcz.1
  refine hG.mono ?_; clear hG; rintro e w4 ⟨rfl, sv4, tv4, h4⟩
  clear cx lx
  have cx := h4.one.cell
  have lx := h4.one.lt
  go_wp2_with fail
  go_end0
  refine ⟨rfl, (giveP (giveP (st, false || !endsB s ⟨#[109, 118]⟩) ((i : Int) + 1) (cutE s ⟨#[109, 118]⟩ ++ ⟨#[118]⟩)) (an : Int) (cutE s ⟨#[109, 118]⟩)), ?_⟩
  refine ⟨?_, ?_, ?_⟩
  · exact ⟨_, _, h4.less⟩
  · exact HI2
  · exact HR.out
set_option maxRecDepth 100000 in
set_option maxHeartbeats 2000000 in
theorem visit_19b {w0 wr : World} {b : Nat} {v0 v1 v2 v3 : Value} {Ai : Option Addr} {ni : Nat} {c : List InsT} {st : St} {i : Nat} {x : InsT} {sv tv : Value} {lo hi : Nat} (h : VisIn w0 wr b v0 v1 v2 v3 Ai ni c st i x sv tv lo hi) (k : x.op = 19) (hn : 0 ≤ x.a) (hf : x.a ≤ i) :
    Calls Tryz.prog 52 #[.pointer (some ⟨b, 0, none⟩), .int .i64 i] wr (VisPost w0 c.length b v0 v1 v2 v3 Ai ni (stepAt c st i x)) := by
  obtain ⟨vb, hI, hcode, hhi, hbig, hat, hsz, hok⟩ := h
  have hlt : i < c.length := (List.getElem?_eq_some_iff.1 hat).1
  obtain ⟨hgd, hle⟩ := hI.good _ (at_mem hsz) hsz
  obtain ⟨gs, caps, rfl, hgs1, hgs2, hcs1, hcs2⟩ := vb.rows.form (by omega)
  have qs := vb.rows.cell hlt
  obtain ⟨s, hs⟩ : ∃ s, st.at_ i = s := ⟨_, rfl⟩
  rw [hs] at qs hsz hgd hle
  obtain ⟨g, off, hA, hg1, hg2, -, -, q0, q1, q2, q3, q4⟩ := InsT.at_ hcode hat
  subst hA
  rw [k] at q0
  have hla : x.a < c.length := by have := hok.lab (by rw [k]; decide); omega
  obtain ⟨an, han⟩ : ∃ an : Nat, x.a = an := ⟨x.a.toNat, by omega⟩
  have HAN := Lib.hid han
  obtain ⟨y, hy⟩ : ∃ y, c[an]? = some y := ⟨_, List.getElem?_eq_getElem (by omega)⟩
  have HBK : Hid (backB c i x = (false || !(y.op == 18))) := (back_at (by rw [k]; decide) ⟨hn, hf⟩ (by rw [han]; exact hy)).trans (Bool.false_or _).symm
  obtain ⟨g_, off_, hA_, -, -, -, -, y0, -⟩ := InsT.at_ hcode hy
  injection hA_ with hA_; injection hA_ with hA1 hA2; subst hA1 hA2
  have hai : an < c.length := by omega
  have hfi : an ≤ i := by omega
  rw [han] at q1
  clear hla hn hf han
  unfold maxLen at hcs2
  have ca := vb.box.cell
  have la := vb.box.lt
  have HS := Lib.hid hs
  have HAT := Lib.hid hat
  have K_ := Lib.hid k
  have HG := Lib.hid hgd
  clear hs hat k hgd
  have HEM : Hid (∀ (q : St × Bool) (p : Int) (z : ByteArray), q.1 = st → Fit c.length (empties st.sh) z → empties (giveP q p z).1.sh ≤ empties st.sh) := fun q p z hq hz => by have := (giveP_inv (q := q) (p := p) (s := z) (by rw [hq]; exact hI) (by rw [hq]; exact hz)).2; rwa [hq] at this
  have HR : Hid (stepAt c st i x = if (giveP (giveP (st, (false || !(y.op == 18)) || !(endsB s ⟨#[109, 118]⟩)) ((i : Int) + 1) (cutE s ⟨#[109, 118]⟩ ++ ⟨#[118]⟩)) x.a (cutE s ⟨#[109, 118]⟩)).2 = true then none else some (giveP (giveP (st, (false || !(y.op == 18)) || !(endsB s ⟨#[109, 118]⟩)) ((i : Int) + 1) (cutE s ⟨#[109, 118]⟩ ++ ⟨#[118]⟩)) x.a (cutE s ⟨#[109, 118]⟩)).1) := by
    show _ = _
    have ha : after x (st.at_ i) = if (endsB s ⟨#[109, 118]⟩) = true then some (cutN s 2 ++ ⟨#[118]⟩, cutN s 2) else none := by rw [HS.out]; simp only [after, K_.out]; rfl
    have := step_q (nx' := (cutE s ⟨#[109, 118]⟩ ++ ⟨#[118]⟩)) (lb' := (cutE s ⟨#[109, 118]⟩)) HBK.out ha (fun e => by rw [cutE_yes (by first | exact e | exact ((Bool.and_eq_true _ _).mp e).2)]; try rfl) (fun e => by rw [cutE_yes e]; try rfl)
    exact this
  rw [HAN.out] at HR
  have hcz := cutE_size s ⟨#[109, 118]⟩ hsz
  have FN : Fit c.length (empties st.sh) (cutE s ⟨#[109, 118]⟩ ++ ⟨#[118]⟩) := (fit_app (cutE_good HG.out) (by have := hcz.2; omega) _)
  have FL : Fit c.length (empties st.sh) (cutE s ⟨#[109, 118]⟩) := (fit_self (cutE_good HG.out) (by have := hcz.2; omega))
  have HI2 : Inv c.length (giveP (giveP (st, (false || !(y.op == 18)) || !(endsB s ⟨#[109, 118]⟩)) ((i : Int) + 1) (cutE s ⟨#[109, 118]⟩ ++ ⟨#[118]⟩)) (an : Int) (cutE s ⟨#[109, 118]⟩)).1 := (giveP_inv (giveP_inv (q := (st, (false || !(y.op == 18)) || !(endsB s ⟨#[109, 118]⟩))) hI FN).1 (Fit.less FL (HEM.out (st, (false || !(y.op == 18)) || !(endsB s ⟨#[109, 118]⟩)) _ _ rfl FN))).1
  go_enter Tryz.func52, Tryz.ntmps52
  go_upto_region 2 with (fail)
  have h1 := vb.more #[.int .i64 19, .int .i64 (an : Int), .int .i64 x.b, .int .i64 x.line, .string x.text] 79
  have hcd1 := hcode.alloc (Nat.le_trans hhi vb.rows.bel.size) (.cells #[.int .i64 19, .int .i64 (an : Int), .int .i64 x.b, .int .i64 x.line, .string x.text] 79)
  obtain ⟨bx, hbx⟩ : ∃ bx, wr.heap.size = bx := ⟨_, rfl⟩
  rw [hbx] at h1 ⊢
  generalize wr.alloc (.cells #[.int .i64 19, .int .i64 (an : Int), .int .i64 x.b, .int .i64 x.line, .string x.text] 79) = w1 at h1 hcd1 ⊢
  clear y0
  obtain ⟨g_, off_, hA_, -, -, -, -, y0, -⟩ := InsT.at_ hcd1 hy
  injection hA_ with hA_; injection hA_ with hA1 hA2; subst hA1 hA2
  have HY := Lib.hid hy
  clear hy
  clear ca la qs q0 q1 q2 q3 q4 hcode hbx vb
  have cx := h1.one.cell
  have lx := h1.one.lt
  have ca := h1.box.cell
  have la := h1.box.lt
  go_wp2_with fail
  refine (impl_isLabel 19 _).mono ?_; rw [show jumpB 19 = true from rfl]; rintro e w2 ⟨rfl, rfl⟩
  go_wp2_with fail
  go_still_tail 12, (by kernel_rfl)
  change wpList _ _ _ _ _ w1.drew
  have h1d := h1.same (Same.refl w1).drew
  generalize w1.drew = w1d at h1d ⊢
  go_wp2_with fail
  have hG := impl_need h1d (y.op == 18)
  refine hG.mono ?_; clear hG; rintro e w2 ⟨rfl, sv2, tv2, h2⟩
  dsimp only at h2
  clear cx lx
  have cx := h2.one.cell
  have lx := h2.one.lt
  go_wp2_with fail
  have hG := impl_cutEnd h2 s ⟨#[109, 118]⟩ hsz (by omega)
  refine hG.mono ?_; clear hG; rintro e w3 ⟨rfl, sv3, tv3, h3⟩
  dsimp only at h3
  clear cx lx
  have cx := h3.one.cell
  have lx := h3.one.lt
  go_wp2_with fail
  have hG := impl_give h3 hI (by omega) hbig ((i : Int) + 1) (cutE s ⟨#[109, 118]⟩ ++ ⟨#[118]⟩) (by rw [ByteArray.size_append]; omega)
  refine hG.mono ?_; clear hG; rintro e w4 ⟨rfl, sv4, tv4, h4⟩
  clear cx lx
  have cx := h4.one.cell
  have lx := h4.one.lt
  go_wp2_with fail
  have hG := impl_give h4 (giveP_inv (q := (st, (false || !(y.op == 18)) || !endsB s ⟨#[109, 118]⟩)) (p := ((i : Int) + 1)) (s := (cutE s ⟨#[109, 118]⟩ ++ ⟨#[118]⟩)) hI FN).1 (by omega) hbig (an : Int) (cutE s ⟨#[109, 118]⟩) hcz.1
  refine hG.mono ?_; clear hG; rintro e w5 ⟨rfl, sv5, tv5, h5⟩
  clear cx lx
  have cx := h5.one.cell
  have lx := h5.one.lt
  go_wp2_with fail
  go_end0
  refine ⟨rfl, (giveP (giveP (st, (false || !(y.op == 18)) || !endsB s ⟨#[109, 118]⟩) ((i : Int) + 1) (cutE s ⟨#[109, 118]⟩ ++ ⟨#[118]⟩)) (an : Int) (cutE s ⟨#[109, 118]⟩)), ?_⟩
  refine ⟨?_, ?_, ?_⟩
  · exact ⟨_, _, h5.less⟩
  · exact HI2
  · exact HR.out
set_option maxRecDepth 100000 in
set_option maxHeartbeats 2000000 in
theorem visit_26 {w0 wr : World} {b : Nat} {v0 v1 v2 v3 : Value} {Ai : Option Addr} {ni : Nat} {c : List InsT} {st : St} {i : Nat} {x : InsT} {sv tv : Value} {lo hi : Nat} (h : VisIn w0 wr b v0 v1 v2 v3 Ai ni c st i x sv tv lo hi) (k : x.op = 26) :
    Calls Tryz.prog 52 #[.pointer (some ⟨b, 0, none⟩), .int .i64 i] wr (VisPost w0 c.length b v0 v1 v2 v3 Ai ni (stepAt c st i x)) := by
  obtain ⟨vb, hI, hcode, hhi, hbig, hat, hsz, hok⟩ := h
  have hlt : i < c.length := (List.getElem?_eq_some_iff.1 hat).1
  obtain ⟨hgd, hle⟩ := hI.good _ (at_mem hsz) hsz
  obtain ⟨gs, caps, rfl, hgs1, hgs2, hcs1, hcs2⟩ := vb.rows.form (by omega)
  have qs := vb.rows.cell hlt
  obtain ⟨s, hs⟩ : ∃ s, st.at_ i = s := ⟨_, rfl⟩
  rw [hs] at qs hsz hgd hle
  obtain ⟨g, off, hA, hg1, hg2, -, -, q0, q1, q2, q3, q4⟩ := InsT.at_ hcode hat
  subst hA
  rw [k] at q0
  have HBK : Hid (backB c i x = false) := back_no (by rw [k]; rfl)
  unfold maxLen at hcs2
  have ca := vb.box.cell
  have la := vb.box.lt
  have HS := Lib.hid hs
  have HAT := Lib.hid hat
  have K_ := Lib.hid k
  have HG := Lib.hid hgd
  clear hs hat k hgd
  have HEM : Hid (∀ (q : St × Bool) (p : Int) (z : ByteArray), q.1 = st → Fit c.length (empties st.sh) z → empties (giveP q p z).1.sh ≤ empties st.sh) := fun q p z hq hz => by have := (giveP_inv (q := q) (p := p) (s := z) (by rw [hq]; exact hI) (by rw [hq]; exact hz)).2; rwa [hq] at this
  have HR : Hid (stepAt c st i x = if (giveP (st, false || !(routB s && endsB s ⟨#[118]⟩)) ((i : Int) + 1) (cutE s ⟨#[118]⟩)).2 = true then none else some (giveP (st, false || !(routB s && endsB s ⟨#[118]⟩)) ((i : Int) + 1) (cutE s ⟨#[118]⟩)).1) := by
    show _ = _
    have ha : after x (st.at_ i) = if (routB s && endsB s ⟨#[118]⟩) = true then some (cutN s 1, ⟨#[]⟩) else none := by rw [HS.out]; simp only [after, K_.out]; cases routB s <;> cases endsB s ⟨#[118]⟩ <;> rfl
    have := step_q (nx' := (cutE s ⟨#[118]⟩)) (lb' := ⟨#[]⟩) HBK.out ha (fun e => by rw [cutE_yes (by first | exact e | exact ((Bool.and_eq_true _ _).mp e).2)]; try rfl) (fun _ => rfl)
    rw [giveP_nil] at this
    exact this
  have hcz := cutE_size s ⟨#[118]⟩ hsz
  have FN : Fit c.length (empties st.sh) (cutE s ⟨#[118]⟩) := (fit_self (cutE_good HG.out) (by have := hcz.2; omega))
  go_enter Tryz.func52, Tryz.ntmps52
  go_upto_region 2 with (fail)
  have h1 := vb.more #[.int .i64 26, .int .i64 x.a, .int .i64 x.b, .int .i64 x.line, .string x.text] 79
  have hcd1 := hcode.alloc (Nat.le_trans hhi vb.rows.bel.size) (.cells #[.int .i64 26, .int .i64 x.a, .int .i64 x.b, .int .i64 x.line, .string x.text] 79)
  obtain ⟨bx, hbx⟩ : ∃ bx, wr.heap.size = bx := ⟨_, rfl⟩
  rw [hbx] at h1 ⊢
  generalize wr.alloc (.cells #[.int .i64 26, .int .i64 x.a, .int .i64 x.b, .int .i64 x.line, .string x.text] 79) = w1 at h1 hcd1 ⊢
  clear ca la qs q0 q1 q2 q3 q4 hcode hbx vb
  have cx := h1.one.cell
  have lx := h1.one.lt
  go_wp2_with fail
  refine (impl_isLabel 26 _).mono ?_; rw [show jumpB 26 = false from rfl]; rintro e w2 ⟨rfl, rfl⟩
  go_wp2_with fail
  refine (impl_isRoutineShape s _ HG.out).mono ?_; rintro e w7 ⟨rfl, rfl⟩
  go_wp2_with fail
  have hG := impl_need h1 (routB s)
  refine hG.mono ?_; clear hG; rintro e w2 ⟨rfl, sv2, tv2, h2⟩
  clear cx lx
  have cx := h2.one.cell
  have lx := h2.one.lt
  go_wp2_with fail
  have hG := impl_cutEnd h2 s ⟨#[118]⟩ hsz (by omega)
  refine hG.mono ?_; clear hG; rintro e w3 ⟨rfl, sv3, tv3, h3⟩
  dsimp only at h3
  clear cx lx
  have cx := h3.one.cell
  have lx := h3.one.lt
  go_wp2_with fail
  have HQ : Hid (((st, (false || !routB s) || !endsB s ⟨#[118]⟩) : St × Bool) = (st, false || !(routB s && endsB s ⟨#[118]⟩))) := by show _ = _; cases routB s <;> cases endsB s ⟨#[118]⟩ <;> rfl
  have hG := impl_give h3 hI (by omega) hbig ((i : Int) + 1) (cutE s ⟨#[118]⟩) hcz.1
  refine hG.mono ?_; clear hG; rintro e w4 ⟨rfl, sv4, tv4, h4⟩
  clear cx lx
  have cx := h4.one.cell
  have lx := h4.one.lt
  go_wp2_with fail
  go_end0
  refine ⟨rfl, (giveP ((st, (false || !routB s) || !endsB s ⟨#[118]⟩) : St × Bool) ((i : Int) + 1) (cutE s ⟨#[118]⟩)), ?_⟩
  refine ⟨?_, ?_, ?_⟩
  · exact ⟨_, _, h4.less⟩
  · exact (giveP_inv (q := ((st, (false || !routB s) || !endsB s ⟨#[118]⟩) : St × Bool)) (p := ((i : Int) + 1)) (s := (cutE s ⟨#[118]⟩)) hI FN).1
  · rw [HR.out]; cases routB s <;> cases endsB s ⟨#[118]⟩ <;> rfl
set_option maxRecDepth 100000 in
set_option maxHeartbeats 2000000 in
theorem visit_28 {w0 wr : World} {b : Nat} {v0 v1 v2 v3 : Value} {Ai : Option Addr} {ni : Nat} {c : List InsT} {st : St} {i : Nat} {x : InsT} {sv tv : Value} {lo hi : Nat} (h : VisIn w0 wr b v0 v1 v2 v3 Ai ni c st i x sv tv lo hi) (k : x.op = 28) :
    Calls Tryz.prog 52 #[.pointer (some ⟨b, 0, none⟩), .int .i64 i] wr (VisPost w0 c.length b v0 v1 v2 v3 Ai ni (stepAt c st i x)) := by
  obtain ⟨vb, hI, hcode, hhi, hbig, hat, hsz, hok⟩ := h
  have hlt : i < c.length := (List.getElem?_eq_some_iff.1 hat).1
  obtain ⟨hgd, hle⟩ := hI.good _ (at_mem hsz) hsz
  obtain ⟨gs, caps, rfl, hgs1, hgs2, hcs1, hcs2⟩ := vb.rows.form (by omega)
  have qs := vb.rows.cell hlt
  obtain ⟨s, hs⟩ : ∃ s, st.at_ i = s := ⟨_, rfl⟩
  rw [hs] at qs hsz hgd hle
  obtain ⟨g, off, hA, hg1, hg2, -, -, q0, q1, q2, q3, q4⟩ := InsT.at_ hcode hat
  subst hA
  rw [k] at q0
  have HBK : Hid (backB c i x = false) := back_no (by rw [k]; rfl)
  unfold maxLen at hcs2
  have ca := vb.box.cell
  have la := vb.box.lt
  have HS := Lib.hid hs
  have HAT := Lib.hid hat
  have K_ := Lib.hid k
  have HG := Lib.hid hgd
  clear hs hat k hgd
  have HEM : Hid (∀ (q : St × Bool) (p : Int) (z : ByteArray), q.1 = st → Fit c.length (empties st.sh) z → empties (giveP q p z).1.sh ≤ empties st.sh) := fun q p z hq hz => by have := (giveP_inv (q := q) (p := p) (s := z) (by rw [hq]; exact hI) (by rw [hq]; exact hz)).2; rwa [hq] at this
  have HR : Hid (stepAt c st i x = if (st, false || !(!routB s && endsB s ⟨#[118]⟩)).2 = true then none else some (st, false || !(!routB s && endsB s ⟨#[118]⟩)).1) := by
    show _ = _
    have ha : after x (st.at_ i) = if (!routB s && endsB s ⟨#[118]⟩) = true then some (⟨#[]⟩, ⟨#[]⟩) else none := by rw [HS.out]; simp only [after, K_.out]; cases routB s <;> cases endsB s ⟨#[118]⟩ <;> rfl
    have := step_q (nx' := ⟨#[]⟩) (lb' := ⟨#[]⟩) HBK.out ha (fun _ => rfl) (fun _ => rfl)
    rw [giveP_nil] at this
    rw [giveP_nil] at this
    exact this
  go_enter Tryz.func52, Tryz.ntmps52
  go_upto_region 2 with (fail)
  have h1 := vb.more #[.int .i64 28, .int .i64 x.a, .int .i64 x.b, .int .i64 x.line, .string x.text] 79
  have hcd1 := hcode.alloc (Nat.le_trans hhi vb.rows.bel.size) (.cells #[.int .i64 28, .int .i64 x.a, .int .i64 x.b, .int .i64 x.line, .string x.text] 79)
  obtain ⟨bx, hbx⟩ : ∃ bx, wr.heap.size = bx := ⟨_, rfl⟩
  rw [hbx] at h1 ⊢
  generalize wr.alloc (.cells #[.int .i64 28, .int .i64 x.a, .int .i64 x.b, .int .i64 x.line, .string x.text] 79) = w1 at h1 hcd1 ⊢
  clear ca la qs q0 q1 q2 q3 q4 hcode hbx vb
  have cx := h1.one.cell
  have lx := h1.one.lt
  go_wp2_with fail
  refine (impl_isLabel 28 _).mono ?_; rw [show jumpB 28 = false from rfl]; rintro e w2 ⟨rfl, rfl⟩
  go_wp2_with fail
  refine (impl_isRoutineShape s _ HG.out).mono ?_; rintro e w7 ⟨rfl, rfl⟩
  go_wp2_with fail
  have hG := impl_need h1 (!routB s)
  refine hG.mono ?_; clear hG; rintro e w2 ⟨rfl, sv2, tv2, h2⟩
  clear cx lx
  have cx := h2.one.cell
  have lx := h2.one.lt
  go_wp2_with fail
  have hG := impl_cutEnd h2 s ⟨#[118]⟩ hsz (by omega)
  refine hG.mono ?_; clear hG; rintro e w3 ⟨rfl, sv3, tv3, h3⟩
  dsimp only at h3
  clear cx lx
  have cx := h3.one.cell
  have lx := h3.one.lt
  go_wp2_with fail
  have HQ : Hid (((st, (false || !(!routB s)) || !endsB s ⟨#[118]⟩) : St × Bool) = (st, false || !(!routB s && endsB s ⟨#[118]⟩))) := by show _ = _; cases routB s <;> cases endsB s ⟨#[118]⟩ <;> rfl
  go_end0
  refine ⟨rfl, ((st, (false || !(!routB s)) || !endsB s ⟨#[118]⟩) : St × Bool), ?_⟩
  refine ⟨?_, ?_, ?_⟩
  · exact ⟨_, _, h3.less⟩
  · exact hI
  · rw [HR.out]; cases routB s <;> cases endsB s ⟨#[118]⟩ <;> rfl
set_option maxRecDepth 100000 in
set_option maxHeartbeats 2000000 in
theorem visit_29 {w0 wr : World} {b : Nat} {v0 v1 v2 v3 : Value} {Ai : Option Addr} {ni : Nat} {c : List InsT} {st : St} {i : Nat} {x : InsT} {sv tv : Value} {lo hi : Nat} (h : VisIn w0 wr b v0 v1 v2 v3 Ai ni c st i x sv tv lo hi) (k : x.op = 29) :
    Calls Tryz.prog 52 #[.pointer (some ⟨b, 0, none⟩), .int .i64 i] wr (VisPost w0 c.length b v0 v1 v2 v3 Ai ni (stepAt c st i x)) := by
  obtain ⟨vb, hI, hcode, hhi, hbig, hat, hsz, hok⟩ := h
  have hlt : i < c.length := (List.getElem?_eq_some_iff.1 hat).1
  obtain ⟨hgd, hle⟩ := hI.good _ (at_mem hsz) hsz
  obtain ⟨gs, caps, rfl, hgs1, hgs2, hcs1, hcs2⟩ := vb.rows.form (by omega)
  have qs := vb.rows.cell hlt
  obtain ⟨s, hs⟩ : ∃ s, st.at_ i = s := ⟨_, rfl⟩
  rw [hs] at qs hsz hgd hle
  obtain ⟨g, off, hA, hg1, hg2, -, -, q0, q1, q2, q3, q4⟩ := InsT.at_ hcode hat
  subst hA
  rw [k] at q0
  have HBK : Hid (backB c i x = false) := back_no (by rw [k]; rfl)
  unfold maxLen at hcs2
  have ca := vb.box.cell
  have la := vb.box.lt
  have HS := Lib.hid hs
  have HAT := Lib.hid hat
  have K_ := Lib.hid k
  have HG := Lib.hid hgd
  clear hs hat k hgd
  have HEM : Hid (∀ (q : St × Bool) (p : Int) (z : ByteArray), q.1 = st → Fit c.length (empties st.sh) z → empties (giveP q p z).1.sh ≤ empties st.sh) := fun q p z hq hz => by have := (giveP_inv (q := q) (p := p) (s := z) (by rw [hq]; exact hI) (by rw [hq]; exact hz)).2; rwa [hq] at this
  have HR : Hid (stepAt c st i x = if (giveP (st, false || !(endsB s ⟨#[118]⟩)) ((i : Int) + 1) s).2 = true then none else some (giveP (st, false || !(endsB s ⟨#[118]⟩)) ((i : Int) + 1) s).1) := by
    show _ = _
    have ha : after x (st.at_ i) = if (endsB s ⟨#[118]⟩) = true then some (s, ⟨#[]⟩) else none := by rw [HS.out]; simp only [after, K_.out]; rfl
    have := step_q (nx' := s) (lb' := ⟨#[]⟩) HBK.out ha (fun _ => rfl) (fun _ => rfl)
    rw [giveP_nil] at this
    exact this
  have FN : Fit c.length (empties st.sh) s := (fit_self HG.out hle)
  go_enter Tryz.func52, Tryz.ntmps52
  go_upto_region 2 with (fail)
  have h1 := vb.more #[.int .i64 29, .int .i64 x.a, .int .i64 x.b, .int .i64 x.line, .string x.text] 79
  have hcd1 := hcode.alloc (Nat.le_trans hhi vb.rows.bel.size) (.cells #[.int .i64 29, .int .i64 x.a, .int .i64 x.b, .int .i64 x.line, .string x.text] 79)
  obtain ⟨bx, hbx⟩ : ∃ bx, wr.heap.size = bx := ⟨_, rfl⟩
  rw [hbx] at h1 ⊢
  generalize wr.alloc (.cells #[.int .i64 29, .int .i64 x.a, .int .i64 x.b, .int .i64 x.line, .string x.text] 79) = w1 at h1 hcd1 ⊢
  clear ca la qs q0 q1 q2 q3 q4 hcode hbx vb
  have cx := h1.one.cell
  have lx := h1.one.lt
  go_wp2_with fail
  refine (impl_isLabel 29 _).mono ?_; rw [show jumpB 29 = false from rfl]; rintro e w2 ⟨rfl, rfl⟩
  go_wp2_with fail
  have hG := impl_cutEnd h1 s ⟨#[118]⟩ hsz (by omega)
  refine hG.mono ?_; clear hG; rintro e w2 ⟨rfl, sv2, tv2, h2⟩
  dsimp only at h2
  clear cx lx
  have cx := h2.one.cell
  have lx := h2.one.lt
  go_wp2_with fail
  have hG := impl_give h2 hI (by omega) hbig ((i : Int) + 1) s hsz
  refine hG.mono ?_; clear hG; rintro e w3 ⟨rfl, sv3, tv3, h3⟩
  clear cx lx
  have cx := h3.one.cell
  have lx := h3.one.lt
  go_wp2_with fail
  go_end0
  refine ⟨rfl, (giveP (st, false || !endsB s ⟨#[118]⟩) ((i : Int) + 1) s), ?_⟩
  refine ⟨?_, ?_, ?_⟩
  · exact ⟨_, _, h3.less⟩
  · exact (giveP_inv (q := (st, false || !endsB s ⟨#[118]⟩)) (p := ((i : Int) + 1)) (s := s) hI FN).1
  · exact HR.out
set_option maxRecDepth 100000 in
set_option maxHeartbeats 2000000 in
theorem visit_30 {w0 wr : World} {b : Nat} {v0 v1 v2 v3 : Value} {Ai : Option Addr} {ni : Nat} {c : List InsT} {st : St} {i : Nat} {x : InsT} {sv tv : Value} {lo hi : Nat} (h : VisIn w0 wr b v0 v1 v2 v3 Ai ni c st i x sv tv lo hi) (k : x.op = 30) :
    Calls Tryz.prog 52 #[.pointer (some ⟨b, 0, none⟩), .int .i64 i] wr (VisPost w0 c.length b v0 v1 v2 v3 Ai ni (stepAt c st i x)) := by
  obtain ⟨vb, hI, hcode, hhi, hbig, hat, hsz, hok⟩ := h
  have hlt : i < c.length := (List.getElem?_eq_some_iff.1 hat).1
  obtain ⟨hgd, hle⟩ := hI.good _ (at_mem hsz) hsz
  obtain ⟨gs, caps, rfl, hgs1, hgs2, hcs1, hcs2⟩ := vb.rows.form (by omega)
  have qs := vb.rows.cell hlt
  obtain ⟨s, hs⟩ : ∃ s, st.at_ i = s := ⟨_, rfl⟩
  rw [hs] at qs hsz hgd hle
  obtain ⟨g, off, hA, hg1, hg2, -, -, q0, q1, q2, q3, q4⟩ := InsT.at_ hcode hat
  subst hA
  rw [k] at q0
  have HBK : Hid (backB c i x = false) := back_no (by rw [k]; rfl)
  unfold maxLen at hcs2
  have ca := vb.box.cell
  have la := vb.box.lt
  have HS := Lib.hid hs
  have HAT := Lib.hid hat
  have K_ := Lib.hid k
  have HG := Lib.hid hgd
  clear hs hat k hgd
  have HEM : Hid (∀ (q : St × Bool) (p : Int) (z : ByteArray), q.1 = st → Fit c.length (empties st.sh) z → empties (giveP q p z).1.sh ≤ empties st.sh) := fun q p z hq hz => by have := (giveP_inv (q := q) (p := p) (s := z) (by rw [hq]; exact hI) (by rw [hq]; exact hz)).2; rwa [hq] at this
  have HR : Hid (stepAt c st i x = if (giveP (st, false || !(endsB s ⟨#[118]⟩)) ((i : Int) + 1) (cutE s ⟨#[118]⟩)).2 = true then none else some (giveP (st, false || !(endsB s ⟨#[118]⟩)) ((i : Int) + 1) (cutE s ⟨#[118]⟩)).1) := by
    show _ = _
    have ha : after x (st.at_ i) = if (endsB s ⟨#[118]⟩) = true then some (cutN s 1, ⟨#[]⟩) else none := by rw [HS.out]; simp only [after, K_.out]; rfl
    have := step_q (nx' := (cutE s ⟨#[118]⟩)) (lb' := ⟨#[]⟩) HBK.out ha (fun e => by rw [cutE_yes (by first | exact e | exact ((Bool.and_eq_true _ _).mp e).2)]; try rfl) (fun _ => rfl)
    rw [giveP_nil] at this
    exact this
  have hcz := cutE_size s ⟨#[118]⟩ hsz
  have FN : Fit c.length (empties st.sh) (cutE s ⟨#[118]⟩) := (fit_self (cutE_good HG.out) (by have := hcz.2; omega))
  go_enter Tryz.func52, Tryz.ntmps52
  go_upto_region 2 with (fail)
  have h1 := vb.more #[.int .i64 30, .int .i64 x.a, .int .i64 x.b, .int .i64 x.line, .string x.text] 79
  have hcd1 := hcode.alloc (Nat.le_trans hhi vb.rows.bel.size) (.cells #[.int .i64 30, .int .i64 x.a, .int .i64 x.b, .int .i64 x.line, .string x.text] 79)
  obtain ⟨bx, hbx⟩ : ∃ bx, wr.heap.size = bx := ⟨_, rfl⟩
  rw [hbx] at h1 ⊢
  generalize wr.alloc (.cells #[.int .i64 30, .int .i64 x.a, .int .i64 x.b, .int .i64 x.line, .string x.text] 79) = w1 at h1 hcd1 ⊢
  clear ca la qs q0 q1 q2 q3 q4 hcode hbx vb
  have cx := h1.one.cell
  have lx := h1.one.lt
  go_wp2_with fail
  refine (impl_isLabel 30 _).mono ?_; rw [show jumpB 30 = false from rfl]; rintro e w2 ⟨rfl, rfl⟩
  go_wp2_with fail
  have hG := impl_cutEnd h1 s ⟨#[118]⟩ hsz (by omega)
  refine hG.mono ?_; clear hG; rintro e w2 ⟨rfl, sv2, tv2, h2⟩
  dsimp only at h2
  clear cx lx
  have cx := h2.one.cell
  have lx := h2.one.lt
  go_wp2_with fail
  have hG := impl_give h2 hI (by omega) hbig ((i : Int) + 1) (cutE s ⟨#[118]⟩) hcz.1
  refine hG.mono ?_; clear hG; rintro e w3 ⟨rfl, sv3, tv3, h3⟩
  clear cx lx
  have cx := h3.one.cell
  have lx := h3.one.lt
  go_wp2_with fail
  go_end0
  refine ⟨rfl, (giveP (st, false || !endsB s ⟨#[118]⟩) ((i : Int) + 1) (cutE s ⟨#[118]⟩)), ?_⟩
  refine ⟨?_, ?_, ?_⟩
  · exact ⟨_, _, h3.less⟩
  · exact (giveP_inv (q := (st, false || !endsB s ⟨#[118]⟩)) (p := ((i : Int) + 1)) (s := (cutE s ⟨#[118]⟩)) hI FN).1
  · exact HR.out
end Go.Proofs.YtekobbeoaalibaaGreatDoor
end

section
namespace Go.Proofs.YtekobbeoaalibaaGreatDoor
open Go.RowKit
set_option linter.unusedVariables false

set_option maxRecDepth 100000 in
set_option maxHeartbeats 2000000 in
theorem visit_27f {w0 wr : World} {b : Nat} {v0 v1 v2 v3 : Value} {Ai : Option Addr} {ni : Nat} {c : List InsT} {st : St} {i : Nat} {x : InsT} {sv tv : Value} {lo hi : Nat} (h : VisIn w0 wr b v0 v1 v2 v3 Ai ni c st i x sv tv lo hi) (k : x.op = 27) (hf : (i : Int) < x.a) :
    Calls Tryz.prog 52 #[.pointer (some ⟨b, 0, none⟩), .int .i64 i] wr (VisPost w0 c.length b v0 v1 v2 v3 Ai ni (stepAt c st i x)) := by
  obtain ⟨vb, hI, hcode, hhi, hbig, hat, hsz, hok⟩ := h
  have hlt : i < c.length := (List.getElem?_eq_some_iff.1 hat).1
  obtain ⟨hgd, hle⟩ := hI.good _ (at_mem hsz) hsz
  obtain ⟨gs, caps, rfl, hgs1, hgs2, hcs1, hcs2⟩ := vb.rows.form (by omega)
  have qs := vb.rows.cell hlt
  obtain ⟨s, hs⟩ : ∃ s, st.at_ i = s := ⟨_, rfl⟩
  rw [hs] at qs hsz hgd hle
  obtain ⟨g, off, hA, hg1, hg2, -, -, q0, q1, q2, q3, q4⟩ := InsT.at_ hcode hat
  subst hA
  rw [k] at q0
  have hla : x.a < c.length := by have := hok.lab (by rw [k]; decide); omega
  have hn : 0 ≤ x.a := by omega
  obtain ⟨an, han⟩ : ∃ an : Nat, x.a = an := ⟨x.a.toNat, by omega⟩
  have HAN := Lib.hid han
  have HBK : Hid (backB c i x = false) := back_far (by omega)
  have hai : an < c.length := by omega
  have hfi : i < an := by omega
  rw [han] at q1
  clear hla hn hf han
  unfold maxLen at hcs2
  have ca := vb.box.cell
  have la := vb.box.lt
  have HS := Lib.hid hs
  have HAT := Lib.hid hat
  have K_ := Lib.hid k
  have HG := Lib.hid hgd
  clear hs hat k hgd
  obtain ⟨z, hz⟩ : ∃ z, (⟨#[UInt8.ofNat (97 + slotsN s)]⟩ : ByteArray) = z := ⟨_, rfl⟩
  have HZ := Lib.hid hz
  have hz1 : 0 < z.size := by rw [← hz, size_one]; omega
  have hz2 : z.size ≤ 1 := by rw [← hz, size_one]; omega
  clear hz
  have HEM : Hid (∀ (q : St × Bool) (p : Int) (z : ByteArray), q.1 = st → Fit c.length (empties st.sh) z → empties (giveP q p z).1.sh ≤ empties st.sh) := fun q p z hq hz => by have := (giveP_inv (q := q) (p := p) (s := z) (by rw [hq]; exact hI) (by rw [hq]; exact hz)).2; rwa [hq] at this
  have HR : Hid (stepAt c st i x = if (giveP (giveP (st, false) ((i : Int) + 1) (s ++ ⟨#[118]⟩)) x.a z).2 = true then none else some (giveP (giveP (st, false) ((i : Int) + 1) (s ++ ⟨#[118]⟩)) x.a z).1) := by
    show _ = _
    have ha : after x (st.at_ i) = if true = true then some ((s ++ ⟨#[118]⟩), z) else none := by rw [HS.out]; simp only [after, K_.out]; rw [HZ.out]; rfl
    have := step_q (nx' := (s ++ ⟨#[118]⟩)) (lb' := z) HBK.out ha (fun _ => rfl) (fun _ => rfl)
    simp only [Bool.not_true, Bool.or_false] at this
    exact this
  rw [HAN.out] at HR
  have FN : Fit c.length (empties st.sh) (s ++ ⟨#[118]⟩) := (fit_app HG.out hle _)
  have FL : Fit c.length (empties st.sh) z := (fit_self (by rw [← HZ.out]; exact good_create HG.out) (by omega))
  have HI2 : Inv c.length (giveP (giveP (st, false) ((i : Int) + 1) (s ++ ⟨#[118]⟩)) (an : Int) z).1 := (giveP_inv (giveP_inv (q := (st, false)) hI FN).1 (Fit.less FL (HEM.out (st, false) _ _ rfl FN))).1
  go_enter Tryz.func52, Tryz.ntmps52
  go_upto_region 2 with (fail)
  have h1 := vb.more #[.int .i64 27, .int .i64 (an : Int), .int .i64 x.b, .int .i64 x.line, .string x.text] 79
  have hcd1 := hcode.alloc (Nat.le_trans hhi vb.rows.bel.size) (.cells #[.int .i64 27, .int .i64 (an : Int), .int .i64 x.b, .int .i64 x.line, .string x.text] 79)
  obtain ⟨bx, hbx⟩ : ∃ bx, wr.heap.size = bx := ⟨_, rfl⟩
  rw [hbx] at h1 ⊢
  generalize wr.alloc (.cells #[.int .i64 27, .int .i64 (an : Int), .int .i64 x.b, .int .i64 x.line, .string x.text] 79) = w1 at h1 hcd1 ⊢
  clear ca la qs q0 q1 q2 q3 q4 hcode hbx vb
  have cx := h1.one.cell
  have lx := h1.one.lt
  go_wp2_with fail
  refine (impl_isLabel 27 _).mono ?_; rw [show jumpB 27 = true from rfl]; rintro e w2 ⟨rfl, rfl⟩
  go_wp2_with fail
  have hG := impl_give h1 hI (by omega) hbig ((i : Int) + 1) (s ++ ⟨#[118]⟩) (by rw [ByteArray.size_append]; omega)
  refine hG.mono ?_; clear hG; rintro e w2 ⟨rfl, sv2, tv2, h2⟩
  clear cx lx
  have cx := h2.one.cell
  have lx := h2.one.lt
  go_wp2_with fail
  have hsl := slots_le HG.out
  have HSL := Lib.hid (fun w => impl_slotsOf s w HG.out)
  have g1 : IntKind.u8.wrap (slotsN s : Int) = (slotsN s : Int) := wrap8 _ (by omega) (by omega)
  have g2 : IntKind.u8.wrap (97 + (slotsN s : Int)) = 97 + (slotsN s : Int) := wrap8 _ (by omega) (by omega)
  have hcv : (convert 77 9 (.slice (some ⟨w2.heap.size, 0, none⟩) 1 1)).run Tryz.prog (w2.alloc (.cells #[.int .u8 (97 + (slotsN s : Int))] 5)).drew = .ok (.string z) (w2.alloc (.cells #[.int .u8 (97 + (slotsN s : Int))] 5)).drew := by
    have := run_convert_byte1 (P := Tryz.prog) 77 9 5 Tryz.underlying77 Tryz.underlying5 Tryz.underlying9 w2.drew (97 + (slotsN s : Int)) 1 5
    rw [show (97 + (slotsN s : Int)).toNat = 97 + slotsN s by omega, HZ.out] at this
    exact this
  have hd := (h2.alloc (.cells #[.int .u8 (97 + (slotsN s : Int))] 5)).same (Same.refl _).drew
  have HIN : Inv c.length (giveP (st, false) ((i : Int) + 1) (s ++ ⟨#[118]⟩)).1 := (giveP_inv (q := (st, false)) (p := ((i : Int) + 1)) (s := (s ++ ⟨#[118]⟩)) hI FN).1
  have hn0 : 0 < c.length := by omega
  go_region_with (first
      | (go_at_call 93; refine (HSL.out _).mono ?_; rintro e wS ⟨rfl, rfl⟩)
      | (go_at_call 51; have hG := impl_give hd HIN hn0 hbig (an : Int) z hz1; refine hG.mono ?_; clear hG; rintro e w3 ⟨rfl, sv3, tv3, h3⟩))
  all_goals
    go_wp2_with fail
    go_end0
    refine ⟨rfl, (giveP (giveP (st, false) ((i : Int) + 1) (s ++ ⟨#[118]⟩)) (an : Int) z), ?_⟩
    refine ⟨?_, ?_, ?_⟩
    · exact ⟨_, _, h3.less⟩
    · exact HI2
    · exact HR.out
set_option maxRecDepth 100000 in
set_option maxHeartbeats 2000000 in
theorem visit_27b {w0 wr : World} {b : Nat} {v0 v1 v2 v3 : Value} {Ai : Option Addr} {ni : Nat} {c : List InsT} {st : St} {i : Nat} {x : InsT} {sv tv : Value} {lo hi : Nat} (h : VisIn w0 wr b v0 v1 v2 v3 Ai ni c st i x sv tv lo hi) (k : x.op = 27) (hn : 0 ≤ x.a) (hf : x.a ≤ i) :
    Calls Tryz.prog 52 #[.pointer (some ⟨b, 0, none⟩), .int .i64 i] wr (VisPost w0 c.length b v0 v1 v2 v3 Ai ni (stepAt c st i x)) := by
  obtain ⟨vb, hI, hcode, hhi, hbig, hat, hsz, hok⟩ := h
  have hlt : i < c.length := (List.getElem?_eq_some_iff.1 hat).1
  obtain ⟨hgd, hle⟩ := hI.good _ (at_mem hsz) hsz
  obtain ⟨gs, caps, rfl, hgs1, hgs2, hcs1, hcs2⟩ := vb.rows.form (by omega)
  have qs := vb.rows.cell hlt
  obtain ⟨s, hs⟩ : ∃ s, st.at_ i = s := ⟨_, rfl⟩
  rw [hs] at qs hsz hgd hle
  obtain ⟨g, off, hA, hg1, hg2, -, -, q0, q1, q2, q3, q4⟩ := InsT.at_ hcode hat
  subst hA
  rw [k] at q0
  have hla : x.a < c.length := by have := hok.lab (by rw [k]; decide); omega
  obtain ⟨an, han⟩ : ∃ an : Nat, x.a = an := ⟨x.a.toNat, by omega⟩
  have HAN := Lib.hid han
  obtain ⟨y, hy⟩ : ∃ y, c[an]? = some y := ⟨_, List.getElem?_eq_getElem (by omega)⟩
  have HBK : Hid (backB c i x = (false || !(y.op == 18))) := (back_at (by rw [k]; decide) ⟨hn, hf⟩ (by rw [han]; exact hy)).trans (Bool.false_or _).symm
  obtain ⟨g_, off_, hA_, -, -, -, -, y0, -⟩ := InsT.at_ hcode hy
  injection hA_ with hA_; injection hA_ with hA1 hA2; subst hA1 hA2
  have hai : an < c.length := by omega
  have hfi : an ≤ i := by omega
  rw [han] at q1
  clear hla hn hf han
  unfold maxLen at hcs2
  have ca := vb.box.cell
  have la := vb.box.lt
  have HS := Lib.hid hs
  have HAT := Lib.hid hat
  have K_ := Lib.hid k
  have HG := Lib.hid hgd
  clear hs hat k hgd
  obtain ⟨z, hz⟩ : ∃ z, (⟨#[UInt8.ofNat (97 + slotsN s)]⟩ : ByteArray) = z := ⟨_, rfl⟩
  have HZ := Lib.hid hz
  have hz1 : 0 < z.size := by rw [← hz, size_one]; omega
  have hz2 : z.size ≤ 1 := by rw [← hz, size_one]; omega
  clear hz
  have HEM : Hid (∀ (q : St × Bool) (p : Int) (z : ByteArray), q.1 = st → Fit c.length (empties st.sh) z → empties (giveP q p z).1.sh ≤ empties st.sh) := fun q p z hq hz => by have := (giveP_inv (q := q) (p := p) (s := z) (by rw [hq]; exact hI) (by rw [hq]; exact hz)).2; rwa [hq] at this
  have HR : Hid (stepAt c st i x = if (giveP (giveP (st, (false || !(y.op == 18))) ((i : Int) + 1) (s ++ ⟨#[118]⟩)) x.a z).2 = true then none else some (giveP (giveP (st, (false || !(y.op == 18))) ((i : Int) + 1) (s ++ ⟨#[118]⟩)) x.a z).1) := by
    show _ = _
    have ha : after x (st.at_ i) = if true = true then some ((s ++ ⟨#[118]⟩), z) else none := by rw [HS.out]; simp only [after, K_.out]; rw [HZ.out]; rfl
    have := step_q (nx' := (s ++ ⟨#[118]⟩)) (lb' := z) HBK.out ha (fun _ => rfl) (fun _ => rfl)
    simp only [Bool.not_true, Bool.or_false] at this
    exact this
  rw [HAN.out] at HR
  have FN : Fit c.length (empties st.sh) (s ++ ⟨#[118]⟩) := (fit_app HG.out hle _)
  have FL : Fit c.length (empties st.sh) z := (fit_self (by rw [← HZ.out]; exact good_create HG.out) (by omega))
  have HI2 : Inv c.length (giveP (giveP (st, (false || !(y.op == 18))) ((i : Int) + 1) (s ++ ⟨#[118]⟩)) (an : Int) z).1 := (giveP_inv (giveP_inv (q := (st, (false || !(y.op == 18)))) hI FN).1 (Fit.less FL (HEM.out (st, (false || !(y.op == 18))) _ _ rfl FN))).1
  go_enter Tryz.func52, Tryz.ntmps52
  go_upto_region 2 with (fail)
  have h1 := vb.more #[.int .i64 27, .int .i64 (an : Int), .int .i64 x.b, .int .i64 x.line, .string x.text] 79
  have hcd1 := hcode.alloc (Nat.le_trans hhi vb.rows.bel.size) (.cells #[.int .i64 27, .int .i64 (an : Int), .int .i64 x.b, .int .i64 x.line, .string x.text] 79)
  obtain ⟨bx, hbx⟩ : ∃ bx, wr.heap.size = bx := ⟨_, rfl⟩
  rw [hbx] at h1 ⊢
  generalize wr.alloc (.cells #[.int .i64 27, .int .i64 (an : Int), .int .i64 x.b, .int .i64 x.line, .string x.text] 79) = w1 at h1 hcd1 ⊢
  clear y0
  obtain ⟨g_, off_, hA_, -, -, -, -, y0, -⟩ := InsT.at_ hcd1 hy
  injection hA_ with hA_; injection hA_ with hA1 hA2; subst hA1 hA2
  have HY := Lib.hid hy
  clear hy
  clear ca la qs q0 q1 q2 q3 q4 hcode hbx vb
  have cx := h1.one.cell
  have lx := h1.one.lt
  have ca := h1.box.cell
  have la := h1.box.lt
  go_wp2_with fail
  refine (impl_isLabel 27 _).mono ?_; rw [show jumpB 27 = true from rfl]; rintro e w2 ⟨rfl, rfl⟩
  go_wp2_with fail
  go_still_tail 12, (by kernel_rfl)
  change wpList _ _ _ _ _ w1.drew
  have h1d := h1.same (Same.refl w1).drew
  generalize w1.drew = w1d at h1d ⊢
  go_wp2_with fail
  have hG := impl_need h1d (y.op == 18)
  refine hG.mono ?_; clear hG; rintro e w2 ⟨rfl, sv2, tv2, h2⟩
  dsimp only at h2
  clear cx lx
  have cx := h2.one.cell
  have lx := h2.one.lt
  go_wp2_with fail
  have hG := impl_give h2 hI (by omega) hbig ((i : Int) + 1) (s ++ ⟨#[118]⟩) (by rw [ByteArray.size_append]; omega)
  refine hG.mono ?_; clear hG; rintro e w3 ⟨rfl, sv3, tv3, h3⟩
  clear cx lx
  have cx := h3.one.cell
  have lx := h3.one.lt
  go_wp2_with fail
  have hsl := slots_le HG.out
  have HSL := Lib.hid (fun w => impl_slotsOf s w HG.out)
  have g1 : IntKind.u8.wrap (slotsN s : Int) = (slotsN s : Int) := wrap8 _ (by omega) (by omega)
  have g2 : IntKind.u8.wrap (97 + (slotsN s : Int)) = 97 + (slotsN s : Int) := wrap8 _ (by omega) (by omega)
  have hcv : (convert 77 9 (.slice (some ⟨w3.heap.size, 0, none⟩) 1 1)).run Tryz.prog (w3.alloc (.cells #[.int .u8 (97 + (slotsN s : Int))] 5)).drew = .ok (.string z) (w3.alloc (.cells #[.int .u8 (97 + (slotsN s : Int))] 5)).drew := by
    have := run_convert_byte1 (P := Tryz.prog) 77 9 5 Tryz.underlying77 Tryz.underlying5 Tryz.underlying9 w3.drew (97 + (slotsN s : Int)) 1 5
    rw [show (97 + (slotsN s : Int)).toNat = 97 + slotsN s by omega, HZ.out] at this
    exact this
  have hd := (h3.alloc (.cells #[.int .u8 (97 + (slotsN s : Int))] 5)).same (Same.refl _).drew
  have HIN : Inv c.length (giveP (st, false || !(y.op == 18)) ((i : Int) + 1) (s ++ ⟨#[118]⟩)).1 := (giveP_inv (q := (st, false || !(y.op == 18))) (p := ((i : Int) + 1)) (s := (s ++ ⟨#[118]⟩)) hI FN).1
  have hn0 : 0 < c.length := by omega
  go_region_with (first
      | (go_at_call 93; refine (HSL.out _).mono ?_; rintro e wS ⟨rfl, rfl⟩)
      | (go_at_call 51; have hG := impl_give hd HIN hn0 hbig (an : Int) z hz1; refine hG.mono ?_; clear hG; rintro e w4 ⟨rfl, sv4, tv4, h4⟩))
  all_goals
    go_wp2_with fail
    go_end0
    refine ⟨rfl, (giveP (giveP (st, false || !(y.op == 18)) ((i : Int) + 1) (s ++ ⟨#[118]⟩)) (an : Int) z), ?_⟩
    refine ⟨?_, ?_, ?_⟩
    · exact ⟨_, _, h4.less⟩
    · exact HI2
    · exact HR.out
end Go.Proofs.YtekobbeoaalibaaGreatDoor
end

section
namespace Go.Proofs.YtekobbeoaalibaaGreatDoor
open Go.RowKit
set_option linter.unusedVariables false

theorem impl_visit {w0 wr : World} {b : Nat} {v0 v1 v2 v3 : Value} {Ai : Option Addr} {ni : Nat} {c : List InsT} {st : St} {i : Nat} {x : InsT} {sv tv : Value} {lo hi : Nat} (h : VisIn w0 wr b v0 v1 v2 v3 Ai ni c st i x sv tv lo hi) :
    Calls Tryz.prog 52 #[.pointer (some ⟨b, 0, none⟩), .int .i64 i] wr (VisPost w0 c.length b v0 v1 v2 v3 Ai ni (stepAt c st i x)) := by
  obtain ⟨h1, h30⟩ := h.ok.op
  have hop : x.op = 1 ∨ x.op = 2 ∨ x.op = 3 ∨ x.op = 4 ∨ x.op = 5 ∨ x.op = 6 ∨ x.op = 7 ∨ x.op = 8 ∨ x.op = 9 ∨ x.op = 10 ∨ x.op = 11 ∨ x.op = 12 ∨ x.op = 13 ∨ x.op = 14 ∨ x.op = 15 ∨ x.op = 16 ∨ x.op = 17 ∨ x.op = 18 ∨ x.op = 19 ∨ x.op = 20 ∨ x.op = 21 ∨ x.op = 22 ∨ x.op = 23 ∨ x.op = 24 ∨ x.op = 25 ∨ x.op = 26 ∨ x.op = 27 ∨ x.op = 28 ∨ x.op = 29 ∨ x.op = 30 := by omega
  rcases hop with k | k | k | k | k | k | k | k | k | k | k | k | k | k | k | k | k | k | k | k | k | k | k | k | k | k | k | k | k | k
  · exact visit_1 h k
  · exact visit_2 h k
  · exact visit_3 h k
  · exact visit_4 h k
  · exact visit_5 h k
  · exact visit_6 h k
  · exact visit_7 h k
  · exact visit_8 h k
  · exact visit_9 h k
  · exact visit_10 h k
  · exact visit_11 h k
  · exact visit_12 h k
  · by_cases ha : x.a = -1
    · exact visit_13m h k ha
    · have hl := h.ok.lab (by rw [k]; decide)
      by_cases hf : (i : Int) < x.a
      · exact visit_13f h k hf
      · exact visit_13b h k (by omega) (by omega)
  · exact visit_14 h k
  · have hl := h.ok.lab (by rw [k]; decide)
    by_cases hf : (i : Int) < x.a
    · exact visit_15f h k hf
    · exact visit_15b h k (by omega) (by omega)
  · exact visit_16 h k
  · have hl := h.ok.lab (by rw [k]; decide)
    by_cases hf : (i : Int) < x.a
    · exact visit_17f h k hf
    · exact visit_17b h k (by omega) (by omega)
  · exact visit_18 h k
  · have hl := h.ok.lab (by rw [k]; decide)
    by_cases hf : (i : Int) < x.a
    · exact visit_19f h k hf
    · exact visit_19b h k (by omega) (by omega)
  · exact visit_20 h k
  · exact visit_21 h k
  · exact visit_22 h k
  · exact visit_23 h k
  · exact visit_24 h k
  · exact visit_25 h k
  · exact visit_26 h k
  · have hl := h.ok.lab (by rw [k]; decide)
    by_cases hf : (i : Int) < x.a
    · exact visit_27f h k hf
    · exact visit_27b h k (by omega) (by omega)
  · exact visit_28 h k
  · exact visit_29 h k
  · exact visit_30 h k
end Go.Proofs.YtekobbeoaalibaaGreatDoor
end
