/- (*verifier).visit of the program, operation by operation. -/
import Derived.Test.YtekobbeoaalibaaGreatDoorVisitDefs
namespace Go.Proofs.YtekobbeoaalibaaGreatDoor
open Go.RowKit
set_option linter.unusedVariables false

set_option maxRecDepth 100000 in
set_option maxHeartbeats 2000000 in
theorem visit_12 {w0 wr : World} {b : Nat} {v0 v1 v2 v3 : Value} {Ai : Option Addr} {ni : Nat} {c : List InsT} {st : St} {i : Nat} {x : InsT} {sv tv : Value} {lo hi : Nat} (h : VisIn w0 wr b v0 v1 v2 v3 Ai ni c st i x sv tv lo hi) (k : x.op = 12) :
    Calls Tryz.prog 52 #[.pointer (some ⟨b, 0, none⟩), .int .i64 i] wr (VisPost w0 c.length b v0 v1 v2 v3 Ai ni (stepAt c st i x)) := by
  obtain ⟨vb, hI, hcode, hhi, hbig, hat, hsz, hok⟩ := h
  have hlt : i < c.length := (List.getElem?_eq_some_iff.1 hat).1
  obtain ⟨hgd, hle⟩ := hI.good _ (at_mem hsz) hsz
  obtain ⟨gs, caps, rfl, hgs1, hgs2, hcs1, hcs2⟩ := vb.rows.form (by omega)
  have qs := vb.rows.cell hlt
  obtain ⟨s, hs⟩ : ∃ s, st.at_ i = s := ⟨_, rfl⟩
  rw [hs] at qs hsz hgd hle
  obtain ⟨g, off, hA, hg1, hg2, -, -, q0, q1, q2, q3, q4⟩ := InsT.at_ hcode hat
  subst hA
  rw [k] at q0
  obtain ⟨hb0, hb9⟩ := hok.arg (by omega)
  obtain ⟨bn, hbn⟩ : ∃ bn : Nat, x.b = bn := ⟨x.b.toNat, by omega⟩
  have hb9 : bn ≤ 9 := by omega
  have HBN := Lib.hid hbn
  rw [hbn] at q2
  clear hb0 hbn
  have HBK : Hid (backB c i x = false) := back_no (by rw [k]; rfl)
  unfold maxLen at hcs2
  have ca := vb.box.cell
  have la := vb.box.lt
  have HS := Lib.hid hs
  have HAT := Lib.hid hat
  have K_ := Lib.hid k
  have HG := Lib.hid hgd
  clear hs hat k hgd
  have HEM : Hid (∀ (q : St × Bool) (p : Int) (z : ByteArray), q.1 = st → Fit c.length (empties st.sh) z → empties (giveP q p z).1.sh ≤ empties st.sh) := fun q p z hq hz => by have := (giveP_inv (q := q) (p := p) (s := z) (by rw [hq]; exact hI) (by rw [hq]; exact hz)).2; rwa [hq] at this
  have HR : Hid (stepAt c st i x = if (giveP (st, false || !(endsB s (vees bn))) ((i : Int) + 1) (cutE s (vees bn) ++ ⟨#[118]⟩)).2 = true then none else some (giveP (st, false || !(endsB s (vees bn))) ((i : Int) + 1) (cutE s (vees bn) ++ ⟨#[118]⟩)).1) := by
    show _ = _
    have ha : after x (st.at_ i) = if (endsB s (vees bn)) = true then some (cutN s bn ++ ⟨#[118]⟩, ⟨#[]⟩) else none := by rw [HS.out]; simp only [after, K_.out, HBN.out]; rfl
    have := step_q (nx' := (cutE s (vees bn) ++ ⟨#[118]⟩)) (lb' := ⟨#[]⟩) HBK.out ha (fun e => by rw [cutE_yes (by first | exact e | exact ((Bool.and_eq_true _ _).mp e).2)]; rw [vees_size]) (fun _ => rfl)
    rw [giveP_nil] at this
    exact this
  have hcz := cutE_size s (vees bn) hsz
  have FN : Fit c.length (empties st.sh) (cutE s (vees bn) ++ ⟨#[118]⟩) := (fit_app (cutE_good HG.out) (by have := hcz.2; omega) _)
  go_enter Tryz.func52, Tryz.ntmps52
  go_upto_region 2 with (fail)
  have h1 := vb.more #[.int .i64 12, .int .i64 x.a, .int .i64 (bn : Int), .int .i64 x.line, .string x.text] 79
  have hcd1 := hcode.alloc (Nat.le_trans hhi vb.rows.bel.size) (.cells #[.int .i64 12, .int .i64 x.a, .int .i64 (bn : Int), .int .i64 x.line, .string x.text] 79)
  obtain ⟨bx, hbx⟩ : ∃ bx, wr.heap.size = bx := ⟨_, rfl⟩
  rw [hbx] at h1 ⊢
  generalize wr.alloc (.cells #[.int .i64 12, .int .i64 x.a, .int .i64 (bn : Int), .int .i64 x.line, .string x.text] 79) = w1 at h1 hcd1 ⊢
  clear ca la qs q0 q1 q2 q3 q4 hcode hbx vb
  have cx := h1.one.cell
  have lx := h1.one.lt
  go_wp2_with fail
  refine (impl_isLabel 12 _).mono ?_; rw [show jumpB 12 = false from rfl]; rintro e w2 ⟨rfl, rfl⟩
  go_wp2_with fail
  refine (Tryz.strings_Repeat ⟨#[118]⟩ bn _ (by omega) (by rw [size_one]; omega)).mono ?_; rw [show (⟨(Lib.repeatL (⟨#[118]⟩ : ByteArray).data.toList bn).toArray⟩ : ByteArray) = vees bn from rfl]; rintro e w9 ⟨rfl, hb9⟩
  have h9 := h1.later hb9
  clear cx lx
  have cx := h9.one.cell
  have lx := h9.one.lt
  go_wp2_with fail
  have hG := impl_cutEnd h9 s (vees bn) hsz (by omega)
  refine hG.mono ?_; clear hG; rintro e w10 ⟨rfl, sv10, tv10, h10⟩
  dsimp only at h10
  clear cx lx
  have cx := h10.one.cell
  have lx := h10.one.lt
  go_wp2_with fail
  have hG := impl_give h10 hI (by omega) hbig ((i : Int) + 1) (cutE s (vees bn) ++ ⟨#[118]⟩) (by rw [ByteArray.size_append]; omega)
  refine hG.mono ?_; clear hG; rintro e w11 ⟨rfl, sv11, tv11, h11⟩
  clear cx lx
  have cx := h11.one.cell
  have lx := h11.one.lt
  go_wp2_with fail
  go_end0
  refine ⟨rfl, (giveP (st, false || !endsB s (vees bn)) ((i : Int) + 1) (cutE s (vees bn) ++ ⟨#[118]⟩)), ?_⟩
  refine ⟨?_, ?_, ?_⟩
  · exact ⟨_, _, h11.less⟩
  · exact (giveP_inv (q := (st, false || !endsB s (vees bn))) (p := ((i : Int) + 1)) (s := (cutE s (vees bn) ++ ⟨#[118]⟩)) hI FN).1
  · exact HR.out
set_option maxRecDepth 100000 in
set_option maxHeartbeats 2000000 in
theorem visit_14 {w0 wr : World} {b : Nat} {v0 v1 v2 v3 : Value} {Ai : Option Addr} {ni : Nat} {c : List InsT} {st : St} {i : Nat} {x : InsT} {sv tv : Value} {lo hi : Nat} (h : VisIn w0 wr b v0 v1 v2 v3 Ai ni c st i x sv tv lo hi) (k : x.op = 14) :
    Calls Tryz.prog 52 #[.pointer (some ⟨b, 0, none⟩), .int .i64 i] wr (VisPost w0 c.length b v0 v1 v2 v3 Ai ni (stepAt c st i x)) := by
  obtain ⟨vb, hI, hcode, hhi, hbig, hat, hsz, hok⟩ := h
  have hlt : i < c.length := (List.getElem?_eq_some_iff.1 hat).1
  obtain ⟨hgd, hle⟩ := hI.good _ (at_mem hsz) hsz
  obtain ⟨gs, caps, rfl, hgs1, hgs2, hcs1, hcs2⟩ := vb.rows.form (by omega)
  have qs := vb.rows.cell hlt
  obtain ⟨s, hs⟩ : ∃ s, st.at_ i = s := ⟨_, rfl⟩
  rw [hs] at qs hsz hgd hle
  obtain ⟨g, off, hA, hg1, hg2, -, -, q0, q1, q2, q3, q4⟩ := InsT.at_ hcode hat
  subst hA
  rw [k] at q0
  have HBK : Hid (backB c i x = false) := back_no (by rw [k]; rfl)
  unfold maxLen at hcs2
  have ca := vb.box.cell
  have la := vb.box.lt
  have HS := Lib.hid hs
  have HAT := Lib.hid hat
  have K_ := Lib.hid k
  have HG := Lib.hid hgd
  clear hs hat k hgd
  have HEM : Hid (∀ (q : St × Bool) (p : Int) (z : ByteArray), q.1 = st → Fit c.length (empties st.sh) z → empties (giveP q p z).1.sh ≤ empties st.sh) := fun q p z hq hz => by have := (giveP_inv (q := q) (p := p) (s := z) (by rw [hq]; exact hI) (by rw [hq]; exact hz)).2; rwa [hq] at this
  have hml := mark_lt s
  by_cases hm : markI s < 0
  · have HR : Hid (stepAt c st i x = if ((st, true) : St × Bool).2 = true then none else some ((st, true) : St × Bool).1) := by
      show _ = _
      have ha : after x s = none := by simp only [after, K_.out]; exact if_pos hm
      unfold stepAt; rw [HBK.out, if_neg (by decide), HS.out, ha]; rfl
    go_enter Tryz.func52, Tryz.ntmps52
    go_upto_region 2 with (fail)
    have h1 := vb.more #[.int .i64 14, .int .i64 x.a, .int .i64 x.b, .int .i64 x.line, .string x.text] 79
    have hcd1 := hcode.alloc (Nat.le_trans hhi vb.rows.bel.size) (.cells #[.int .i64 14, .int .i64 x.a, .int .i64 x.b, .int .i64 x.line, .string x.text] 79)
    obtain ⟨bx, hbx⟩ : ∃ bx, wr.heap.size = bx := ⟨_, rfl⟩
    rw [hbx] at h1 ⊢
    generalize wr.alloc (.cells #[.int .i64 14, .int .i64 x.a, .int .i64 x.b, .int .i64 x.line, .string x.text] 79) = w1 at h1 hcd1 ⊢
    clear ca la qs q0 q1 q2 q3 q4 hcode hbx vb
    have cx := h1.one.cell
    have lx := h1.one.lt
    go_wp2_with fail
    refine (impl_isLabel 14 _).mono ?_; rw [show jumpB 14 = false from rfl]; rintro e w2 ⟨rfl, rfl⟩
    go_wp2_with fail
    refine (Tryz.strings_LastIndexByte _ 109 (by simp; omega) _).mono ?_; rw [show Lib.lastIndexByte (s.extract 1 s.size) 109 = markI s from rfl]; rintro e w3 ⟨rfl, rfl⟩
    have ca := h1.box.cell
    have la := h1.box.lt
    have cf := h1.box.frozen
    go_wp2_with fail
    go_end0
    exact ⟨rfl, (st, true), ⟨_, _, h1.bad.less⟩, hI, HR.out⟩
  · obtain ⟨mk, hmk⟩ : ∃ mk : Nat, markI s = mk := ⟨(markI s).toNat, by omega⟩
    have HMK := Lib.hid hmk
    have hm1 : 1 + mk < s.size := by have := hml.2 (by omega); omega
    have HR : Hid (stepAt c st i x = if (giveP (st, false) ((i : Int) + 1) (s.extract 0 (1 + mk))).2 = true then none else some (giveP (st, false) ((i : Int) + 1) (s.extract 0 (1 + mk))).1) := by
      show _ = _
      have ha : after x (st.at_ i) = if true = true then some (s.extract 0 (1 + mk), ⟨#[]⟩) else none := by rw [HS.out]; simp only [after, K_.out]; rw [hmk]; exact if_neg (by omega)
      have := step_q (lb' := ⟨#[]⟩) HBK.out ha (fun _ => rfl) (fun _ => rfl)
      rwa [giveP_nil] at this
    have FN : Fit c.length (empties st.sh) (s.extract 0 (1 + mk)) := fit_self (good_extract _ _ HG.out (by omega)) (by simp only [ByteArray.size_extract]; omega)
    clear hmk hm hml
    go_enter Tryz.func52, Tryz.ntmps52
    go_upto_region 2 with (fail)
    have h1 := vb.more #[.int .i64 14, .int .i64 x.a, .int .i64 x.b, .int .i64 x.line, .string x.text] 79
    have hcd1 := hcode.alloc (Nat.le_trans hhi vb.rows.bel.size) (.cells #[.int .i64 14, .int .i64 x.a, .int .i64 x.b, .int .i64 x.line, .string x.text] 79)
    obtain ⟨bx, hbx⟩ : ∃ bx, wr.heap.size = bx := ⟨_, rfl⟩
    rw [hbx] at h1 ⊢
    generalize wr.alloc (.cells #[.int .i64 14, .int .i64 x.a, .int .i64 x.b, .int .i64 x.line, .string x.text] 79) = w1 at h1 hcd1 ⊢
    clear ca la qs q0 q1 q2 q3 q4 hcode hbx vb
    have cx := h1.one.cell
    have lx := h1.one.lt
    go_wp2_with fail
    refine (impl_isLabel 14 _).mono ?_; rw [show jumpB 14 = false from rfl]; rintro e w2 ⟨rfl, rfl⟩
    go_wp2_with fail
    refine (Tryz.strings_LastIndexByte _ 109 (by simp; omega) _).mono ?_; rw [show Lib.lastIndexByte (s.extract 1 s.size) 109 = markI s from rfl, HMK.out]; rintro e w3 ⟨rfl, rfl⟩
    go_wp2_with fail
    have hG := impl_give h1 hI (by omega) hbig ((i : Int) + 1) (s.extract 0 (1 + mk)) (by simp only [ByteArray.size_extract]; omega)
    refine hG.mono ?_; clear hG; rintro e w2 ⟨rfl, sv2, tv2, h2⟩
    clear cx lx
    have cx := h2.one.cell
    have lx := h2.one.lt
    go_wp2_with fail
    go_end0
    exact ⟨rfl, (giveP (st, false) ((i : Int) + 1) (s.extract 0 (1 + mk))), ⟨_, _, h2.less⟩, (giveP_inv (q := (st, false)) (p := (i : Int) + 1) (s := s.extract 0 (1 + mk)) hI FN).1, HR.out⟩
set_option maxRecDepth 100000 in
set_option maxHeartbeats 2000000 in
theorem visit_20 {w0 wr : World} {b : Nat} {v0 v1 v2 v3 : Value} {Ai : Option Addr} {ni : Nat} {c : List InsT} {st : St} {i : Nat} {x : InsT} {sv tv : Value} {lo hi : Nat} (h : VisIn w0 wr b v0 v1 v2 v3 Ai ni c st i x sv tv lo hi) (k : x.op = 20) :
    Calls Tryz.prog 52 #[.pointer (some ⟨b, 0, none⟩), .int .i64 i] wr (VisPost w0 c.length b v0 v1 v2 v3 Ai ni (stepAt c st i x)) := by
  obtain ⟨vb, hI, hcode, hhi, hbig, hat, hsz, hok⟩ := h
  have hlt : i < c.length := (List.getElem?_eq_some_iff.1 hat).1
  obtain ⟨hgd, hle⟩ := hI.good _ (at_mem hsz) hsz
  obtain ⟨gs, caps, rfl, hgs1, hgs2, hcs1, hcs2⟩ := vb.rows.form (by omega)
  have qs := vb.rows.cell hlt
  obtain ⟨s, hs⟩ : ∃ s, st.at_ i = s := ⟨_, rfl⟩
  rw [hs] at qs hsz hgd hle
  obtain ⟨g, off, hA, hg1, hg2, -, -, q0, q1, q2, q3, q4⟩ := InsT.at_ hcode hat
  subst hA
  rw [k] at q0
  have HBK : Hid (backB c i x = false) := back_no (by rw [k]; rfl)
  unfold maxLen at hcs2
  have ca := vb.box.cell
  have la := vb.box.lt
  have HS := Lib.hid hs
  have HAT := Lib.hid hat
  have K_ := Lib.hid k
  have HG := Lib.hid hgd
  clear hs hat k hgd
  have HEM : Hid (∀ (q : St × Bool) (p : Int) (z : ByteArray), q.1 = st → Fit c.length (empties st.sh) z → empties (giveP q p z).1.sh ≤ empties st.sh) := fun q p z hq hz => by have := (giveP_inv (q := q) (p := p) (s := z) (by rw [hq]; exact hI) (by rw [hq]; exact hz)).2; rwa [hq] at this
  have HR : Hid (stepAt c st i x = if (giveP (st, false || !(endsB s ⟨#[118]⟩)) ((i : Int) + 1) (cutE s ⟨#[118]⟩ ++ ⟨#[109]⟩)).2 = true then none else some (giveP (st, false || !(endsB s ⟨#[118]⟩)) ((i : Int) + 1) (cutE s ⟨#[118]⟩ ++ ⟨#[109]⟩)).1) := by
    show _ = _
    have ha : after x (st.at_ i) = if (endsB s ⟨#[118]⟩) = true then some (cutN s 1 ++ ⟨#[109]⟩, ⟨#[]⟩) else none := by rw [HS.out]; simp only [after, K_.out]; rfl
    have := step_q (nx' := (cutE s ⟨#[118]⟩ ++ ⟨#[109]⟩)) (lb' := ⟨#[]⟩) HBK.out ha (fun e => by rw [cutE_yes (by first | exact e | exact ((Bool.and_eq_true _ _).mp e).2)]; try rfl) (fun _ => rfl)
    rw [giveP_nil] at this
    exact this
  have hcz := cutE_size s ⟨#[118]⟩ hsz
  have FN : Fit c.length (empties st.sh) (cutE s ⟨#[118]⟩ ++ ⟨#[109]⟩) := (fit_app (cutE_good HG.out) (by have := hcz.2; omega) _)
  go_enter Tryz.func52, Tryz.ntmps52
  go_upto_region 2 with (fail)
  have h1 := vb.more #[.int .i64 20, .int .i64 x.a, .int .i64 x.b, .int .i64 x.line, .string x.text] 79
  have hcd1 := hcode.alloc (Nat.le_trans hhi vb.rows.bel.size) (.cells #[.int .i64 20, .int .i64 x.a, .int .i64 x.b, .int .i64 x.line, .string x.text] 79)
  obtain ⟨bx, hbx⟩ : ∃ bx, wr.heap.size = bx := ⟨_, rfl⟩
  rw [hbx] at h1 ⊢
  generalize wr.alloc (.cells #[.int .i64 20, .int .i64 x.a, .int .i64 x.b, .int .i64 x.line, .string x.text] 79) = w1 at h1 hcd1 ⊢
  clear ca la qs q0 q1 q2 q3 q4 hcode hbx vb
  have cx := h1.one.cell
  have lx := h1.one.lt
  go_wp2_with fail
  refine (impl_isLabel 20 _).mono ?_; rw [show jumpB 20 = false from rfl]; rintro e w2 ⟨rfl, rfl⟩
  go_wp2_with fail
  have hG := impl_cutEnd h1 s ⟨#[118]⟩ hsz (by omega)
  refine hG.mono ?_; clear hG; rintro e w2 ⟨rfl, sv2, tv2, h2⟩
  dsimp only at h2
  clear cx lx
  have cx := h2.one.cell
  have lx := h2.one.lt
  go_wp2_with fail
  have hG := impl_give h2 hI (by omega) hbig ((i : Int) + 1) (cutE s ⟨#[118]⟩ ++ ⟨#[109]⟩) (by rw [ByteArray.size_append]; omega)
  refine hG.mono ?_; clear hG; rintro e w3 ⟨rfl, sv3, tv3, h3⟩
  clear cx lx
  have cx := h3.one.cell
  have lx := h3.one.lt
  go_wp2_with fail
  go_end0
  refine ⟨rfl, (giveP (st, false || !endsB s ⟨#[118]⟩) ((i : Int) + 1) (cutE s ⟨#[118]⟩ ++ ⟨#[109]⟩)), ?_⟩
  refine ⟨?_, ?_, ?_⟩
  · exact ⟨_, _, h3.less⟩
  · exact (giveP_inv (q := (st, false || !endsB s ⟨#[118]⟩)) (p := ((i : Int) + 1)) (s := (cutE s ⟨#[118]⟩ ++ ⟨#[109]⟩)) hI FN).1
  · exact HR.out
set_option maxRecDepth 100000 in
set_option maxHeartbeats 2000000 in
theorem visit_21 {w0 wr : World} {b : Nat} {v0 v1 v2 v3 : Value} {Ai : Option Addr} {ni : Nat} {c : List InsT} {st : St} {i : Nat} {x : InsT} {sv tv : Value} {lo hi : Nat} (h : VisIn w0 wr b v0 v1 v2 v3 Ai ni c st i x sv tv lo hi) (k : x.op = 21) :
    Calls Tryz.prog 52 #[.pointer (some ⟨b, 0, none⟩), .int .i64 i] wr (VisPost w0 c.length b v0 v1 v2 v3 Ai ni (stepAt c st i x)) := by
  obtain ⟨vb, hI, hcode, hhi, hbig, hat, hsz, hok⟩ := h
  have hlt : i < c.length := (List.getElem?_eq_some_iff.1 hat).1
  obtain ⟨hgd, hle⟩ := hI.good _ (at_mem hsz) hsz
  obtain ⟨gs, caps, rfl, hgs1, hgs2, hcs1, hcs2⟩ := vb.rows.form (by omega)
  have qs := vb.rows.cell hlt
  obtain ⟨s, hs⟩ : ∃ s, st.at_ i = s := ⟨_, rfl⟩
  rw [hs] at qs hsz hgd hle
  obtain ⟨g, off, hA, hg1, hg2, -, -, q0, q1, q2, q3, q4⟩ := InsT.at_ hcode hat
  subst hA
  rw [k] at q0
  have HBK : Hid (backB c i x = false) := back_no (by rw [k]; rfl)
  unfold maxLen at hcs2
  have ca := vb.box.cell
  have la := vb.box.lt
  have HS := Lib.hid hs
  have HAT := Lib.hid hat
  have K_ := Lib.hid k
  have HG := Lib.hid hgd
  clear hs hat k hgd
  have HEM : Hid (∀ (q : St × Bool) (p : Int) (z : ByteArray), q.1 = st → Fit c.length (empties st.sh) z → empties (giveP q p z).1.sh ≤ empties st.sh) := fun q p z hq hz => by have := (giveP_inv (q := q) (p := p) (s := z) (by rw [hq]; exact hI) (by rw [hq]; exact hz)).2; rwa [hq] at this
  have HR : Hid (stepAt c st i x = if (giveP (st, false || !(endsB s ⟨#[109, 118]⟩)) ((i : Int) + 1) (cutE s ⟨#[109, 118]⟩ ++ ⟨#[118]⟩)).2 = true then none else some (giveP (st, false || !(endsB s ⟨#[109, 118]⟩)) ((i : Int) + 1) (cutE s ⟨#[109, 118]⟩ ++ ⟨#[118]⟩)).1) := by
    show _ = _
    have ha : after x (st.at_ i) = if (endsB s ⟨#[109, 118]⟩) = true then some (cutN s 2 ++ ⟨#[118]⟩, ⟨#[]⟩) else none := by rw [HS.out]; simp only [after, K_.out]; rfl
    have := step_q (nx' := (cutE s ⟨#[109, 118]⟩ ++ ⟨#[118]⟩)) (lb' := ⟨#[]⟩) HBK.out ha (fun e => by rw [cutE_yes (by first | exact e | exact ((Bool.and_eq_true _ _).mp e).2)]; try rfl) (fun _ => rfl)
    rw [giveP_nil] at this
    exact this
  have hcz := cutE_size s ⟨#[109, 118]⟩ hsz
  have FN : Fit c.length (empties st.sh) (cutE s ⟨#[109, 118]⟩ ++ ⟨#[118]⟩) := (fit_app (cutE_good HG.out) (by have := hcz.2; omega) _)
  go_enter Tryz.func52, Tryz.ntmps52
  go_upto_region 2 with (fail)
  have h1 := vb.more #[.int .i64 21, .int .i64 x.a, .int .i64 x.b, .int .i64 x.line, .string x.text] 79
  have hcd1 := hcode.alloc (Nat.le_trans hhi vb.rows.bel.size) (.cells #[.int .i64 21, .int .i64 x.a, .int .i64 x.b, .int .i64 x.line, .string x.text] 79)
  obtain ⟨bx, hbx⟩ : ∃ bx, wr.heap.size = bx := ⟨_, rfl⟩
  rw [hbx] at h1 ⊢
  generalize wr.alloc (.cells #[.int .i64 21, .int .i64 x.a, .int .i64 x.b, .int .i64 x.line, .string x.text] 79) = w1 at h1 hcd1 ⊢
  clear ca la qs q0 q1 q2 q3 q4 hcode hbx vb
  have cx := h1.one.cell
  have lx := h1.one.lt
  go_wp2_with fail
  refine (impl_isLabel 21 _).mono ?_; rw [show jumpB 21 = false from rfl]; rintro e w2 ⟨rfl, rfl⟩
  go_wp2_with fail
  have hG := impl_cutEnd h1 s ⟨#[109, 118]⟩ hsz (by omega)
  refine hG.mono ?_; clear hG; rintro e w2 ⟨rfl, sv2, tv2, h2⟩
  dsimp only at h2
  clear cx lx
  have cx := h2.one.cell
  have lx := h2.one.lt
  go_wp2_with fail
  have hG := impl_give h2 hI (by omega) hbig ((i : Int) + 1) (cutE s ⟨#[109, 118]⟩ ++ ⟨#[118]⟩) (by rw [ByteArray.size_append]; omega)
  refine hG.mono ?_; clear hG; rintro e w3 ⟨rfl, sv3, tv3, h3⟩
  clear cx lx
  have cx := h3.one.cell
  have lx := h3.one.lt
  go_wp2_with fail
  go_end0
  refine ⟨rfl, (giveP (st, false || !endsB s ⟨#[109, 118]⟩) ((i : Int) + 1) (cutE s ⟨#[109, 118]⟩ ++ ⟨#[118]⟩)), ?_⟩
  refine ⟨?_, ?_, ?_⟩
  · exact ⟨_, _, h3.less⟩
  · exact (giveP_inv (q := (st, false || !endsB s ⟨#[109, 118]⟩)) (p := ((i : Int) + 1)) (s := (cutE s ⟨#[109, 118]⟩ ++ ⟨#[118]⟩)) hI FN).1
  · exact HR.out
set_option maxRecDepth 100000 in
set_option maxHeartbeats 2000000 in
theorem visit_22 {w0 wr : World} {b : Nat} {v0 v1 v2 v3 : Value} {Ai : Option Addr} {ni : Nat} {c : List InsT} {st : St} {i : Nat} {x : InsT} {sv tv : Value} {lo hi : Nat} (h : VisIn w0 wr b v0 v1 v2 v3 Ai ni c st i x sv tv lo hi) (k : x.op = 22) :
    Calls Tryz.prog 52 #[.pointer (some ⟨b, 0, none⟩), .int .i64 i] wr (VisPost w0 c.length b v0 v1 v2 v3 Ai ni (stepAt c st i x)) := by
  obtain ⟨vb, hI, hcode, hhi, hbig, hat, hsz, hok⟩ := h
  have hlt : i < c.length := (List.getElem?_eq_some_iff.1 hat).1
  obtain ⟨hgd, hle⟩ := hI.good _ (at_mem hsz) hsz
  obtain ⟨gs, caps, rfl, hgs1, hgs2, hcs1, hcs2⟩ := vb.rows.form (by omega)
  have qs := vb.rows.cell hlt
  obtain ⟨s, hs⟩ : ∃ s, st.at_ i = s := ⟨_, rfl⟩
  rw [hs] at qs hsz hgd hle
  obtain ⟨g, off, hA, hg1, hg2, -, -, q0, q1, q2, q3, q4⟩ := InsT.at_ hcode hat
  subst hA
  rw [k] at q0
  have HBK : Hid (backB c i x = false) := back_no (by rw [k]; rfl)
  unfold maxLen at hcs2
  have ca := vb.box.cell
  have la := vb.box.lt
  have HS := Lib.hid hs
  have HAT := Lib.hid hat
  have K_ := Lib.hid k
  have HG := Lib.hid hgd
  clear hs hat k hgd
  have HEM : Hid (∀ (q : St × Bool) (p : Int) (z : ByteArray), q.1 = st → Fit c.length (empties st.sh) z → empties (giveP q p z).1.sh ≤ empties st.sh) := fun q p z hq hz => by have := (giveP_inv (q := q) (p := p) (s := z) (by rw [hq]; exact hI) (by rw [hq]; exact hz)).2; rwa [hq] at this
  have HR : Hid (stepAt c st i x = if (giveP (st, false || !(endsB s ⟨#[118]⟩)) ((i : Int) + 1) (cutE s ⟨#[118]⟩ ++ ⟨#[115]⟩)).2 = true then none else some (giveP (st, false || !(endsB s ⟨#[118]⟩)) ((i : Int) + 1) (cutE s ⟨#[118]⟩ ++ ⟨#[115]⟩)).1) := by
    show _ = _
    have ha : after x (st.at_ i) = if (endsB s ⟨#[118]⟩) = true then some (cutN s 1 ++ ⟨#[115]⟩, ⟨#[]⟩) else none := by rw [HS.out]; simp only [after, K_.out]; rfl
    have := step_q (nx' := (cutE s ⟨#[118]⟩ ++ ⟨#[115]⟩)) (lb' := ⟨#[]⟩) HBK.out ha (fun e => by rw [cutE_yes (by first | exact e | exact ((Bool.and_eq_true _ _).mp e).2)]; try rfl) (fun _ => rfl)
    rw [giveP_nil] at this
    exact this
  have hcz := cutE_size s ⟨#[118]⟩ hsz
  have FN : Fit c.length (empties st.sh) (cutE s ⟨#[118]⟩ ++ ⟨#[115]⟩) := (fit_app (cutE_good HG.out) (by have := hcz.2; omega) _)
  go_enter Tryz.func52, Tryz.ntmps52
  go_upto_region 2 with (fail)
  have h1 := vb.more #[.int .i64 22, .int .i64 x.a, .int .i64 x.b, .int .i64 x.line, .string x.text] 79
  have hcd1 := hcode.alloc (Nat.le_trans hhi vb.rows.bel.size) (.cells #[.int .i64 22, .int .i64 x.a, .int .i64 x.b, .int .i64 x.line, .string x.text] 79)
  obtain ⟨bx, hbx⟩ : ∃ bx, wr.heap.size = bx := ⟨_, rfl⟩
  rw [hbx] at h1 ⊢
  generalize wr.alloc (.cells #[.int .i64 22, .int .i64 x.a, .int .i64 x.b, .int .i64 x.line, .string x.text] 79) = w1 at h1 hcd1 ⊢
  clear ca la qs q0 q1 q2 q3 q4 hcode hbx vb
  have cx := h1.one.cell
  have lx := h1.one.lt
  go_wp2_with fail
  refine (impl_isLabel 22 _).mono ?_; rw [show jumpB 22 = false from rfl]; rintro e w2 ⟨rfl, rfl⟩
  go_wp2_with fail
  have hG := impl_cutEnd h1 s ⟨#[118]⟩ hsz (by omega)
  refine hG.mono ?_; clear hG; rintro e w2 ⟨rfl, sv2, tv2, h2⟩
  dsimp only at h2
  clear cx lx
  have cx := h2.one.cell
  have lx := h2.one.lt
  go_wp2_with fail
  have hG := impl_give h2 hI (by omega) hbig ((i : Int) + 1) (cutE s ⟨#[118]⟩ ++ ⟨#[115]⟩) (by rw [ByteArray.size_append]; omega)
  refine hG.mono ?_; clear hG; rintro e w3 ⟨rfl, sv3, tv3, h3⟩
  clear cx lx
  have cx := h3.one.cell
  have lx := h3.one.lt
  go_wp2_with fail
  go_end0
  refine ⟨rfl, (giveP (st, false || !endsB s ⟨#[118]⟩) ((i : Int) + 1) (cutE s ⟨#[118]⟩ ++ ⟨#[115]⟩)), ?_⟩
  refine ⟨?_, ?_, ?_⟩
  · exact ⟨_, _, h3.less⟩
  · exact (giveP_inv (q := (st, false || !endsB s ⟨#[118]⟩)) (p := ((i : Int) + 1)) (s := (cutE s ⟨#[118]⟩ ++ ⟨#[115]⟩)) hI FN).1
  · exact HR.out
set_option maxRecDepth 100000 in
set_option maxHeartbeats 2000000 in
theorem visit_23 {w0 wr : World} {b : Nat} {v0 v1 v2 v3 : Value} {Ai : Option Addr} {ni : Nat} {c : List InsT} {st : St} {i : Nat} {x : InsT} {sv tv : Value} {lo hi : Nat} (h : VisIn w0 wr b v0 v1 v2 v3 Ai ni c st i x sv tv lo hi) (k : x.op = 23) :
    Calls Tryz.prog 52 #[.pointer (some ⟨b, 0, none⟩), .int .i64 i] wr (VisPost w0 c.length b v0 v1 v2 v3 Ai ni (stepAt c st i x)) := by
  obtain ⟨vb, hI, hcode, hhi, hbig, hat, hsz, hok⟩ := h
  have hlt : i < c.length := (List.getElem?_eq_some_iff.1 hat).1
  obtain ⟨hgd, hle⟩ := hI.good _ (at_mem hsz) hsz
  obtain ⟨gs, caps, rfl, hgs1, hgs2, hcs1, hcs2⟩ := vb.rows.form (by omega)
  have qs := vb.rows.cell hlt
  obtain ⟨s, hs⟩ : ∃ s, st.at_ i = s := ⟨_, rfl⟩
  rw [hs] at qs hsz hgd hle
  obtain ⟨g, off, hA, hg1, hg2, -, -, q0, q1, q2, q3, q4⟩ := InsT.at_ hcode hat
  subst hA
  rw [k] at q0
  have HBK : Hid (backB c i x = false) := back_no (by rw [k]; rfl)
  unfold maxLen at hcs2
  have ca := vb.box.cell
  have la := vb.box.lt
  have HS := Lib.hid hs
  have HAT := Lib.hid hat
  have K_ := Lib.hid k
  have HG := Lib.hid hgd
  clear hs hat k hgd
  have HEM : Hid (∀ (q : St × Bool) (p : Int) (z : ByteArray), q.1 = st → Fit c.length (empties st.sh) z → empties (giveP q p z).1.sh ≤ empties st.sh) := fun q p z hq hz => by have := (giveP_inv (q := q) (p := p) (s := z) (by rw [hq]; exact hI) (by rw [hq]; exact hz)).2; rwa [hq] at this
  have HR : Hid (stepAt c st i x = if (giveP (st, false || !(endsB s ⟨#[115, 118]⟩)) ((i : Int) + 1) (cutE s ⟨#[115, 118]⟩ ++ ⟨#[118]⟩)).2 = true then none else some (giveP (st, false || !(endsB s ⟨#[115, 118]⟩)) ((i : Int) + 1) (cutE s ⟨#[115, 118]⟩ ++ ⟨#[118]⟩)).1) := by
    show _ = _
    have ha : after x (st.at_ i) = if (endsB s ⟨#[115, 118]⟩) = true then some (cutN s 2 ++ ⟨#[118]⟩, ⟨#[]⟩) else none := by rw [HS.out]; simp only [after, K_.out]; rfl
    have := step_q (nx' := (cutE s ⟨#[115, 118]⟩ ++ ⟨#[118]⟩)) (lb' := ⟨#[]⟩) HBK.out ha (fun e => by rw [cutE_yes (by first | exact e | exact ((Bool.and_eq_true _ _).mp e).2)]; try rfl) (fun _ => rfl)
    rw [giveP_nil] at this
    exact this
  have hcz := cutE_size s ⟨#[115, 118]⟩ hsz
  have FN : Fit c.length (empties st.sh) (cutE s ⟨#[115, 118]⟩ ++ ⟨#[118]⟩) := (fit_app (cutE_good HG.out) (by have := hcz.2; omega) _)
  go_enter Tryz.func52, Tryz.ntmps52
  go_upto_region 2 with (fail)
  have h1 := vb.more #[.int .i64 23, .int .i64 x.a, .int .i64 x.b, .int .i64 x.line, .string x.text] 79
  have hcd1 := hcode.alloc (Nat.le_trans hhi vb.rows.bel.size) (.cells #[.int .i64 23, .int .i64 x.a, .int .i64 x.b, .int .i64 x.line, .string x.text] 79)
  obtain ⟨bx, hbx⟩ : ∃ bx, wr.heap.size = bx := ⟨_, rfl⟩
  rw [hbx] at h1 ⊢
  generalize wr.alloc (.cells #[.int .i64 23, .int .i64 x.a, .int .i64 x.b, .int .i64 x.line, .string x.text] 79) = w1 at h1 hcd1 ⊢
  clear ca la qs q0 q1 q2 q3 q4 hcode hbx vb
  have cx := h1.one.cell
  have lx := h1.one.lt
  go_wp2_with fail
  refine (impl_isLabel 23 _).mono ?_; rw [show jumpB 23 = false from rfl]; rintro e w2 ⟨rfl, rfl⟩
  go_wp2_with fail
  have hG := impl_cutEnd h1 s ⟨#[115, 118]⟩ hsz (by omega)
  refine hG.mono ?_; clear hG; rintro e w2 ⟨rfl, sv2, tv2, h2⟩
  dsimp only at h2
  clear cx lx
  have cx := h2.one.cell
  have lx := h2.one.lt
  go_wp2_with fail
  have hG := impl_give h2 hI (by omega) hbig ((i : Int) + 1) (cutE s ⟨#[115, 118]⟩ ++ ⟨#[118]⟩) (by rw [ByteArray.size_append]; omega)
  refine hG.mono ?_; clear hG; rintro e w3 ⟨rfl, sv3, tv3, h3⟩
  clear cx lx
  have cx := h3.one.cell
  have lx := h3.one.lt
  go_wp2_with fail
  go_end0
  refine ⟨rfl, (giveP (st, false || !endsB s ⟨#[115, 118]⟩) ((i : Int) + 1) (cutE s ⟨#[115, 118]⟩ ++ ⟨#[118]⟩)), ?_⟩
  refine ⟨?_, ?_, ?_⟩
  · exact ⟨_, _, h3.less⟩
  · exact (giveP_inv (q := (st, false || !endsB s ⟨#[115, 118]⟩)) (p := ((i : Int) + 1)) (s := (cutE s ⟨#[115, 118]⟩ ++ ⟨#[118]⟩)) hI FN).1
  · exact HR.out
set_option maxRecDepth 100000 in
set_option maxHeartbeats 2000000 in
theorem visit_24 {w0 wr : World} {b : Nat} {v0 v1 v2 v3 : Value} {Ai : Option Addr} {ni : Nat} {c : List InsT} {st : St} {i : Nat} {x : InsT} {sv tv : Value} {lo hi : Nat} (h : VisIn w0 wr b v0 v1 v2 v3 Ai ni c st i x sv tv lo hi) (k : x.op = 24) :
    Calls Tryz.prog 52 #[.pointer (some ⟨b, 0, none⟩), .int .i64 i] wr (VisPost w0 c.length b v0 v1 v2 v3 Ai ni (stepAt c st i x)) := by
  obtain ⟨vb, hI, hcode, hhi, hbig, hat, hsz, hok⟩ := h
  have hlt : i < c.length := (List.getElem?_eq_some_iff.1 hat).1
  obtain ⟨hgd, hle⟩ := hI.good _ (at_mem hsz) hsz
  obtain ⟨gs, caps, rfl, hgs1, hgs2, hcs1, hcs2⟩ := vb.rows.form (by omega)
  have qs := vb.rows.cell hlt
  obtain ⟨s, hs⟩ : ∃ s, st.at_ i = s := ⟨_, rfl⟩
  rw [hs] at qs hsz hgd hle
  obtain ⟨g, off, hA, hg1, hg2, -, -, q0, q1, q2, q3, q4⟩ := InsT.at_ hcode hat
  subst hA
  rw [k] at q0
  have HBK : Hid (backB c i x = false) := back_no (by rw [k]; rfl)
  unfold maxLen at hcs2
  have ca := vb.box.cell
  have la := vb.box.lt
  have HS := Lib.hid hs
  have HAT := Lib.hid hat
  have K_ := Lib.hid k
  have HG := Lib.hid hgd
  clear hs hat k hgd
  have HEM : Hid (∀ (q : St × Bool) (p : Int) (z : ByteArray), q.1 = st → Fit c.length (empties st.sh) z → empties (giveP q p z).1.sh ≤ empties st.sh) := fun q p z hq hz => by have := (giveP_inv (q := q) (p := p) (s := z) (by rw [hq]; exact hI) (by rw [hq]; exact hz)).2; rwa [hq] at this
  have HR : Hid (stepAt c st i x = if (st, false || !(routB s && endsB s ⟨#[118]⟩)).2 = true then none else some (st, false || !(routB s && endsB s ⟨#[118]⟩)).1) := by
    show _ = _
    have ha : after x (st.at_ i) = if (routB s && endsB s ⟨#[118]⟩) = true then some (⟨#[]⟩, ⟨#[]⟩) else none := by rw [HS.out]; simp only [after, K_.out]; cases routB s <;> cases endsB s ⟨#[118]⟩ <;> rfl
    have := step_q (nx' := ⟨#[]⟩) (lb' := ⟨#[]⟩) HBK.out ha (fun _ => rfl) (fun _ => rfl)
    rw [giveP_nil] at this
    rw [giveP_nil] at this
    exact this
  go_enter Tryz.func52, Tryz.ntmps52
  go_upto_region 2 with (fail)
  have h1 := vb.more #[.int .i64 24, .int .i64 x.a, .int .i64 x.b, .int .i64 x.line, .string x.text] 79
  have hcd1 := hcode.alloc (Nat.le_trans hhi vb.rows.bel.size) (.cells #[.int .i64 24, .int .i64 x.a, .int .i64 x.b, .int .i64 x.line, .string x.text] 79)
  obtain ⟨bx, hbx⟩ : ∃ bx, wr.heap.size = bx := ⟨_, rfl⟩
  rw [hbx] at h1 ⊢
  generalize wr.alloc (.cells #[.int .i64 24, .int .i64 x.a, .int .i64 x.b, .int .i64 x.line, .string x.text] 79) = w1 at h1 hcd1 ⊢
  clear ca la qs q0 q1 q2 q3 q4 hcode hbx vb
  have cx := h1.one.cell
  have lx := h1.one.lt
  go_wp2_with fail
  refine (impl_isLabel 24 _).mono ?_; rw [show jumpB 24 = false from rfl]; rintro e w2 ⟨rfl, rfl⟩
  go_wp2_with fail
  refine (impl_isRoutineShape s _ HG.out).mono ?_; rintro e w7 ⟨rfl, rfl⟩
  go_wp2_with fail
  have hG := impl_need h1 (routB s)
  refine hG.mono ?_; clear hG; rintro e w2 ⟨rfl, sv2, tv2, h2⟩
  clear cx lx
  have cx := h2.one.cell
  have lx := h2.one.lt
  go_wp2_with fail
  have hG := impl_cutEnd h2 s ⟨#[118]⟩ hsz (by omega)
  refine hG.mono ?_; clear hG; rintro e w3 ⟨rfl, sv3, tv3, h3⟩
  dsimp only at h3
  clear cx lx
  have cx := h3.one.cell
  have lx := h3.one.lt
  go_wp2_with fail
  have HQ : Hid (((st, (false || !routB s) || !endsB s ⟨#[118]⟩) : St × Bool) = (st, false || !(routB s && endsB s ⟨#[118]⟩))) := by show _ = _; cases routB s <;> cases endsB s ⟨#[118]⟩ <;> rfl
  go_end0
  refine ⟨rfl, ((st, (false || !routB s) || !endsB s ⟨#[118]⟩) : St × Bool), ?_⟩
  refine ⟨?_, ?_, ?_⟩
  · exact ⟨_, _, h3.less⟩
  · exact hI
  · rw [HR.out]; cases routB s <;> cases endsB s ⟨#[118]⟩ <;> rfl
set_option maxRecDepth 100000 in
set_option maxHeartbeats 2000000 in
theorem visit_25 {w0 wr : World} {b : Nat} {v0 v1 v2 v3 : Value} {Ai : Option Addr} {ni : Nat} {c : List InsT} {st : St} {i : Nat} {x : InsT} {sv tv : Value} {lo hi : Nat} (h : VisIn w0 wr b v0 v1 v2 v3 Ai ni c st i x sv tv lo hi) (k : x.op = 25) :
    Calls Tryz.prog 52 #[.pointer (some ⟨b, 0, none⟩), .int .i64 i] wr (VisPost w0 c.length b v0 v1 v2 v3 Ai ni (stepAt c st i x)) := by
  obtain ⟨vb, hI, hcode, hhi, hbig, hat, hsz, hok⟩ := h
  have hlt : i < c.length := (List.getElem?_eq_some_iff.1 hat).1
  obtain ⟨hgd, hle⟩ := hI.good _ (at_mem hsz) hsz
  obtain ⟨gs, caps, rfl, hgs1, hgs2, hcs1, hcs2⟩ := vb.rows.form (by omega)
  have qs := vb.rows.cell hlt
  obtain ⟨s, hs⟩ : ∃ s, st.at_ i = s := ⟨_, rfl⟩
  rw [hs] at qs hsz hgd hle
  obtain ⟨g, off, hA, hg1, hg2, -, -, q0, q1, q2, q3, q4⟩ := InsT.at_ hcode hat
  subst hA
  rw [k] at q0
  have HBK : Hid (backB c i x = false) := back_no (by rw [k]; rfl)
  unfold maxLen at hcs2
  have ca := vb.box.cell
  have la := vb.box.lt
  have HS := Lib.hid hs
  have HAT := Lib.hid hat
  have K_ := Lib.hid k
  have HG := Lib.hid hgd
  clear hs hat k hgd
  have HEM : Hid (∀ (q : St × Bool) (p : Int) (z : ByteArray), q.1 = st → Fit c.length (empties st.sh) z → empties (giveP q p z).1.sh ≤ empties st.sh) := fun q p z hq hz => by have := (giveP_inv (q := q) (p := p) (s := z) (by rw [hq]; exact hI) (by rw [hq]; exact hz)).2; rwa [hq] at this
  have HR : Hid (stepAt c st i x = if (st, false || !(routB s)).2 = true then none else some (st, false || !(routB s)).1) := by
    show _ = _
    have ha : after x (st.at_ i) = if (routB s) = true then some (⟨#[]⟩, ⟨#[]⟩) else none := by rw [HS.out]; simp only [after, K_.out]; rfl
    have := step_q (nx' := ⟨#[]⟩) (lb' := ⟨#[]⟩) HBK.out ha (fun _ => rfl) (fun _ => rfl)
    rw [giveP_nil] at this
    rw [giveP_nil] at this
    exact this
  go_enter Tryz.func52, Tryz.ntmps52
  go_upto_region 2 with (fail)
  have h1 := vb.more #[.int .i64 25, .int .i64 x.a, .int .i64 x.b, .int .i64 x.line, .string x.text] 79
  have hcd1 := hcode.alloc (Nat.le_trans hhi vb.rows.bel.size) (.cells #[.int .i64 25, .int .i64 x.a, .int .i64 x.b, .int .i64 x.line, .string x.text] 79)
  obtain ⟨bx, hbx⟩ : ∃ bx, wr.heap.size = bx := ⟨_, rfl⟩
  rw [hbx] at h1 ⊢
  generalize wr.alloc (.cells #[.int .i64 25, .int .i64 x.a, .int .i64 x.b, .int .i64 x.line, .string x.text] 79) = w1 at h1 hcd1 ⊢
  clear ca la qs q0 q1 q2 q3 q4 hcode hbx vb
  have cx := h1.one.cell
  have lx := h1.one.lt
  go_wp2_with fail
  refine (impl_isLabel 25 _).mono ?_; rw [show jumpB 25 = false from rfl]; rintro e w2 ⟨rfl, rfl⟩
  go_wp2_with fail
  refine (impl_isRoutineShape s _ HG.out).mono ?_; rintro e w7 ⟨rfl, rfl⟩
  go_wp2_with fail
  have hG := impl_need h1 (routB s)
  refine hG.mono ?_; clear hG; rintro e w2 ⟨rfl, sv2, tv2, h2⟩
  clear cx lx
  have cx := h2.one.cell
  have lx := h2.one.lt
  go_wp2_with fail
  go_end0
  refine ⟨rfl, (st, false || !(routB s)), ?_⟩
  refine ⟨?_, ?_, ?_⟩
  · exact ⟨_, _, h2.less⟩
  · exact hI
  · exact HR.out
end Go.Proofs.YtekobbeoaalibaaGreatDoor
