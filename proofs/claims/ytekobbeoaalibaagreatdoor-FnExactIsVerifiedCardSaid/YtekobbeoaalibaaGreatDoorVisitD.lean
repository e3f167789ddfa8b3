/- (*verifier).visit of the program, operation by operation. -/
import Derived.Test.YtekobbeoaalibaaGreatDoorVisitDefs
namespace Go.Proofs.YtekobbeoaalibaaGreatDoor
open Go.RowKit
set_option linter.unusedVariables false

set_option maxRecDepth 100000 in
set_option maxHeartbeats 2000000 in
theorem visit_19f {w0 wr : World} {b : Nat} {v0 v1 v2 v3 : Value} {Ai : Option Addr} {ni : Nat} {c : List InsT} {st : St} {i : Nat} {x : InsT} {sv tv : Value} {lo hi : Nat} (h : VisIn w0 wr b v0 v1 v2 v3 Ai ni c st i x sv tv lo hi) (k : x.op = 19) (hf : (i : Int) < x.a) :
    Calls Tryz.prog 52 #[.pointer (some ⟨b, 0, none⟩), .int .i64 i] wr (VisPost w0 c.length b v0 v1 v2 v3 Ai ni (stepAt c st i x)) := by
  obtain ⟨vb, hI, hcode, hhi, hbig, hat, hsz, hok⟩ := h
  have hlt : i < c.length := (List.getElem?_eq_some_iff.1 hat).1
  obtain ⟨hgd, hle⟩ := hI.good _ (at_mem hsz) hsz
  obtain ⟨gs, caps, rfl, hgs1, hgs2, hcs1, hcs2⟩ := vb.rows.form (by omega)
  have qs := vb.rows.cell hlt
  obtain ⟨s, hs⟩ : ∃ s, st.at_ i = s := ⟨_, rfl⟩
  rw [hs] at qs hsz hgd hle
  obtain ⟨g, off, hA, hg1, hg2, -, -, q0, q1, q2, q3, q4⟩ := InsT.at_ hcode hat
  subst hA
  rw [k] at q0
  have hla : x.a < c.length := by have := hok.lab (by rw [k]; decide); omega
  have hn : 0 ≤ x.a := by omega
  obtain ⟨an, han⟩ : ∃ an : Nat, x.a = an := ⟨x.a.toNat, by omega⟩
  have HAN := Lib.hid han
  have HBK : Hid (backB c i x = false) := back_far (by omega)
  have hai : an < c.length := by omega
  have hfi : i < an := by omega
  rw [han] at q1
  clear hla hn hf han
  unfold maxLen at hcs2
  have ca := vb.box.cell
  have la := vb.box.lt
  have HS := Lib.hid hs
  have HAT := Lib.hid hat
  have K_ := Lib.hid k
  have HG := Lib.hid hgd
  clear hs hat k hgd
  have HEM : Hid (∀ (q : St × Bool) (p : Int) (z : ByteArray), q.1 = st → Fit c.length (empties st.sh) z → empties (giveP q p z).1.sh ≤ empties st.sh) := fun q p z hq hz => by have := (giveP_inv (q := q) (p := p) (s := z) (by rw [hq]; exact hI) (by rw [hq]; exact hz)).2; rwa [hq] at this
  have HR : Hid (stepAt c st i x = if (giveP (giveP (st, false || !(endsB s ⟨#[109, 118]⟩)) ((i : Int) + 1) (cutE s ⟨#[109, 118]⟩ ++ ⟨#[118]⟩)) x.a (cutE s ⟨#[109, 118]⟩)).2 = true then none else some (giveP (giveP (st, false || !(endsB s ⟨#[109, 118]⟩)) ((i : Int) + 1) (cutE s ⟨#[109, 118]⟩ ++ ⟨#[118]⟩)) x.a (cutE s ⟨#[109, 118]⟩)).1) := by
    show _ = _
    have ha : after x (st.at_ i) = if (endsB s ⟨#[109, 118]⟩) = true then some (cutN s 2 ++ ⟨#[118]⟩, cutN s 2) else none := by rw [HS.out]; simp only [after, K_.out]; rfl
    have := step_q (nx' := (cutE s ⟨#[109, 118]⟩ ++ ⟨#[118]⟩)) (lb' := (cutE s ⟨#[109, 118]⟩)) HBK.out ha (fun e => by rw [cutE_yes (by first | exact e | exact ((Bool.and_eq_true _ _).mp e).2)]; try rfl) (fun e => by rw [cutE_yes e]; try rfl)
    exact this
  rw [HAN.out] at HR
  have hcz := cutE_size s ⟨#[109, 118]⟩ hsz
  have FN : Fit c.length (empties st.sh) (cutE s ⟨#[109, 118]⟩ ++ ⟨#[118]⟩) := (fit_app (cutE_good HG.out) (by have := hcz.2; omega) _)
  have FL : Fit c.length (empties st.sh) (cutE s ⟨#[109, 118]⟩) := (fit_self (cutE_good HG.out) (by have := hcz.2; omega))
  have HI2 : Inv c.length (giveP (giveP (st, false || !(endsB s ⟨#[109, 118]⟩)) ((i : Int) + 1) (cutE s ⟨#[109, 118]⟩ ++ ⟨#[118]⟩)) (an : Int) (cutE s ⟨#[109, 118]⟩)).1 := (giveP_inv (giveP_inv (q := (st, false || !(endsB s ⟨#[109, 118]⟩))) hI FN).1 (Fit.less FL (HEM.out (st, false || !(endsB s ⟨#[109, 118]⟩)) _ _ rfl FN))).1
  go_enter Tryz.func52, Tryz.ntmps52
  go_upto_region 2 with (fail)
  have h1 := vb.more #[.int .i64 19, .int .i64 (an : Int), .int .i64 x.b, .int .i64 x.line, .string x.text] 79
  have hcd1 := hcode.alloc (Nat.le_trans hhi vb.rows.bel.size) (.cells #[.int .i64 19, .int .i64 (an : Int), .int .i64 x.b, .int .i64 x.line, .string x.text] 79)
  obtain ⟨bx, hbx⟩ : ∃ bx, wr.heap.size = bx := ⟨_, rfl⟩
  rw [hbx] at h1 ⊢
  generalize wr.alloc (.cells #[.int .i64 19, .int .i64 (an : Int), .int .i64 x.b, .int .i64 x.line, .string x.text] 79) = w1 at h1 hcd1 ⊢
  clear ca la qs q0 q1 q2 q3 q4 hcode hbx vb
  have cx := h1.one.cell
  have lx := h1.one.lt
  go_wp2_with fail
  refine (impl_isLabel 19 _).mono ?_; rw [show jumpB 19 = true from rfl]; rintro e w2 ⟨rfl, rfl⟩
  go_wp2_with fail
  have hG := impl_cutEnd h1 s ⟨#[109, 118]⟩ hsz (by omega)
  refine hG.mono ?_; clear hG; rintro e w2 ⟨rfl, sv2, tv2, h2⟩
  dsimp only at h2
  clear cx lx
  have cx := h2.one.cell
  have lx := h2.one.lt
  go_wp2_with fail
  have hG := impl_give h2 hI (by omega) hbig ((i : Int) + 1) (cutE s ⟨#[109, 118]⟩ ++ ⟨#[118]⟩) (by rw [ByteArray.size_append]; omega)
  refine hG.mono ?_; clear hG; rintro e w3 ⟨rfl, sv3, tv3, h3⟩
  clear cx lx
  have cx := h3.one.cell
  have lx := h3.one.lt
  go_wp2_with fail
  have hG := impl_give h3 (giveP_inv (q := (st, false || !endsB s ⟨#[109, 118]⟩)) (p := ((i : Int) + 1)) (s := (cutE s ⟨#[109, 118]⟩ ++ ⟨#[118]⟩)) hI FN).1 (by omega) hbig (an : Int) (cutE s ⟨#[109, 118]⟩) hcz.1
  refine hG.mono ?_; clear hG; rintro e w4 ⟨rfl, sv4, tv4, h4⟩
  clear cx lx
  have cx := h4.one.cell
  have lx := h4.one.lt
  go_wp2_with fail
  go_end0
  refine ⟨rfl, (giveP (giveP (st, false || !endsB s ⟨#[109, 118]⟩) ((i : Int) + 1) (cutE s ⟨#[109, 118]⟩ ++ ⟨#[118]⟩)) (an : Int) (cutE s ⟨#[109, 118]⟩)), ?_⟩
  refine ⟨?_, ?_, ?_⟩
  · exact ⟨_, _, h4.less⟩
  · exact HI2
  · exact HR.out
set_option maxRecDepth 100000 in
set_option maxHeartbeats 2000000 in
theorem visit_19b {w0 wr : World} {b : Nat} {v0 v1 v2 v3 : Value} {Ai : Option Addr} {ni : Nat} {c : List InsT} {st : St} {i : Nat} {x : InsT} {sv tv : Value} {lo hi : Nat} (h : VisIn w0 wr b v0 v1 v2 v3 Ai ni c st i x sv tv lo hi) (k : x.op = 19) (hn : 0 ≤ x.a) (hf : x.a ≤ i) :
    Calls Tryz.prog 52 #[.pointer (some ⟨b, 0, none⟩), .int .i64 i] wr (VisPost w0 c.length b v0 v1 v2 v3 Ai ni (stepAt c st i x)) := by
  obtain ⟨vb, hI, hcode, hhi, hbig, hat, hsz, hok⟩ := h
  have hlt : i < c.length := (List.getElem?_eq_some_iff.1 hat).1
  obtain ⟨hgd, hle⟩ := hI.good _ (at_mem hsz) hsz
  obtain ⟨gs, caps, rfl, hgs1, hgs2, hcs1, hcs2⟩ := vb.rows.form (by omega)
  have qs := vb.rows.cell hlt
  obtain ⟨s, hs⟩ : ∃ s, st.at_ i = s := ⟨_, rfl⟩
  rw [hs] at qs hsz hgd hle
  obtain ⟨g, off, hA, hg1, hg2, -, -, q0, q1, q2, q3, q4⟩ := InsT.at_ hcode hat
  subst hA
  rw [k] at q0
  have hla : x.a < c.length := by have := hok.lab (by rw [k]; decide); omega
  obtain ⟨an, han⟩ : ∃ an : Nat, x.a = an := ⟨x.a.toNat, by omega⟩
  have HAN := Lib.hid han
  obtain ⟨y, hy⟩ : ∃ y, c[an]? = some y := ⟨_, List.getElem?_eq_getElem (by omega)⟩
  have HBK : Hid (backB c i x = (false || !(y.op == 18))) := (back_at (by rw [k]; decide) ⟨hn, hf⟩ (by rw [han]; exact hy)).trans (Bool.false_or _).symm
  obtain ⟨g_, off_, hA_, -, -, -, -, y0, -⟩ := InsT.at_ hcode hy
  injection hA_ with hA_; injection hA_ with hA1 hA2; subst hA1 hA2
  have hai : an < c.length := by omega
  have hfi : an ≤ i := by omega
  rw [han] at q1
  clear hla hn hf han
  unfold maxLen at hcs2
  have ca := vb.box.cell
  have la := vb.box.lt
  have HS := Lib.hid hs
  have HAT := Lib.hid hat
  have K_ := Lib.hid k
  have HG := Lib.hid hgd
  clear hs hat k hgd
  have HEM : Hid (∀ (q : St × Bool) (p : Int) (z : ByteArray), q.1 = st → Fit c.length (empties st.sh) z → empties (giveP q p z).1.sh ≤ empties st.sh) := fun q p z hq hz => by have := (giveP_inv (q := q) (p := p) (s := z) (by rw [hq]; exact hI) (by rw [hq]; exact hz)).2; rwa [hq] at this
  have HR : Hid (stepAt c st i x = if (giveP (giveP (st, (false || !(y.op == 18)) || !(endsB s ⟨#[109, 118]⟩)) ((i : Int) + 1) (cutE s ⟨#[109, 118]⟩ ++ ⟨#[118]⟩)) x.a (cutE s ⟨#[109, 118]⟩)).2 = true then none else some (giveP (giveP (st, (false || !(y.op == 18)) || !(endsB s ⟨#[109, 118]⟩)) ((i : Int) + 1) (cutE s ⟨#[109, 118]⟩ ++ ⟨#[118]⟩)) x.a (cutE s ⟨#[109, 118]⟩)).1) := by
    show _ = _
    have ha : after x (st.at_ i) = if (endsB s ⟨#[109, 118]⟩) = true then some (cutN s 2 ++ ⟨#[118]⟩, cutN s 2) else none := by rw [HS.out]; simp only [after, K_.out]; rfl
    have := step_q (nx' := (cutE s ⟨#[109, 118]⟩ ++ ⟨#[118]⟩)) (lb' := (cutE s ⟨#[109, 118]⟩)) HBK.out ha (fun e => by rw [cutE_yes (by first | exact e | exact ((Bool.and_eq_true _ _).mp e).2)]; try rfl) (fun e => by rw [cutE_yes e]; try rfl)
    exact this
  rw [HAN.out] at HR
  have hcz := cutE_size s ⟨#[109, 118]⟩ hsz
  have FN : Fit c.length (empties st.sh) (cutE s ⟨#[109, 118]⟩ ++ ⟨#[118]⟩) := (fit_app (cutE_good HG.out) (by have := hcz.2; omega) _)
  have FL : Fit c.length (empties st.sh) (cutE s ⟨#[109, 118]⟩) := (fit_self (cutE_good HG.out) (by have := hcz.2; omega))
  have HI2 : Inv c.length (giveP (giveP (st, (false || !(y.op == 18)) || !(endsB s ⟨#[109, 118]⟩)) ((i : Int) + 1) (cutE s ⟨#[109, 118]⟩ ++ ⟨#[118]⟩)) (an : Int) (cutE s ⟨#[109, 118]⟩)).1 := (giveP_inv (giveP_inv (q := (st, (false || !(y.op == 18)) || !(endsB s ⟨#[109, 118]⟩))) hI FN).1 (Fit.less FL (HEM.out (st, (false || !(y.op == 18)) || !(endsB s ⟨#[109, 118]⟩)) _ _ rfl FN))).1
  go_enter Tryz.func52, Tryz.ntmps52
  go_upto_region 2 with (fail)
  have h1 := vb.more #[.int .i64 19, .int .i64 (an : Int), .int .i64 x.b, .int .i64 x.line, .string x.text] 79
  have hcd1 := hcode.alloc (Nat.le_trans hhi vb.rows.bel.size) (.cells #[.int .i64 19, .int .i64 (an : Int), .int .i64 x.b, .int .i64 x.line, .string x.text] 79)
  obtain ⟨bx, hbx⟩ : ∃ bx, wr.heap.size = bx := ⟨_, rfl⟩
  rw [hbx] at h1 ⊢
  generalize wr.alloc (.cells #[.int .i64 19, .int .i64 (an : Int), .int .i64 x.b, .int .i64 x.line, .string x.text] 79) = w1 at h1 hcd1 ⊢
  clear y0
  obtain ⟨g_, off_, hA_, -, -, -, -, y0, -⟩ := InsT.at_ hcd1 hy
  injection hA_ with hA_; injection hA_ with hA1 hA2; subst hA1 hA2
  have HY := Lib.hid hy
  clear hy
  clear ca la qs q0 q1 q2 q3 q4 hcode hbx vb
  have cx := h1.one.cell
  have lx := h1.one.lt
  have ca := h1.box.cell
  have la := h1.box.lt
  go_wp2_with fail
  refine (impl_isLabel 19 _).mono ?_; rw [show jumpB 19 = true from rfl]; rintro e w2 ⟨rfl, rfl⟩
  go_wp2_with fail
  go_still_tail 12, (by kernel_rfl)
  change wpList _ _ _ _ _ w1.drew
  have h1d := h1.same (Same.refl w1).drew
  generalize w1.drew = w1d at h1d ⊢
  go_wp2_with fail
  have hG := impl_need h1d (y.op == 18)
  refine hG.mono ?_; clear hG; rintro e w2 ⟨rfl, sv2, tv2, h2⟩
  dsimp only at h2
  clear cx lx
  have cx := h2.one.cell
  have lx := h2.one.lt
  go_wp2_with fail
  have hG := impl_cutEnd h2 s ⟨#[109, 118]⟩ hsz (by omega)
  refine hG.mono ?_; clear hG; rintro e w3 ⟨rfl, sv3, tv3, h3⟩
  dsimp only at h3
  clear cx lx
  have cx := h3.one.cell
  have lx := h3.one.lt
  go_wp2_with fail
  have hG := impl_give h3 hI (by omega) hbig ((i : Int) + 1) (cutE s ⟨#[109, 118]⟩ ++ ⟨#[118]⟩) (by rw [ByteArray.size_append]; omega)
  refine hG.mono ?_; clear hG; rintro e w4 ⟨rfl, sv4, tv4, h4⟩
  clear cx lx
  have cx := h4.one.cell
  have lx := h4.one.lt
  go_wp2_with fail
  have hG := impl_give h4 (giveP_inv (q := (st, (false || !(y.op == 18)) || !endsB s ⟨#[109, 118]⟩)) (p := ((i : Int) + 1)) (s := (cutE s ⟨#[109, 118]⟩ ++ ⟨#[118]⟩)) hI FN).1 (by omega) hbig (an : Int) (cutE s ⟨#[109, 118]⟩) hcz.1
  refine hG.mono ?_; clear hG; rintro e w5 ⟨rfl, sv5, tv5, h5⟩
  clear cx lx
  have cx := h5.one.cell
  have lx := h5.one.lt
  go_wp2_with fail
  go_end0
  refine ⟨rfl, (giveP (giveP (st, (false || !(y.op == 18)) || !endsB s ⟨#[109, 118]⟩) ((i : Int) + 1) (cutE s ⟨#[109, 118]⟩ ++ ⟨#[118]⟩)) (an : Int) (cutE s ⟨#[109, 118]⟩)), ?_⟩
  refine ⟨?_, ?_, ?_⟩
  · exact ⟨_, _, h5.less⟩
  · exact HI2
  · exact HR.out
set_option maxRecDepth 100000 in
set_option maxHeartbeats 2000000 in
theorem visit_26 {w0 wr : World} {b : Nat} {v0 v1 v2 v3 : Value} {Ai : Option Addr} {ni : Nat} {c : List InsT} {st : St} {i : Nat} {x : InsT} {sv tv : Value} {lo hi : Nat} (h : VisIn w0 wr b v0 v1 v2 v3 Ai ni c st i x sv tv lo hi) (k : x.op = 26) :
    Calls Tryz.prog 52 #[.pointer (some ⟨b, 0, none⟩), .int .i64 i] wr (VisPost w0 c.length b v0 v1 v2 v3 Ai ni (stepAt c st i x)) := by
  obtain ⟨vb, hI, hcode, hhi, hbig, hat, hsz, hok⟩ := h
  have hlt : i < c.length := (List.getElem?_eq_some_iff.1 hat).1
  obtain ⟨hgd, hle⟩ := hI.good _ (at_mem hsz) hsz
  obtain ⟨gs, caps, rfl, hgs1, hgs2, hcs1, hcs2⟩ := vb.rows.form (by omega)
  have qs := vb.rows.cell hlt
  obtain ⟨s, hs⟩ : ∃ s, st.at_ i = s := ⟨_, rfl⟩
  rw [hs] at qs hsz hgd hle
  obtain ⟨g, off, hA, hg1, hg2, -, -, q0, q1, q2, q3, q4⟩ := InsT.at_ hcode hat
  subst hA
  rw [k] at q0
  have HBK : Hid (backB c i x = false) := back_no (by rw [k]; rfl)
  unfold maxLen at hcs2
  have ca := vb.box.cell
  have la := vb.box.lt
  have HS := Lib.hid hs
  have HAT := Lib.hid hat
  have K_ := Lib.hid k
  have HG := Lib.hid hgd
  clear hs hat k hgd
  have HEM : Hid (∀ (q : St × Bool) (p : Int) (z : ByteArray), q.1 = st → Fit c.length (empties st.sh) z → empties (giveP q p z).1.sh ≤ empties st.sh) := fun q p z hq hz => by have := (giveP_inv (q := q) (p := p) (s := z) (by rw [hq]; exact hI) (by rw [hq]; exact hz)).2; rwa [hq] at this
  have HR : Hid (stepAt c st i x = if (giveP (st, false || !(routB s && endsB s ⟨#[118]⟩)) ((i : Int) + 1) (cutE s ⟨#[118]⟩)).2 = true then none else some (giveP (st, false || !(routB s && endsB s ⟨#[118]⟩)) ((i : Int) + 1) (cutE s ⟨#[118]⟩)).1) := by
    show _ = _
    have ha : after x (st.at_ i) = if (routB s && endsB s ⟨#[118]⟩) = true then some (cutN s 1, ⟨#[]⟩) else none := by rw [HS.out]; simp only [after, K_.out]; cases routB s <;> cases endsB s ⟨#[118]⟩ <;> rfl
    have := step_q (nx' := (cutE s ⟨#[118]⟩)) (lb' := ⟨#[]⟩) HBK.out ha (fun e => by rw [cutE_yes (by first | exact e | exact ((Bool.and_eq_true _ _).mp e).2)]; try rfl) (fun _ => rfl)
    rw [giveP_nil] at this
    exact this
  have hcz := cutE_size s ⟨#[118]⟩ hsz
  have FN : Fit c.length (empties st.sh) (cutE s ⟨#[118]⟩) := (fit_self (cutE_good HG.out) (by have := hcz.2; omega))
  go_enter Tryz.func52, Tryz.ntmps52
  go_upto_region 2 with (fail)
  have h1 := vb.more #[.int .i64 26, .int .i64 x.a, .int .i64 x.b, .int .i64 x.line, .string x.text] 79
  have hcd1 := hcode.alloc (Nat.le_trans hhi vb.rows.bel.size) (.cells #[.int .i64 26, .int .i64 x.a, .int .i64 x.b, .int .i64 x.line, .string x.text] 79)
  obtain ⟨bx, hbx⟩ : ∃ bx, wr.heap.size = bx := ⟨_, rfl⟩
  rw [hbx] at h1 ⊢
  generalize wr.alloc (.cells #[.int .i64 26, .int .i64 x.a, .int .i64 x.b, .int .i64 x.line, .string x.text] 79) = w1 at h1 hcd1 ⊢
  clear ca la qs q0 q1 q2 q3 q4 hcode hbx vb
  have cx := h1.one.cell
  have lx := h1.one.lt
  go_wp2_with fail
  refine (impl_isLabel 26 _).mono ?_; rw [show jumpB 26 = false from rfl]; rintro e w2 ⟨rfl, rfl⟩
  go_wp2_with fail
  refine (impl_isRoutineShape s _ HG.out).mono ?_; rintro e w7 ⟨rfl, rfl⟩
  go_wp2_with fail
  have hG := impl_need h1 (routB s)
  refine hG.mono ?_; clear hG; rintro e w2 ⟨rfl, sv2, tv2, h2⟩
  clear cx lx
  have cx := h2.one.cell
  have lx := h2.one.lt
  go_wp2_with fail
  have hG := impl_cutEnd h2 s ⟨#[118]⟩ hsz (by omega)
  refine hG.mono ?_; clear hG; rintro e w3 ⟨rfl, sv3, tv3, h3⟩
  dsimp only at h3
  clear cx lx
  have cx := h3.one.cell
  have lx := h3.one.lt
  go_wp2_with fail
  have HQ : Hid (((st, (false || !routB s) || !endsB s ⟨#[118]⟩) : St × Bool) = (st, false || !(routB s && endsB s ⟨#[118]⟩))) := by show _ = _; cases routB s <;> cases endsB s ⟨#[118]⟩ <;> rfl
  have hG := impl_give h3 hI (by omega) hbig ((i : Int) + 1) (cutE s ⟨#[118]⟩) hcz.1
  refine hG.mono ?_; clear hG; rintro e w4 ⟨rfl, sv4, tv4, h4⟩
  clear cx lx
  have cx := h4.one.cell
  have lx := h4.one.lt
  go_wp2_with fail
  go_end0
  refine ⟨rfl, (giveP ((st, (false || !routB s) || !endsB s ⟨#[118]⟩) : St × Bool) ((i : Int) + 1) (cutE s ⟨#[118]⟩)), ?_⟩
  refine ⟨?_, ?_, ?_⟩
  · exact ⟨_, _, h4.less⟩
  · exact (giveP_inv (q := ((st, (false || !routB s) || !endsB s ⟨#[118]⟩) : St × Bool)) (p := ((i : Int) + 1)) (s := (cutE s ⟨#[118]⟩)) hI FN).1
  · rw [HR.out]; cases routB s <;> cases endsB s ⟨#[118]⟩ <;> rfl
set_option maxRecDepth 100000 in
set_option maxHeartbeats 2000000 in
theorem visit_28 {w0 wr : World} {b : Nat} {v0 v1 v2 v3 : Value} {Ai : Option Addr} {ni : Nat} {c : List InsT} {st : St} {i : Nat} {x : InsT} {sv tv : Value} {lo hi : Nat} (h : VisIn w0 wr b v0 v1 v2 v3 Ai ni c st i x sv tv lo hi) (k : x.op = 28) :
    Calls Tryz.prog 52 #[.pointer (some ⟨b, 0, none⟩), .int .i64 i] wr (VisPost w0 c.length b v0 v1 v2 v3 Ai ni (stepAt c st i x)) := by
  obtain ⟨vb, hI, hcode, hhi, hbig, hat, hsz, hok⟩ := h
  have hlt : i < c.length := (List.getElem?_eq_some_iff.1 hat).1
  obtain ⟨hgd, hle⟩ := hI.good _ (at_mem hsz) hsz
  obtain ⟨gs, caps, rfl, hgs1, hgs2, hcs1, hcs2⟩ := vb.rows.form (by omega)
  have qs := vb.rows.cell hlt
  obtain ⟨s, hs⟩ : ∃ s, st.at_ i = s := ⟨_, rfl⟩
  rw [hs] at qs hsz hgd hle
  obtain ⟨g, off, hA, hg1, hg2, -, -, q0, q1, q2, q3, q4⟩ := InsT.at_ hcode hat
  subst hA
  rw [k] at q0
  have HBK : Hid (backB c i x = false) := back_no (by rw [k]; rfl)
  unfold maxLen at hcs2
  have ca := vb.box.cell
  have la := vb.box.lt
  have HS := Lib.hid hs
  have HAT := Lib.hid hat
  have K_ := Lib.hid k
  have HG := Lib.hid hgd
  clear hs hat k hgd
  have HEM : Hid (∀ (q : St × Bool) (p : Int) (z : ByteArray), q.1 = st → Fit c.length (empties st.sh) z → empties (giveP q p z).1.sh ≤ empties st.sh) := fun q p z hq hz => by have := (giveP_inv (q := q) (p := p) (s := z) (by rw [hq]; exact hI) (by rw [hq]; exact hz)).2; rwa [hq] at this
  have HR : Hid (stepAt c st i x = if (st, false || !(!routB s && endsB s ⟨#[118]⟩)).2 = true then none else some (st, false || !(!routB s && endsB s ⟨#[118]⟩)).1) := by
    show _ = _
    have ha : after x (st.at_ i) = if (!routB s && endsB s ⟨#[118]⟩) = true then some (⟨#[]⟩, ⟨#[]⟩) else none := by rw [HS.out]; simp only [after, K_.out]; cases routB s <;> cases endsB s ⟨#[118]⟩ <;> rfl
    have := step_q (nx' := ⟨#[]⟩) (lb' := ⟨#[]⟩) HBK.out ha (fun _ => rfl) (fun _ => rfl)
    rw [giveP_nil] at this
    rw [giveP_nil] at this
    exact this
  go_enter Tryz.func52, Tryz.ntmps52
  go_upto_region 2 with (fail)
  have h1 := vb.more #[.int .i64 28, .int .i64 x.a, .int .i64 x.b, .int .i64 x.line, .string x.text] 79
  have hcd1 := hcode.alloc (Nat.le_trans hhi vb.rows.bel.size) (.cells #[.int .i64 28, .int .i64 x.a, .int .i64 x.b, .int .i64 x.line, .string x.text] 79)
  obtain ⟨bx, hbx⟩ : ∃ bx, wr.heap.size = bx := ⟨_, rfl⟩
  rw [hbx] at h1 ⊢
  generalize wr.alloc (.cells #[.int .i64 28, .int .i64 x.a, .int .i64 x.b, .int .i64 x.line, .string x.text] 79) = w1 at h1 hcd1 ⊢
  clear ca la qs q0 q1 q2 q3 q4 hcode hbx vb
  have cx := h1.one.cell
  have lx := h1.one.lt
  go_wp2_with fail
  refine (impl_isLabel 28 _).mono ?_; rw [show jumpB 28 = false from rfl]; rintro e w2 ⟨rfl, rfl⟩
  go_wp2_with fail
  refine (impl_isRoutineShape s _ HG.out).mono ?_; rintro e w7 ⟨rfl, rfl⟩
  go_wp2_with fail
  have hG := impl_need h1 (!routB s)
  refine hG.mono ?_; clear hG; rintro e w2 ⟨rfl, sv2, tv2, h2⟩
  clear cx lx
  have cx := h2.one.cell
  have lx := h2.one.lt
  go_wp2_with fail
  have hG := impl_cutEnd h2 s ⟨#[118]⟩ hsz (by omega)
  refine hG.mono ?_; clear hG; rintro e w3 ⟨rfl, sv3, tv3, h3⟩
  dsimp only at h3
  clear cx lx
  have cx := h3.one.cell
  have lx := h3.one.lt
  go_wp2_with fail
  have HQ : Hid (((st, (false || !(!routB s)) || !endsB s ⟨#[118]⟩) : St × Bool) = (st, false || !(!routB s && endsB s ⟨#[118]⟩))) := by show _ = _; cases routB s <;> cases endsB s ⟨#[118]⟩ <;> rfl
  go_end0
  refine ⟨rfl, ((st, (false || !(!routB s)) || !endsB s ⟨#[118]⟩) : St × Bool), ?_⟩
  refine ⟨?_, ?_, ?_⟩
  · exact ⟨_, _, h3.less⟩
  · exact hI
  · rw [HR.out]; cases routB s <;> cases endsB s ⟨#[118]⟩ <;> rfl
set_option maxRecDepth 100000 in
set_option maxHeartbeats 2000000 in
theorem visit_29 {w0 wr : World} {b : Nat} {v0 v1 v2 v3 : Value} {Ai : Option Addr} {ni : Nat} {c : List InsT} {st : St} {i : Nat} {x : InsT} {sv tv : Value} {lo hi : Nat} (h : VisIn w0 wr b v0 v1 v2 v3 Ai ni c st i x sv tv lo hi) (k : x.op = 29) :
    Calls Tryz.prog 52 #[.pointer (some ⟨b, 0, none⟩), .int .i64 i] wr (VisPost w0 c.length b v0 v1 v2 v3 Ai ni (stepAt c st i x)) := by
  obtain ⟨vb, hI, hcode, hhi, hbig, hat, hsz, hok⟩ := h
  have hlt : i < c.length := (List.getElem?_eq_some_iff.1 hat).1
  obtain ⟨hgd, hle⟩ := hI.good _ (at_mem hsz) hsz
  obtain ⟨gs, caps, rfl, hgs1, hgs2, hcs1, hcs2⟩ := vb.rows.form (by omega)
  have qs := vb.rows.cell hlt
  obtain ⟨s, hs⟩ : ∃ s, st.at_ i = s := ⟨_, rfl⟩
  rw [hs] at qs hsz hgd hle
  obtain ⟨g, off, hA, hg1, hg2, -, -, q0, q1, q2, q3, q4⟩ := InsT.at_ hcode hat
  subst hA
  rw [k] at q0
  have HBK : Hid (backB c i x = false) := back_no (by rw [k]; rfl)
  unfold maxLen at hcs2
  have ca := vb.box.cell
  have la := vb.box.lt
  have HS := Lib.hid hs
  have HAT := Lib.hid hat
  have K_ := Lib.hid k
  have HG := Lib.hid hgd
  clear hs hat k hgd
  have HEM : Hid (∀ (q : St × Bool) (p : Int) (z : ByteArray), q.1 = st → Fit c.length (empties st.sh) z → empties (giveP q p z).1.sh ≤ empties st.sh) := fun q p z hq hz => by have := (giveP_inv (q := q) (p := p) (s := z) (by rw [hq]; exact hI) (by rw [hq]; exact hz)).2; rwa [hq] at this
  have HR : Hid (stepAt c st i x = if (giveP (st, false || !(endsB s ⟨#[118]⟩)) ((i : Int) + 1) s).2 = true then none else some (giveP (st, false || !(endsB s ⟨#[118]⟩)) ((i : Int) + 1) s).1) := by
    show _ = _
    have ha : after x (st.at_ i) = if (endsB s ⟨#[118]⟩) = true then some (s, ⟨#[]⟩) else none := by rw [HS.out]; simp only [after, K_.out]; rfl
    have := step_q (nx' := s) (lb' := ⟨#[]⟩) HBK.out ha (fun _ => rfl) (fun _ => rfl)
    rw [giveP_nil] at this
    exact this
  have FN : Fit c.length (empties st.sh) s := (fit_self HG.out hle)
  go_enter Tryz.func52, Tryz.ntmps52
  go_upto_region 2 with (fail)
  have h1 := vb.more #[.int .i64 29, .int .i64 x.a, .int .i64 x.b, .int .i64 x.line, .string x.text] 79
  have hcd1 := hcode.alloc (Nat.le_trans hhi vb.rows.bel.size) (.cells #[.int .i64 29, .int .i64 x.a, .int .i64 x.b, .int .i64 x.line, .string x.text] 79)
  obtain ⟨bx, hbx⟩ : ∃ bx, wr.heap.size = bx := ⟨_, rfl⟩
  rw [hbx] at h1 ⊢
  generalize wr.alloc (.cells #[.int .i64 29, .int .i64 x.a, .int .i64 x.b, .int .i64 x.line, .string x.text] 79) = w1 at h1 hcd1 ⊢
  clear ca la qs q0 q1 q2 q3 q4 hcode hbx vb
  have cx := h1.one.cell
  have lx := h1.one.lt
  go_wp2_with fail
  refine (impl_isLabel 29 _).mono ?_; rw [show jumpB 29 = false from rfl]; rintro e w2 ⟨rfl, rfl⟩
  go_wp2_with fail
  have hG := impl_cutEnd h1 s ⟨#[118]⟩ hsz (by omega)
  refine hG.mono ?_; clear hG; rintro e w2 ⟨rfl, sv2, tv2, h2⟩
  dsimp only at h2
  clear cx lx
  have cx := h2.one.cell
  have lx := h2.one.lt
  go_wp2_with fail
  have hG := impl_give h2 hI (by omega) hbig ((i : Int) + 1) s hsz
  refine hG.mono ?_; clear hG; rintro e w3 ⟨rfl, sv3, tv3, h3⟩
  clear cx lx
  have cx := h3.one.cell
  have lx := h3.one.lt
  go_wp2_with fail
  go_end0
  refine ⟨rfl, (giveP (st, false || !endsB s ⟨#[118]⟩) ((i : Int) + 1) s), ?_⟩
  refine ⟨?_, ?_, ?_⟩
  · exact ⟨_, _, h3.less⟩
  · exact (giveP_inv (q := (st, false || !endsB s ⟨#[118]⟩)) (p := ((i : Int) + 1)) (s := s) hI FN).1
  · exact HR.out
set_option maxRecDepth 100000 in
set_option maxHeartbeats 2000000 in
theorem visit_30 {w0 wr : World} {b : Nat} {v0 v1 v2 v3 : Value} {Ai : Option Addr} {ni : Nat} {c : List InsT} {st : St} {i : Nat} {x : InsT} {sv tv : Value} {lo hi : Nat} (h : VisIn w0 wr b v0 v1 v2 v3 Ai ni c st i x sv tv lo hi) (k : x.op = 30) :
    Calls Tryz.prog 52 #[.pointer (some ⟨b, 0, none⟩), .int .i64 i] wr (VisPost w0 c.length b v0 v1 v2 v3 Ai ni (stepAt c st i x)) := by
  obtain ⟨vb, hI, hcode, hhi, hbig, hat, hsz, hok⟩ := h
  have hlt : i < c.length := (List.getElem?_eq_some_iff.1 hat).1
  obtain ⟨hgd, hle⟩ := hI.good _ (at_mem hsz) hsz
  obtain ⟨gs, caps, rfl, hgs1, hgs2, hcs1, hcs2⟩ := vb.rows.form (by omega)
  have qs := vb.rows.cell hlt
  obtain ⟨s, hs⟩ : ∃ s, st.at_ i = s := ⟨_, rfl⟩
  rw [hs] at qs hsz hgd hle
  obtain ⟨g, off, hA, hg1, hg2, -, -, q0, q1, q2, q3, q4⟩ := InsT.at_ hcode hat
  subst hA
  rw [k] at q0
  have HBK : Hid (backB c i x = false) := back_no (by rw [k]; rfl)
  unfold maxLen at hcs2
  have ca := vb.box.cell
  have la := vb.box.lt
  have HS := Lib.hid hs
  have HAT := Lib.hid hat
  have K_ := Lib.hid k
  have HG := Lib.hid hgd
  clear hs hat k hgd
  have HEM : Hid (∀ (q : St × Bool) (p : Int) (z : ByteArray), q.1 = st → Fit c.length (empties st.sh) z → empties (giveP q p z).1.sh ≤ empties st.sh) := fun q p z hq hz => by have := (giveP_inv (q := q) (p := p) (s := z) (by rw [hq]; exact hI) (by rw [hq]; exact hz)).2; rwa [hq] at this
  have HR : Hid (stepAt c st i x = if (giveP (st, false || !(endsB s ⟨#[118]⟩)) ((i : Int) + 1) (cutE s ⟨#[118]⟩)).2 = true then none else some (giveP (st, false || !(endsB s ⟨#[118]⟩)) ((i : Int) + 1) (cutE s ⟨#[118]⟩)).1) := by
    show _ = _
    have ha : after x (st.at_ i) = if (endsB s ⟨#[118]⟩) = true then some (cutN s 1, ⟨#[]⟩) else none := by rw [HS.out]; simp only [after, K_.out]; rfl
    have := step_q (nx' := (cutE s ⟨#[118]⟩)) (lb' := ⟨#[]⟩) HBK.out ha (fun e => by rw [cutE_yes (by first | exact e | exact ((Bool.and_eq_true _ _).mp e).2)]; try rfl) (fun _ => rfl)
    rw [giveP_nil] at this
    exact this
  have hcz := cutE_size s ⟨#[118]⟩ hsz
  have FN : Fit c.length (empties st.sh) (cutE s ⟨#[118]⟩) := (fit_self (cutE_good HG.out) (by have := hcz.2; omega))
  go_enter Tryz.func52, Tryz.ntmps52
  go_upto_region 2 with (fail)
  have h1 := vb.more #[.int .i64 30, .int .i64 x.a, .int .i64 x.b, .int .i64 x.line, .string x.text] 79
  have hcd1 := hcode.alloc (Nat.le_trans hhi vb.rows.bel.size) (.cells #[.int .i64 30, .int .i64 x.a, .int .i64 x.b, .int .i64 x.line, .string x.text] 79)
  obtain ⟨bx, hbx⟩ : ∃ bx, wr.heap.size = bx := ⟨_, rfl⟩
  rw [hbx] at h1 ⊢
  generalize wr.alloc (.cells #[.int .i64 30, .int .i64 x.a, .int .i64 x.b, .int .i64 x.line, .string x.text] 79) = w1 at h1 hcd1 ⊢
  clear ca la qs q0 q1 q2 q3 q4 hcode hbx vb
  have cx := h1.one.cell
  have lx := h1.one.lt
  go_wp2_with fail
  refine (impl_isLabel 30 _).mono ?_; rw [show jumpB 30 = false from rfl]; rintro e w2 ⟨rfl, rfl⟩
  go_wp2_with fail
  have hG := impl_cutEnd h1 s ⟨#[118]⟩ hsz (by omega)
  refine hG.mono ?_; clear hG; rintro e w2 ⟨rfl, sv2, tv2, h2⟩
  dsimp only at h2
  clear cx lx
  have cx := h2.one.cell
  have lx := h2.one.lt
  go_wp2_with fail
  have hG := impl_give h2 hI (by omega) hbig ((i : Int) + 1) (cutE s ⟨#[118]⟩) hcz.1
  refine hG.mono ?_; clear hG; rintro e w3 ⟨rfl, sv3, tv3, h3⟩
  clear cx lx
  have cx := h3.one.cell
  have lx := h3.one.lt
  go_wp2_with fail
  go_end0
  refine ⟨rfl, (giveP (st, false || !endsB s ⟨#[118]⟩) ((i : Int) + 1) (cutE s ⟨#[118]⟩)), ?_⟩
  refine ⟨?_, ?_, ?_⟩
  · exact ⟨_, _, h3.less⟩
  · exact (giveP_inv (q := (st, false || !endsB s ⟨#[118]⟩)) (p := ((i : Int) + 1)) (s := (cutE s ⟨#[118]⟩)) hI FN).1
  · exact HR.out
end Go.Proofs.YtekobbeoaalibaaGreatDoor
