/- (*verifier).visit of the program, operation by operation. -/
import Derived.Test.YtekobbeoaalibaaGreatDoorVisitDefs
namespace Go.Proofs.YtekobbeoaalibaaGreatDoor
open Go.RowKit
set_option linter.unusedVariables false

set_option maxRecDepth 100000 in
set_option maxHeartbeats 2000000 in
theorem visit_27f {w0 wr : World} {b : Nat} {v0 v1 v2 v3 : Value} {Ai : Option Addr} {ni : Nat} {c : List InsT} {st : St} {i : Nat} {x : InsT} {sv tv : Value} {lo hi : Nat} (h : VisIn w0 wr b v0 v1 v2 v3 Ai ni c st i x sv tv lo hi) (k : x.op = 27) (hf : (i : Int) < x.a) :
    Calls Tryz.prog 52 #[.pointer (some ⟨b, 0, none⟩), .int .i64 i] wr (VisPost w0 c.length b v0 v1 v2 v3 Ai ni (stepAt c st i x)) := by
  obtain ⟨vb, hI, hcode, hhi, hbig, hat, hsz, hok⟩ := h
  have hlt : i < c.length := (List.getElem?_eq_some_iff.1 hat).1
  obtain ⟨hgd, hle⟩ := hI.good _ (at_mem hsz) hsz
  obtain ⟨gs, caps, rfl, hgs1, hgs2, hcs1, hcs2⟩ := vb.rows.form (by omega)
  have qs := vb.rows.cell hlt
  obtain ⟨s, hs⟩ : ∃ s, st.at_ i = s := ⟨_, rfl⟩
  rw [hs] at qs hsz hgd hle
  obtain ⟨g, off, hA, hg1, hg2, -, -, q0, q1, q2, q3, q4⟩ := InsT.at_ hcode hat
  subst hA
  rw [k] at q0
  have hla : x.a < c.length := by have := hok.lab (by rw [k]; decide); omega
  have hn : 0 ≤ x.a := by omega
  obtain ⟨an, han⟩ : ∃ an : Nat, x.a = an := ⟨x.a.toNat, by omega⟩
  have HAN := Lib.hid han
  have HBK : Hid (backB c i x = false) := back_far (by omega)
  have hai : an < c.length := by omega
  have hfi : i < an := by omega
  rw [han] at q1
  clear hla hn hf han
  unfold maxLen at hcs2
  have ca := vb.box.cell
  have la := vb.box.lt
  have HS := Lib.hid hs
  have HAT := Lib.hid hat
  have K_ := Lib.hid k
  have HG := Lib.hid hgd
  clear hs hat k hgd
  obtain ⟨z, hz⟩ : ∃ z, (⟨#[UInt8.ofNat (97 + slotsN s)]⟩ : ByteArray) = z := ⟨_, rfl⟩
  have HZ := Lib.hid hz
  have hz1 : 0 < z.size := by rw [← hz, size_one]; omega
  have hz2 : z.size ≤ 1 := by rw [← hz, size_one]; omega
  clear hz
  have HEM : Hid (∀ (q : St × Bool) (p : Int) (z : ByteArray), q.1 = st → Fit c.length (empties st.sh) z → empties (giveP q p z).1.sh ≤ empties st.sh) := fun q p z hq hz => by have := (giveP_inv (q := q) (p := p) (s := z) (by rw [hq]; exact hI) (by rw [hq]; exact hz)).2; rwa [hq] at this
  have HR : Hid (stepAt c st i x = if (giveP (giveP (st, false) ((i : Int) + 1) (s ++ ⟨#[118]⟩)) x.a z).2 = true then none else some (giveP (giveP (st, false) ((i : Int) + 1) (s ++ ⟨#[118]⟩)) x.a z).1) := by
    show _ = _
    have ha : after x (st.at_ i) = if true = true then some ((s ++ ⟨#[118]⟩), z) else none := by rw [HS.out]; simp only [after, K_.out]; rw [HZ.out]; rfl
    have := step_q (nx' := (s ++ ⟨#[118]⟩)) (lb' := z) HBK.out ha (fun _ => rfl) (fun _ => rfl)
    simp only [Bool.not_true, Bool.or_false] at this
    exact this
  rw [HAN.out] at HR
  have FN : Fit c.length (empties st.sh) (s ++ ⟨#[118]⟩) := (fit_app HG.out hle _)
  have FL : Fit c.length (empties st.sh) z := (fit_self (by rw [← HZ.out]; exact good_create HG.out) (by omega))
  have HI2 : Inv c.length (giveP (giveP (st, false) ((i : Int) + 1) (s ++ ⟨#[118]⟩)) (an : Int) z).1 := (giveP_inv (giveP_inv (q := (st, false)) hI FN).1 (Fit.less FL (HEM.out (st, false) _ _ rfl FN))).1
  go_enter Tryz.func52, Tryz.ntmps52
  go_upto_region 2 with (fail)
  have h1 := vb.more #[.int .i64 27, .int .i64 (an : Int), .int .i64 x.b, .int .i64 x.line, .string x.text] 79
  have hcd1 := hcode.alloc (Nat.le_trans hhi vb.rows.bel.size) (.cells #[.int .i64 27, .int .i64 (an : Int), .int .i64 x.b, .int .i64 x.line, .string x.text] 79)
  obtain ⟨bx, hbx⟩ : ∃ bx, wr.heap.size = bx := ⟨_, rfl⟩
  rw [hbx] at h1 ⊢
  generalize wr.alloc (.cells #[.int .i64 27, .int .i64 (an : Int), .int .i64 x.b, .int .i64 x.line, .string x.text] 79) = w1 at h1 hcd1 ⊢
  clear ca la qs q0 q1 q2 q3 q4 hcode hbx vb
  have cx := h1.one.cell
  have lx := h1.one.lt
  go_wp2_with fail
  refine (impl_isLabel 27 _).mono ?_; rw [show jumpB 27 = true from rfl]; rintro e w2 ⟨rfl, rfl⟩
  go_wp2_with fail
  have hG := impl_give h1 hI (by omega) hbig ((i : Int) + 1) (s ++ ⟨#[118]⟩) (by rw [ByteArray.size_append]; omega)
  refine hG.mono ?_; clear hG; rintro e w2 ⟨rfl, sv2, tv2, h2⟩
  clear cx lx
  have cx := h2.one.cell
  have lx := h2.one.lt
  go_wp2_with fail
  have hsl := slots_le HG.out
  have HSL := Lib.hid (fun w => impl_slotsOf s w HG.out)
  have g1 : IntKind.u8.wrap (slotsN s : Int) = (slotsN s : Int) := wrap8 _ (by omega) (by omega)
  have g2 : IntKind.u8.wrap (97 + (slotsN s : Int)) = 97 + (slotsN s : Int) := wrap8 _ (by omega) (by omega)
  have hcv : (convert 77 9 (.slice (some ⟨w2.heap.size, 0, none⟩) 1 1)).run Tryz.prog (w2.alloc (.cells #[.int .u8 (97 + (slotsN s : Int))] 5)).drew = .ok (.string z) (w2.alloc (.cells #[.int .u8 (97 + (slotsN s : Int))] 5)).drew := by
    have := run_convert_byte1 (P := Tryz.prog) 77 9 5 Tryz.underlying77 Tryz.underlying5 Tryz.underlying9 w2.drew (97 + (slotsN s : Int)) 1 5
    rw [show (97 + (slotsN s : Int)).toNat = 97 + slotsN s by omega, HZ.out] at this
    exact this
  have hd := (h2.alloc (.cells #[.int .u8 (97 + (slotsN s : Int))] 5)).same (Same.refl _).drew
  have HIN : Inv c.length (giveP (st, false) ((i : Int) + 1) (s ++ ⟨#[118]⟩)).1 := (giveP_inv (q := (st, false)) (p := ((i : Int) + 1)) (s := (s ++ ⟨#[118]⟩)) hI FN).1
  have hn0 : 0 < c.length := by omega
  go_region_with (first
      | (go_at_call 93; refine (HSL.out _).mono ?_; rintro e wS ⟨rfl, rfl⟩)
      | (go_at_call 51; have hG := impl_give hd HIN hn0 hbig (an : Int) z hz1; refine hG.mono ?_; clear hG; rintro e w3 ⟨rfl, sv3, tv3, h3⟩))
  all_goals
    go_wp2_with fail
    go_end0
    refine ⟨rfl, (giveP (giveP (st, false) ((i : Int) + 1) (s ++ ⟨#[118]⟩)) (an : Int) z), ?_⟩
    refine ⟨?_, ?_, ?_⟩
    · exact ⟨_, _, h3.less⟩
    · exact HI2
    · exact HR.out
set_option maxRecDepth 100000 in
set_option maxHeartbeats 2000000 in
theorem visit_27b {w0 wr : World} {b : Nat} {v0 v1 v2 v3 : Value} {Ai : Option Addr} {ni : Nat} {c : List InsT} {st : St} {i : Nat} {x : InsT} {sv tv : Value} {lo hi : Nat} (h : VisIn w0 wr b v0 v1 v2 v3 Ai ni c st i x sv tv lo hi) (k : x.op = 27) (hn : 0 ≤ x.a) (hf : x.a ≤ i) :
    Calls Tryz.prog 52 #[.pointer (some ⟨b, 0, none⟩), .int .i64 i] wr (VisPost w0 c.length b v0 v1 v2 v3 Ai ni (stepAt c st i x)) := by
  obtain ⟨vb, hI, hcode, hhi, hbig, hat, hsz, hok⟩ := h
  have hlt : i < c.length := (List.getElem?_eq_some_iff.1 hat).1
  obtain ⟨hgd, hle⟩ := hI.good _ (at_mem hsz) hsz
  obtain ⟨gs, caps, rfl, hgs1, hgs2, hcs1, hcs2⟩ := vb.rows.form (by omega)
  have qs := vb.rows.cell hlt
  obtain ⟨s, hs⟩ : ∃ s, st.at_ i = s := ⟨_, rfl⟩
  rw [hs] at qs hsz hgd hle
  obtain ⟨g, off, hA, hg1, hg2, -, -, q0, q1, q2, q3, q4⟩ := InsT.at_ hcode hat
  subst hA
  rw [k] at q0
  have hla : x.a < c.length := by have := hok.lab (by rw [k]; decide); omega
  obtain ⟨an, han⟩ : ∃ an : Nat, x.a = an := ⟨x.a.toNat, by omega⟩
  have HAN := Lib.hid han
  obtain ⟨y, hy⟩ : ∃ y, c[an]? = some y := ⟨_, List.getElem?_eq_getElem (by omega)⟩
  have HBK : Hid (backB c i x = (false || !(y.op == 18))) := (back_at (by rw [k]; decide) ⟨hn, hf⟩ (by rw [han]; exact hy)).trans (Bool.false_or _).symm
  obtain ⟨g_, off_, hA_, -, -, -, -, y0, -⟩ := InsT.at_ hcode hy
  injection hA_ with hA_; injection hA_ with hA1 hA2; subst hA1 hA2
  have hai : an < c.length := by omega
  have hfi : an ≤ i := by omega
  rw [han] at q1
  clear hla hn hf han
  unfold maxLen at hcs2
  have ca := vb.box.cell
  have la := vb.box.lt
  have HS := Lib.hid hs
  have HAT := Lib.hid hat
  have K_ := Lib.hid k
  have HG := Lib.hid hgd
  clear hs hat k hgd
  obtain ⟨z, hz⟩ : ∃ z, (⟨#[UInt8.ofNat (97 + slotsN s)]⟩ : ByteArray) = z := ⟨_, rfl⟩
  have HZ := Lib.hid hz
  have hz1 : 0 < z.size := by rw [← hz, size_one]; omega
  have hz2 : z.size ≤ 1 := by rw [← hz, size_one]; omega
  clear hz
  have HEM : Hid (∀ (q : St × Bool) (p : Int) (z : ByteArray), q.1 = st → Fit c.length (empties st.sh) z → empties (giveP q p z).1.sh ≤ empties st.sh) := fun q p z hq hz => by have := (giveP_inv (q := q) (p := p) (s := z) (by rw [hq]; exact hI) (by rw [hq]; exact hz)).2; rwa [hq] at this
  have HR : Hid (stepAt c st i x = if (giveP (giveP (st, (false || !(y.op == 18))) ((i : Int) + 1) (s ++ ⟨#[118]⟩)) x.a z).2 = true then none else some (giveP (giveP (st, (false || !(y.op == 18))) ((i : Int) + 1) (s ++ ⟨#[118]⟩)) x.a z).1) := by
    show _ = _
    have ha : after x (st.at_ i) = if true = true then some ((s ++ ⟨#[118]⟩), z) else none := by rw [HS.out]; simp only [after, K_.out]; rw [HZ.out]; rfl
    have := step_q (nx' := (s ++ ⟨#[118]⟩)) (lb' := z) HBK.out ha (fun _ => rfl) (fun _ => rfl)
    simp only [Bool.not_true, Bool.or_false] at this
    exact this
  rw [HAN.out] at HR
  have FN : Fit c.length (empties st.sh) (s ++ ⟨#[118]⟩) := (fit_app HG.out hle _)
  have FL : Fit c.length (empties st.sh) z := (fit_self (by rw [← HZ.out]; exact good_create HG.out) (by omega))
  have HI2 : Inv c.length (giveP (giveP (st, (false || !(y.op == 18))) ((i : Int) + 1) (s ++ ⟨#[118]⟩)) (an : Int) z).1 := (giveP_inv (giveP_inv (q := (st, (false || !(y.op == 18)))) hI FN).1 (Fit.less FL (HEM.out (st, (false || !(y.op == 18))) _ _ rfl FN))).1
  go_enter Tryz.func52, Tryz.ntmps52
  go_upto_region 2 with (fail)
  have h1 := vb.more #[.int .i64 27, .int .i64 (an : Int), .int .i64 x.b, .int .i64 x.line, .string x.text] 79
  have hcd1 := hcode.alloc (Nat.le_trans hhi vb.rows.bel.size) (.cells #[.int .i64 27, .int .i64 (an : Int), .int .i64 x.b, .int .i64 x.line, .string x.text] 79)
  obtain ⟨bx, hbx⟩ : ∃ bx, wr.heap.size = bx := ⟨_, rfl⟩
  rw [hbx] at h1 ⊢
  generalize wr.alloc (.cells #[.int .i64 27, .int .i64 (an : Int), .int .i64 x.b, .int .i64 x.line, .string x.text] 79) = w1 at h1 hcd1 ⊢
  clear y0
  obtain ⟨g_, off_, hA_, -, -, -, -, y0, -⟩ := InsT.at_ hcd1 hy
  injection hA_ with hA_; injection hA_ with hA1 hA2; subst hA1 hA2
  have HY := Lib.hid hy
  clear hy
  clear ca la qs q0 q1 q2 q3 q4 hcode hbx vb
  have cx := h1.one.cell
  have lx := h1.one.lt
  have ca := h1.box.cell
  have la := h1.box.lt
  go_wp2_with fail
  refine (impl_isLabel 27 _).mono ?_; rw [show jumpB 27 = true from rfl]; rintro e w2 ⟨rfl, rfl⟩
  go_wp2_with fail
  go_still_tail 12, (by kernel_rfl)
  change wpList _ _ _ _ _ w1.drew
  have h1d := h1.same (Same.refl w1).drew
  generalize w1.drew = w1d at h1d ⊢
  go_wp2_with fail
  have hG := impl_need h1d (y.op == 18)
  refine hG.mono ?_; clear hG; rintro e w2 ⟨rfl, sv2, tv2, h2⟩
  dsimp only at h2
  clear cx lx
  have cx := h2.one.cell
  have lx := h2.one.lt
  go_wp2_with fail
  have hG := impl_give h2 hI (by omega) hbig ((i : Int) + 1) (s ++ ⟨#[118]⟩) (by rw [ByteArray.size_append]; omega)
  refine hG.mono ?_; clear hG; rintro e w3 ⟨rfl, sv3, tv3, h3⟩
  clear cx lx
  have cx := h3.one.cell
  have lx := h3.one.lt
  go_wp2_with fail
  have hsl := slots_le HG.out
  have HSL := Lib.hid (fun w => impl_slotsOf s w HG.out)
  have g1 : IntKind.u8.wrap (slotsN s : Int) = (slotsN s : Int) := wrap8 _ (by omega) (by omega)
  have g2 : IntKind.u8.wrap (97 + (slotsN s : Int)) = 97 + (slotsN s : Int) := wrap8 _ (by omega) (by omega)
  have hcv : (convert 77 9 (.slice (some ⟨w3.heap.size, 0, none⟩) 1 1)).run Tryz.prog (w3.alloc (.cells #[.int .u8 (97 + (slotsN s : Int))] 5)).drew = .ok (.string z) (w3.alloc (.cells #[.int .u8 (97 + (slotsN s : Int))] 5)).drew := by
    have := run_convert_byte1 (P := Tryz.prog) 77 9 5 Tryz.underlying77 Tryz.underlying5 Tryz.underlying9 w3.drew (97 + (slotsN s : Int)) 1 5
    rw [show (97 + (slotsN s : Int)).toNat = 97 + slotsN s by omega, HZ.out] at this
    exact this
  have hd := (h3.alloc (.cells #[.int .u8 (97 + (slotsN s : Int))] 5)).same (Same.refl _).drew
  have HIN : Inv c.length (giveP (st, false || !(y.op == 18)) ((i : Int) + 1) (s ++ ⟨#[118]⟩)).1 := (giveP_inv (q := (st, false || !(y.op == 18))) (p := ((i : Int) + 1)) (s := (s ++ ⟨#[118]⟩)) hI FN).1
  have hn0 : 0 < c.length := by omega
  go_region_with (first
      | (go_at_call 93; refine (HSL.out _).mono ?_; rintro e wS ⟨rfl, rfl⟩)
      | (go_at_call 51; have hG := impl_give hd HIN hn0 hbig (an : Int) z hz1; refine hG.mono ?_; clear hG; rintro e w4 ⟨rfl, sv4, tv4, h4⟩))
  all_goals
    go_wp2_with fail
    go_end0
    refine ⟨rfl, (giveP (giveP (st, false || !(y.op == 18)) ((i : Int) + 1) (s ++ ⟨#[118]⟩)) (an : Int) z), ?_⟩
    refine ⟨?_, ?_, ?_⟩
    · exact ⟨_, _, h4.less⟩
    · exact HI2
    · exact HR.out
end Go.Proofs.YtekobbeoaalibaaGreatDoor
