/- Km, Qx of the reference: do the aj of a pattern fit its Im -/
import Derived.Test.YtoddlphekcihgaaGreatDoorQ14
import Derived.Test.YtoddlphekcihgaaGreatDoorQ20
set_option maxRecDepth 100000
set_option maxHeartbeats 8000000
set_option linter.unusedVariables false
set_option linter.unusedSimpArgs false
namespace Go.Proofs.YtoddlphekcihgaaGreatDoor
open Go.RowKit
def qW (op : Int) (w : World) (e : Ending) (w' : World) : Prop := ∃ v, e = .returned v ∧ dz w' w.heap.size w'.heap.size 1 gW v (jT op) ∧ Below w.heap.size w w'
theorem qW.lit {w : World} {op : Int} (t : TypeId) (ks : List Int) (e : jT op = ks) (hk : ks.length ≤ 2) : qW op w (.returned (.slice (some ⟨w.heap.size, 0, none⟩) ks.length ks.length)) (w.alloc (.cells (ks.map (Value.int .i64)).toArray t)) := by
 refine ⟨_, rfl, ?_, bA _ _⟩
 rw [e]
 exact GH w t ks (by unfold maxLen; omega)
theorem qW.none_ {w : World} {op : Int} (e : jT op = []) : qW op w (.returned (.slice none 0 0)) w := by
 refine ⟨_, rfl, ?_, bR _ _⟩
 rw [e]
 exact Rep.u7 (vs := []) ⟨_, _, rfl, nR _, nZ _, by simp, (fun _ => rfl), fun hp => absurd hp (by simp)⟩ eU.lu
theorem xW (op : Int) (w : World) : Calls Tryz.prog 151 #[.int .i64 op] w (qW op w) := by
 by_cases hop : op = 1
 ·skip
  have e1 := nE hop
  simp only [Int.reduceBEq] at e1
  obtain ⟨e1, e2, e3, e4, e5, e6, e7, e8, e9, e10, e13, e14, e15, e16, e17, e18, e20⟩ := e1
  have hK : jT op = [2] := by rw [hop]; decide
  clear hop
  as_aux_lemma =>
   go_enter Tryz.func151, Tryz.ntmps151
   go_wp2_with fail
   go_ret
   exact qW.lit 3 [2] hK (by decide)
 have h1 := hop
 clear hop
 by_cases hop : op = 2
 skip
 have e1 := nE hop
 simp only [Int.reduceBEq] at e1
 obtain ⟨e1, e2, e3, e4, e5, e6, e7, e8, e9, e10, e13, e14, e15, e16, e17, e18, e20⟩ := e1
 have hK : jT op = [1] := by rw [hop]; decide
 clear hop
 rotate_left
 have h2 := hop
 clear hop
 by_cases hop : op = 3
 skip
 have e1 := nE hop
 simp only [Int.reduceBEq] at e1
 obtain ⟨e1, e2, e3, e4, e5, e6, e7, e8, e9, e10, e13, e14, e15, e16, e17, e18, e20⟩ := e1
 have hK : jT op = [1] := by rw [hop]; decide
 clear hop
 rotate_left
 have h3 := hop
 clear hop
 by_cases hop : op = 4
 skip
 have e1 := nE hop
 simp only [Int.reduceBEq] at e1
 obtain ⟨e1, e2, e3, e4, e5, e6, e7, e8, e9, e10, e13, e14, e15, e16, e17, e18, e20⟩ := e1
 have hK : jT op = [1] := by rw [hop]; decide
 clear hop
 rotate_left
 have h4 := hop
 clear hop
 by_cases hop : op = 5
 skip
 have e1 := nE hop
 simp only [Int.reduceBEq] at e1
 obtain ⟨e1, e2, e3, e4, e5, e6, e7, e8, e9, e10, e13, e14, e15, e16, e17, e18, e20⟩ := e1
 have hK : jT op = [1] := by rw [hop]; decide
 clear hop
 rotate_left
 have h5 := hop
 clear hop
 by_cases hop : op = 6
 skip
 have e1 := nE hop
 simp only [Int.reduceBEq] at e1
 obtain ⟨e1, e2, e3, e4, e5, e6, e7, e8, e9, e10, e13, e14, e15, e16, e17, e18, e20⟩ := e1
 have hK : jT op = [1] := by rw [hop]; decide
 clear hop
 rotate_left
 rotate_right 5
 iterate 5 focus
  as_aux_lemma =>
   go_enter Tryz.func151, Tryz.ntmps151
   go_wp2_with fail
   go_ret
   exact qW.lit 3 [1] hK (by decide)
 have h6 := hop
 clear hop
 by_cases hop : op = 7
 ·skip
  have e1 := nE hop
  simp only [Int.reduceBEq] at e1
  obtain ⟨e1, e2, e3, e4, e5, e6, e7, e8, e9, e10, e13, e14, e15, e16, e17, e18, e20⟩ := e1
  have hK : jT op = [3] := by rw [hop]; decide
  clear hop
  as_aux_lemma =>
   go_enter Tryz.func151, Tryz.ntmps151
   go_wp2_with fail
   go_ret
   exact qW.lit 3 [3] hK (by decide)
 have h7 := hop
 clear hop
 by_cases hop : op = 8
 ·skip
  have e1 := nE hop
  simp only [Int.reduceBEq] at e1
  obtain ⟨e1, e2, e3, e4, e5, e6, e7, e8, e9, e10, e13, e14, e15, e16, e17, e18, e20⟩ := e1
  have hK : jT op = [3] := by rw [hop]; decide
  clear hop
  as_aux_lemma =>
   go_enter Tryz.func151, Tryz.ntmps151
   go_wp2_with fail
   go_ret
   exact qW.lit 3 [3] hK (by decide)
 have h8 := hop
 clear hop
 by_cases hop : op = 9
 ·skip
  have e1 := nE hop
  simp only [Int.reduceBEq] at e1
  obtain ⟨e1, e2, e3, e4, e5, e6, e7, e8, e9, e10, e13, e14, e15, e16, e17, e18, e20⟩ := e1
  have hK : jT op = [3] := by rw [hop]; decide
  clear hop
  as_aux_lemma =>
   go_enter Tryz.func151, Tryz.ntmps151
   go_wp2_with fail
   go_ret
   exact qW.lit 3 [3] hK (by decide)
 have h9 := hop
 clear hop
 by_cases hop : op = 10
 ·skip
  have e1 := nE hop
  simp only [Int.reduceBEq] at e1
  obtain ⟨e1, e2, e3, e4, e5, e6, e7, e8, e9, e10, e13, e14, e15, e16, e17, e18, e20⟩ := e1
  have hK : jT op = [3] := by rw [hop]; decide
  clear hop
  as_aux_lemma =>
   go_enter Tryz.func151, Tryz.ntmps151
   go_wp2_with fail
   go_ret
   exact qW.lit 3 [3] hK (by decide)
 have h10 := hop
 clear hop
 by_cases hop : op = 13
 ·skip
  have e1 := nE hop
  simp only [Int.reduceBEq] at e1
  obtain ⟨e1, e2, e3, e4, e5, e6, e7, e8, e9, e10, e13, e14, e15, e16, e17, e18, e20⟩ := e1
  have hK : jT op = [12] := by rw [hop]; decide
  clear hop
  as_aux_lemma =>
   go_enter Tryz.func151, Tryz.ntmps151
   go_wp2_with fail
   go_ret
   exact qW.lit 3 [12] hK (by decide)
 have h13 := hop
 clear hop
 by_cases hop : op = 14
 ·skip
  have e1 := nE hop
  simp only [Int.reduceBEq] at e1
  obtain ⟨e1, e2, e3, e4, e5, e6, e7, e8, e9, e10, e13, e14, e15, e16, e17, e18, e20⟩ := e1
  have hK : jT op = [12, 12] := by rw [hop]; decide
  clear hop
  as_aux_lemma =>
   go_enter Tryz.func151, Tryz.ntmps151
   go_wp2_with fail
   go_ret
   exact qW.lit 3 [12, 12] hK (by decide)
 have h14 := hop
 clear hop
 by_cases hop : op = 15
 ·skip
  have e1 := nE hop
  simp only [Int.reduceBEq] at e1
  obtain ⟨e1, e2, e3, e4, e5, e6, e7, e8, e9, e10, e13, e14, e15, e16, e17, e18, e20⟩ := e1
  have hK : jT op = [12, 12] := by rw [hop]; decide
  clear hop
  as_aux_lemma =>
   go_enter Tryz.func151, Tryz.ntmps151
   go_wp2_with fail
   go_ret
   exact qW.lit 3 [12, 12] hK (by decide)
 have h15 := hop
 clear hop
 by_cases hop : op = 16
 ·skip
  have e1 := nE hop
  simp only [Int.reduceBEq] at e1
  obtain ⟨e1, e2, e3, e4, e5, e6, e7, e8, e9, e10, e13, e14, e15, e16, e17, e18, e20⟩ := e1
  have hK : jT op = [12, 13] := by rw [hop]; decide
  clear hop
  as_aux_lemma =>
   go_enter Tryz.func151, Tryz.ntmps151
   go_wp2_with fail
   go_ret
   exact qW.lit 3 [12, 13] hK (by decide)
 have h16 := hop
 clear hop
 by_cases hop : op = 17
 ·skip
  have e1 := nE hop
  simp only [Int.reduceBEq] at e1
  obtain ⟨e1, e2, e3, e4, e5, e6, e7, e8, e9, e10, e13, e14, e15, e16, e17, e18, e20⟩ := e1
  have hK : jT op = [12, 13] := by rw [hop]; decide
  clear hop
  as_aux_lemma =>
   go_enter Tryz.func151, Tryz.ntmps151
   go_wp2_with fail
   go_ret
   exact qW.lit 3 [12, 13] hK (by decide)
 have h17 := hop
 clear hop
 by_cases hop : op = 18
 ·skip
  have e1 := nE hop
  simp only [Int.reduceBEq] at e1
  obtain ⟨e1, e2, e3, e4, e5, e6, e7, e8, e9, e10, e13, e14, e15, e16, e17, e18, e20⟩ := e1
  have hK : jT op = [13] := by rw [hop]; decide
  clear hop
  as_aux_lemma =>
   go_enter Tryz.func151, Tryz.ntmps151
   go_wp2_with fail
   go_ret
   exact qW.lit 3 [13] hK (by decide)
 have h18 := hop
 clear hop
 by_cases hop : op = 20
 ·skip
  have e1 := nE hop
  simp only [Int.reduceBEq] at e1
  obtain ⟨e1, e2, e3, e4, e5, e6, e7, e8, e9, e10, e13, e14, e15, e16, e17, e18, e20⟩ := e1
  have hK : jT op = [13] := by rw [hop]; decide
  clear hop
  as_aux_lemma =>
   go_enter Tryz.func151, Tryz.ntmps151
   go_wp2_with fail
   go_ret
   exact qW.lit 3 [13] hK (by decide)
 have h20 := hop
 clear hop
 have e1 : (op == 1) = false := by simp; omega
 have e2 : (op == 2) = false := by simp; omega
 have e3 : (op == 3) = false := by simp; omega
 have e4 : (op == 4) = false := by simp; omega
 have e5 : (op == 5) = false := by simp; omega
 have e6 : (op == 6) = false := by simp; omega
 have e7 : (op == 7) = false := by simp; omega
 have e8 : (op == 8) = false := by simp; omega
 have e9 : (op == 9) = false := by simp; omega
 have e10 : (op == 10) = false := by simp; omega
 have e13 : (op == 13) = false := by simp; omega
 have e14 : (op == 14) = false := by simp; omega
 have e15 : (op == 15) = false := by simp; omega
 have e16 : (op == 16) = false := by simp; omega
 have e17 : (op == 17) = false := by simp; omega
 have e18 : (op == 18) = false := by simp; omega
 have e20 : (op == 20) = false := by simp; omega
 have hK : jT op = [] := by unfold jT; rw [if_neg (by omega), if_neg (by omega), if_neg (by omega), if_neg (by omega), if_neg (by omega), if_neg (by omega), if_neg (by omega), if_neg (by omega)]
 clear h1 h2 h3 h4 h5 h6 h7 h8 h9 h10 h13 h14 h15 h16 h17 h18 h20
 as_aux_lemma =>
  go_enter Tryz.func151, Tryz.ntmps151
  go_wp2_with fail
  go_ret
  exact qW.none_ hK
theorem Br (s : dP) (kind tag ak : Int) (aj aX : List aQ) (Ai Ak : Option Addr) (ni nk : Nat) (w : World) {g off lo hi lo' hi' : Nat} (h : At w g off lo hi dP.ay s)
 (hi_ : dz w lo' hi' 6 aQ.ay (.slice Ai aj.length ni) aj) (hhi : hi' ≤ w.heap.size) :
 Calls Tryz.prog 122 #[.pointer (some ⟨g, off, none⟩), .agg #[Value.int .i64 kind, .int .i64 tag, .int .i64 ak, .slice Ai aj.length ni, .slice Ak aX.length nk]] w fun e w' => e = .returned (.bool (yc s tag aj)) ∧ Below w.heap.size w w' := by
 obtain ⟨A', c', hA', hc1, hc2⟩ := hi_.shape
 injection hA' with e1 _ e2
 subst e1 e2
 unfold maxLen at hc2
 generalize hV : yc s tag aj = V
 have HE : Hid (V = (decide (1 ≤ tag ∧ tag ≤ 23) && jU s (jT tag) aj)) := by rw [← hV]; rfl
 clear hV
 obtain ⟨a0, hW⟩ := eZ w 97 #[.int .i64 kind, .int .i64 tag, .int .i64 ak, .slice Ai aj.length ni, .slice Ak aX.length nk]
 go_enter Tryz.func122, Tryz.ntmps122
 go_upto_region 1 with fail
 generalize w.alloc (.cells #[Value.int .i64 kind, .int .i64 tag, .int .i64 ak, .slice Ai aj.length ni, .slice Ak aX.length nk] 97) = W at *
 have ca := a0.cell
 have la := a0.lt
 go_wp2_with fail
 refine (xW tag _).mono ?_; rintro e w1 ⟨kv, rfl, hks, hb1⟩
 replace hW := hW.trans (hb1.mono hW.size)
 replace a0 := a0.later hb1
 replace ca := a0.cell
 replace la := a0.lt
 obtain ⟨B, nB, rfl, k1, k2⟩ := hks.shape
 unfold maxLen at k2
 clear hb1
 have HLen := lH (fun h => wX (s := s) (a := jT tag) (c := aj) h)
 have HAt := lH (fun (j : Nat) (k : Int) (v : aQ) ha hc hq hl => AU (s := s) (a := jT tag) (c := aj) (j := j) (k := k) (v := v) ha hc hq [] [] hl)
 have HSn := lH (fun (j : Nat) (k : Int) (v : aQ) ha hc => uM (s := s) (a := jT tag) (c := aj) (j := j) (k := k) (v := v) ha hc)
 generalize jT tag = ks at *
 by_cases hln : ks.length = aj.length
 rotate_left
 ·have HO : Hid (V = false) := lH (by rw [HE.out, HLen.out hln, Bool.and_false])
  have e1 : ((ks.length : Int) != (aj.length : Int)) = true := by simp; omega
  clear hln HE
  go_wp2_with fail
  go_ret
  exact ⟨ah HO.out.symm, hW⟩
 have e1 : ((ks.length : Int) != (aj.length : Int)) = false := by simp; omega
 have l1 : ks.length ≤ aj.length := by omega
 have l2 : aj.length ≤ ks.length := by omega
 rcases dC (tag < 1) with ⟨t1, dt1⟩ | ⟨t1, dt1⟩
 ·have HO : Hid (V = false) := lH (by rw [HE.out, dF (show ¬ (1 ≤ tag ∧ tag ≤ 23) by omega)]; rfl)
  clear hln HE t1
  go_wp2_with fail
  go_ret
  exact ⟨ah HO.out.symm, hW⟩
 rcases dC ((23 : Int) < tag) with ⟨t2, dt2⟩ | ⟨t2, dt2⟩
 ·have HO : Hid (V = false) := lH (by rw [HE.out, dF (show ¬ (1 ≤ tag ∧ tag ≤ 23) by omega)]; rfl)
  clear hln HE t2
  go_wp2_with fail
  go_ret
  exact ⟨ah HO.out.symm, hW⟩
 have HE : Hid (V = jU s ks aj) := lH (by rw [HE.out, dT (show 1 ≤ tag ∧ tag ≤ 23 by omega)]; rfl)
 have HAt : Hid (∀ (j : Nat) (k : Int) (v : aQ), ks[j]? = some k → aj[j]? = some v → qU s k v = false → V = false) := fun j k v ha hc hq => by have := HAt.out j k v ha hc hq hln; rw [List.append_nil, List.append_nil] at this; rw [HE.out, this]
 have Tv : Hid (jU s (ks.take aj.length) (aj.take aj.length) = true → V = true) := fun h => by rw [List.take_length, List.take_of_length_le (by omega)] at h; rw [HE.out, h]
 clear hln HE t1 t2 HLen
 go_wp2_with fail
 go_loopw [6] (fun i wr => ∃ k : Nat, k ≤ aj.length ∧ i = .int .i64 k ∧ Hid (jU s (ks.take k) (aj.take k) = true) ∧ Below w1.heap.size w1 wr ∧ Blk wr w.heap.size 97 #[Value.int .i64 kind, .int .i64 tag, .int .i64 ak, .slice Ai aj.length ni, .slice Ak aX.length nk]) (fun i _ => aj.length - (intOf i).toNat)
 case atStart => exact ⟨0, nZ _, rfl, by simp [Hid, jU], bR _ _, a0⟩
 case round =>
  clear a0 ca la
  obtain ⟨k, hk, rfl, hgo, hb1, a0⟩ := hrel
  obtain ⟨wo, rfl⟩ := nW wr
  have hb := hW.trans (hb1.mono hW.size)
  have hz := hb.size
  have hz1 := hb1.size
  have ca := a0.cell
  have la := a0.lt
  by_cases hlt : k < aj.length
  ·obtain ⟨c, hc⟩ : ∃ c, aj[k]? = some c := ⟨_, gE hlt⟩
   obtain ⟨kd, hkd⟩ : ∃ c, ks[k]? = some c := ⟨_, gE (by omega)⟩
   obtain ⟨gk, ok, rfl, Vu, U1, p0⟩ := (hks.below hb1 (nR _)).num hkd
   have Tw : gk < wo.heap.size := nL U1 hz1
   obtain ⟨g', off', rfl, hg1, hg2, hmem, hrep, q0, q1, q2, q3, q4, q5⟩ := aQ.at_ (hi_.below hb hhi) hc
   have hkl : k < ks.length := by omega
   have HF := lH (fun h => HAt.out k kd c hkd hc h)
   have HN := lH (HSn.out k kd c hkd hc)
   have hwa : Below w1.heap.size w1 (wo.alloc (.cells #[Value.int .i64 c.kind, .int .i64 c.number, .int .i64 c.index, .string c.text, .int .i64 c.eB, .int .i64 c.dW] 56)) := hb1.alloc hz1 _
   have a1 := a0.alloc (.cells #[Value.int .i64 c.kind, .int .i64 c.number, .int .i64 c.index, .string c.text, .int .i64 c.eB, .int .i64 c.dW] 56)
   have b0 := Blk.new wo 56 #[Value.int .i64 c.kind, .int .i64 c.number, .int .i64 c.index, .string c.text, .int .i64 c.eB, .int .i64 c.dW]
   have h2 := h.below (hW.trans (hwa.mono hW.size))
   replace p0 : (wo.alloc (.cells #[Value.int .i64 c.kind, .int .i64 c.number, .int .i64 c.index, .string c.text, .int .i64 c.eB, .int .i64 c.dW] 56)).cell? ⟨gk, ok + k, none⟩ = _ := (World.cell?_alloc_past (w := wo) (.cells #[Value.int .i64 c.kind, .int .i64 c.number, .int .i64 c.index, .string c.text, .int .i64 c.eB, .int .i64 c.dW] 56) gk (ok + k) Tw).trans p0
   have U2 : gk < (wo.alloc (.cells #[Value.int .i64 c.kind, .int .i64 c.number, .int .i64 c.index, .string c.text, .int .i64 c.eB, .int .i64 c.dW] 56)).heap.size := nL Tw (by simp)
   clear hmem hrep hkd hc
   go_upto_region 8 with fail
   generalize wo.alloc (.cells #[Value.int .i64 c.kind, .int .i64 c.number, .int .i64 c.index, .string c.text, .int .i64 c.eB, .int .i64 c.dW] 56) = W2 at *
   clear q0 q1 q2 q3 q4 q5 ca la
   have ca := b0.cell
   have la := b0.lt
   go_wp2_with fail
   refine (mH s c _ _ h2 (aQ.mk_ (lo := 0) (hi := 0))).mono ?_; rintro e w2 ⟨rfl, hb1⟩
   replace hwa := hwa.trans (hb1.mono hwa.size)
   replace a1 := a1.later hb1
   replace b0 := b0.later hb1
   replace ca := b0.cell
   replace la := b0.lt
   replace p0 := (hb1.cell (p := ⟨gk, ok + k, none⟩) U2).trans p0
   clear hb1 h2 hb a0 hz hz1
   cases hq : cK s c with
   | false =>
     have HV := lH (HF.out (by unfold qU; rw [hq]; rfl))
     clear hq HN
     go_wp2_with fail
     go_ret
     exact ⟨ah HV.out.symm, hW.trans (hwa.mono hW.size)⟩
   | true =>
   have HQ := lH hq
   clear hq
   have END : w.heap.size ≤ w1.heap.size := hW.size
   by_cases k13 : kd = 13
   ·have e0 : (kd == 13) = true := by simp [k13]
    have HI : Hid (qU s kd c = decide (c.kind = 13 ∨ c.kind = 14)) := by show _ = _; unfold qU; rw [HQ.out, if_pos k13]; rfl
    clear k13
    by_cases c13 : c.kind = 13
    have f0 : (c.kind != 13) = false := by simp [c13]
    have HN : Hid (jU s (ks.take (k + 1)) (aj.take (k + 1)) = true) := lH (by rw [HN.out, hgo.out, HI.out, dT (.inl c13)]; rfl)
    clear c13 HF HI hgo
    rotate_left
    have f0 : (c.kind != 13) = true := by simp [c13]
    by_cases c14 : c.kind = 14
    have f1 : (c.kind != 14) = false := by simp [c14]
    have HN : Hid (jU s (ks.take (k + 1)) (aj.take (k + 1)) = true) := lH (by rw [HN.out, hgo.out, HI.out, dT (.inr c14)]; rfl)
    clear c13 c14 HF HI hgo
    rotate_left
    rotate_right 2
    iterate 2 focus
     go_wp2_with fail
     go_roundw
     case rel => exact ⟨k + 1, by omega, by go_num, HN, hwa, a1⟩
     case measure => simp [intOf]; omega
    have f1 : (c.kind != 14) = true := by simp [c14]
    have HV := lH (HF.out (by rw [HI.out]; exact dF (by omega)))
    clear c13 c14 HN HI
    go_wp2_with fail
    go_ret
    exact ⟨ah HV.out.symm, hW.trans (hwa.mono hW.size)⟩
   have e0 : (kd == 13) = false := by simp [k13]
   have HI : Hid (qU s kd c = decide (c.kind = kd)) := by show _ = _; unfold qU; rw [HQ.out, if_neg k13]; rfl
   clear k13
   by_cases ck : c.kind = kd
   ·have f0 : (c.kind != kd) = false := by simp [ck]
    have HN : Hid (jU s (ks.take (k + 1)) (aj.take (k + 1)) = true) := lH (by rw [HN.out, hgo.out, HI.out, dT ck]; rfl)
    clear ck HF HI hgo
    go_upto_region 13 with fail
    go_quiet (fail)
    go_wp2_with fail
    go_roundw
    case rel => exact ⟨k + 1, by omega, by go_num, HN, bN hwa _, a1.drewN _⟩
    case measure => simp [intOf]; omega
   have f0 : (c.kind != kd) = true := by simp [ck]
   have HV := lH (HF.out (by rw [HI.out]; exact dF ck))
   clear ck HN HI
   go_upto_region 13 with fail
   go_quiet (fail)
   go_wp2_with fail
   go_ret
   exact ⟨ah HV.out.symm, bN (hW.trans (hwa.mono hW.size)) _⟩
  ·obtain rfl : k = aj.length := by omega
   have HV := lH (Tv.out hgo.out)
   clear Tv HAt HSn
   go_wp2_with fail
   go_ret
   exact ⟨ah HV.out.symm, hb⟩
end Go.Proofs.YtoddlphekcihgaaGreatDoor
