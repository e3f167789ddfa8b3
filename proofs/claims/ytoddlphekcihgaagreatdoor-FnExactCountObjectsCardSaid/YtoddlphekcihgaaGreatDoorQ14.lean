/- NJ of the program: do the aj of a pattern fit its Im -/
import Derived.Test.YtoddlphekcihgaaGreatDoorQ12
import Derived.Test.YtoddlphekcihgaaGreatDoorQ13
import Derived.Deep.CutBlock
set_option maxRecDepth 100000
set_option maxHeartbeats 8000000
set_option linter.unusedVariables false
set_option linter.unusedSimpArgs false
namespace Go.Proofs.YtoddlphekcihgaaGreatDoor
open Go.RowKit
theorem AX {w : World} {lo hi : Nat} : ∀ {l : List Int}, eU w lo hi (flat gW l) (l.map (Value.int .i64))
 | [] => eU.lu
 | s :: l => by rw [ru]; exact eU.dJ Rep.mkInt AX
theorem GH (w : World) (t : TypeId) (ks : List Int) (hk : ks.length ≤ maxLen) : dz (w.alloc (.cells (ks.map (Value.int .i64)).toArray t)) w.heap.size (w.alloc (.cells (ks.map (Value.int .i64)).toArray t)).heap.size 1 gW (.slice (some ⟨w.heap.size, 0, none⟩) ks.length ks.length) ks := by
 refine Rep.u7 (vs := ks.map (Value.int .i64)) ⟨_, _, rfl, nR _, hk, by simp, (fun e => by cases e), fun hp => ⟨w.heap.size, 0, rfl, nR _, by simp, fun j u hu => ?_⟩⟩ AX
 rw [Nat.zero_add, World.cell?_alloc_new]
 simpa using hu
def sW (w : World) (op : Int) (kv vb : Value) (wx : World) : Prop := vb = .bool (qZ op) ∧ ∃ gk, kv = .slice (some ⟨gk, 0, none⟩) (mY op).length (mY op).length ∧ dz wx w.heap.size wx.heap.size 1 gW kv (mY op) ∧ Below w.heap.size w wx
theorem sW.lit {w wo : World} {op : Int} {vb : Value} (t : TypeId) (ks : List Int) (hb : Below w.heap.size w wo) (e : mY op = ks) (hv : vb = .bool (qZ op)) (hk : ks.length ≤ 2) (p : Nat) (hp : p = wo.heap.size) : sW w op (.slice (some ⟨p, 0, none⟩) ks.length ks.length) vb (wo.alloc (.cells (ks.map (Value.int .i64)).toArray t)) := by
 subst hp
 refine ⟨hv, wo.heap.size, by rw [e], ?_, hb.alloc hb.size _⟩
 rw [e]
 exact (GH wo t ks (by unfold maxLen; omega)).wide hb.size (nR _)
theorem sW.none_ {w wo : World} {op : Int} {vb : Value} {gk : Nat} (hb : Below w.heap.size w wo) (e : mY op = []) (hv : vb = .bool (qZ op)) : sW w op (.slice (some ⟨gk, 0, none⟩) 0 0) vb wo := by
 refine ⟨hv, gk, by rw [e]; rfl, ?_, hb⟩
 rw [e]
 exact Rep.u7 (vs := []) ⟨_, _, rfl, nR _, nZ _, by simp, (fun e => by cases e), fun hp => absurd hp (by simp)⟩ eU.lu
theorem zo (s : dP) (op : Int) (l : List aQ) (v : Value) (w : World) {g off lo hi lo' hi' : Nat} (h : At w g off lo hi dP.ay s) (hv : dz w lo' hi' 6 aQ.ay v l) (hhi : hi' ≤ w.heap.size) :
 Calls Tryz.prog 140 #[.pointer (some ⟨g, off, none⟩), .int .i64 op, v] w fun e w' => e = .returned (.bool (yc s op l)) ∧ Below w.heap.size w w' := by
 obtain ⟨A, cap, rfl, hc1, hc2⟩ := hv.shape
 unfold maxLen at hc2
 have h00 : Below w.heap.size w (w.alloc (.cells #[] 3)) := bA _ _
 go_enter Tryz.func140, Tryz.ntmps140
 go_upto_block 0 with fail
 go_cut [7, 8] (fun kv vb wx => sW w op kv vb wx)
 case first =>
  --<A
  by_cases hop : op = 1
  ·skip
   have e1 : (op == 1) = true := by simp; omega
   have e13 : (op == 13) = false := by simp; omega
   have e14 : (op == 14) = false := by simp; omega
   have e15 : (op == 15) = false := by simp; omega
   have e16 : (op == 16) = false := by simp; omega
   have e17 : (op == 17) = false := by simp; omega
   have e18 : (op == 18) = false := by simp; omega
   have e20 : (op == 20) = false := by simp; omega
   have r2 : decide (2 ≤ op) = false := by simp; omega
   have r6 : decide (op ≤ 6) = true := by simp; omega
   have r7 : decide (7 ≤ op) = false := by simp; omega
   have r10 : decide (op ≤ 10) = true := by simp; omega
   have hK : mY op = [2] := by rw [hop]; decide
   have hV : qZ op = false := by unfold qZ; simp; omega
   clear hop
   as_aux_lemma =>
    go_wp2_with fail
    go_meet
    exact sW.lit 3 [2] h00 hK (by rw [hV]) (by decide) _ (by simp)
  have h1 := hop
  clear hop
  by_cases hop : op = 13
  skip
  have e1 : (op == 1) = false := by simp; omega
  have e13 : (op == 13) = true := by simp; omega
  have e14 : (op == 14) = false := by simp; omega
  have e15 : (op == 15) = false := by simp; omega
  have e16 : (op == 16) = false := by simp; omega
  have e17 : (op == 17) = false := by simp; omega
  have e18 : (op == 18) = false := by simp; omega
  have e20 : (op == 20) = false := by simp; omega
  have r2 : decide (2 ≤ op) = true := by simp; omega
  have r6 : decide (op ≤ 6) = false := by simp; omega
  have r7 : decide (7 ≤ op) = true := by simp; omega
  have r10 : decide (op ≤ 10) = false := by simp; omega
  have hK : mY op = [12] := by rw [hop]; decide
  have hV : qZ op = false := by unfold qZ; simp; omega
  clear hop
  rotate_left
  have h13 := hop
  clear hop
  by_cases hop : op = 14
  ·skip
   have e1 : (op == 1) = false := by simp; omega
   have e13 : (op == 13) = false := by simp; omega
   have e14 : (op == 14) = true := by simp; omega
   have e15 : (op == 15) = false := by simp; omega
   have e16 : (op == 16) = false := by simp; omega
   have e17 : (op == 17) = false := by simp; omega
   have e18 : (op == 18) = false := by simp; omega
   have e20 : (op == 20) = false := by simp; omega
   have r2 : decide (2 ≤ op) = true := by simp; omega
   have r6 : decide (op ≤ 6) = false := by simp; omega
   have r7 : decide (7 ≤ op) = true := by simp; omega
   have r10 : decide (op ≤ 10) = false := by simp; omega
   have hK : mY op = [12, 12] := by rw [hop]; decide
   have hV : qZ op = false := by unfold qZ; simp; omega
   clear hop
   as_aux_lemma =>
    go_wp2_with fail
    go_meet
    exact sW.lit 3 [12, 12] h00 hK (by rw [hV]) (by decide) _ (by simp)
  have h14 := hop
  clear hop
  by_cases hop : op = 15
  ·skip
   have e1 : (op == 1) = false := by simp; omega
   have e13 : (op == 13) = false := by simp; omega
   have e14 : (op == 14) = false := by simp; omega
   have e15 : (op == 15) = true := by simp; omega
   have e16 : (op == 16) = false := by simp; omega
   have e17 : (op == 17) = false := by simp; omega
   have e18 : (op == 18) = false := by simp; omega
   have e20 : (op == 20) = false := by simp; omega
   have r2 : decide (2 ≤ op) = true := by simp; omega
   have r6 : decide (op ≤ 6) = false := by simp; omega
   have r7 : decide (7 ≤ op) = true := by simp; omega
   have r10 : decide (op ≤ 10) = false := by simp; omega
   have hK : mY op = [12, 12] := by rw [hop]; decide
   have hV : qZ op = false := by unfold qZ; simp; omega
   clear hop
   as_aux_lemma =>
    go_wp2_with fail
    go_meet
    exact sW.lit 3 [12, 12] h00 hK (by rw [hV]) (by decide) _ (by simp)
  have h15 := hop
  clear hop
  by_cases hop : op = 16
  skip
  have e1 : (op == 1) = false := by simp; omega
  have e13 : (op == 13) = false := by simp; omega
  have e14 : (op == 14) = false := by simp; omega
  have e15 : (op == 15) = false := by simp; omega
  have e16 : (op == 16) = true := by simp; omega
  have e17 : (op == 17) = false := by simp; omega
  have e18 : (op == 18) = false := by simp; omega
  have e20 : (op == 20) = false := by simp; omega
  have r2 : decide (2 ≤ op) = true := by simp; omega
  have r6 : decide (op ≤ 6) = false := by simp; omega
  have r7 : decide (7 ≤ op) = true := by simp; omega
  have r10 : decide (op ≤ 10) = false := by simp; omega
  have hK : mY op = [12] := by rw [hop]; decide
  have hV : qZ op = true := by unfold qZ; simp; omega
  clear hop
  rotate_left
  have h16 := hop
  clear hop
  by_cases hop : op = 17
  skip
  have e1 : (op == 1) = false := by simp; omega
  have e13 : (op == 13) = false := by simp; omega
  have e14 : (op == 14) = false := by simp; omega
  have e15 : (op == 15) = false := by simp; omega
  have e16 : (op == 16) = false := by simp; omega
  have e17 : (op == 17) = true := by simp; omega
  have e18 : (op == 18) = false := by simp; omega
  have e20 : (op == 20) = false := by simp; omega
  have r2 : decide (2 ≤ op) = true := by simp; omega
  have r6 : decide (op ≤ 6) = false := by simp; omega
  have r7 : decide (7 ≤ op) = true := by simp; omega
  have r10 : decide (op ≤ 10) = false := by simp; omega
  have hK : mY op = [12] := by rw [hop]; decide
  have hV : qZ op = true := by unfold qZ; simp; omega
  clear hop
  rotate_left
  rotate_right 3
  iterate 3 focus
   as_aux_lemma =>
    go_wp2_with fail
    go_meet
    exact sW.lit 3 [12] h00 hK (by rw [hV]) (by decide) _ (by simp)
  have h17 := hop
  clear hop
  by_cases hop : op = 18
  ·skip
   have e1 : (op == 1) = false := by simp; omega
   have e13 : (op == 13) = false := by simp; omega
   have e14 : (op == 14) = false := by simp; omega
   have e15 : (op == 15) = false := by simp; omega
   have e16 : (op == 16) = false := by simp; omega
   have e17 : (op == 17) = false := by simp; omega
   have e18 : (op == 18) = true := by simp; omega
   have e20 : (op == 20) = false := by simp; omega
   have r2 : decide (2 ≤ op) = true := by simp; omega
   have r6 : decide (op ≤ 6) = false := by simp; omega
   have r7 : decide (7 ≤ op) = true := by simp; omega
   have r10 : decide (op ≤ 10) = false := by simp; omega
   have hK : mY op = [] := by rw [hop]; decide
   have hV : qZ op = true := by unfold qZ; simp; omega
   clear hop
   as_aux_lemma =>
    go_wp2_with fail
    go_meet
    exact sW.none_ h00 hK (by rw [hV])
  have h18 := hop
  clear hop
  by_cases hop : op = 20
  ·skip
   have e1 : (op == 1) = false := by simp; omega
   have e13 : (op == 13) = false := by simp; omega
   have e14 : (op == 14) = false := by simp; omega
   have e15 : (op == 15) = false := by simp; omega
   have e16 : (op == 16) = false := by simp; omega
   have e17 : (op == 17) = false := by simp; omega
   have e18 : (op == 18) = false := by simp; omega
   have e20 : (op == 20) = true := by simp; omega
   have r2 : decide (2 ≤ op) = true := by simp; omega
   have r6 : decide (op ≤ 6) = false := by simp; omega
   have r7 : decide (7 ≤ op) = true := by simp; omega
   have r10 : decide (op ≤ 10) = false := by simp; omega
   have hK : mY op = [] := by rw [hop]; decide
   have hV : qZ op = true := by unfold qZ; simp; omega
   clear hop
   as_aux_lemma =>
    go_wp2_with fail
    go_meet
    exact sW.none_ h00 hK (by rw [hV])
  have h20 := hop
  clear hop
  by_cases hop : 2 ≤ op ∧ op ≤ 6
  ·skip
   have e1 : (op == 1) = false := by simp; omega
   have e13 : (op == 13) = false := by simp; omega
   have e14 : (op == 14) = false := by simp; omega
   have e15 : (op == 15) = false := by simp; omega
   have e16 : (op == 16) = false := by simp; omega
   have e17 : (op == 17) = false := by simp; omega
   have e18 : (op == 18) = false := by simp; omega
   have e20 : (op == 20) = false := by simp; omega
   have r2 : decide (2 ≤ op) = true := by simp; omega
   have r6 : decide (op ≤ 6) = true := by simp; omega
   have r7 : decide (7 ≤ op) = false := by simp; omega
   have r10 : decide (op ≤ 10) = true := by simp; omega
   have hK : mY op = [1] := by unfold mY; rw [if_neg (by omega), if_pos (by omega)]
   have hV : qZ op = false := by unfold qZ; simp; omega
   clear hop
   as_aux_lemma =>
    go_wp2_with fail
    go_meet
    exact sW.lit 3 [1] h00 hK (by rw [hV]) (by decide) _ (by simp)
  have hb6 := hop
  clear hop
  by_cases hop : 7 ≤ op ∧ op ≤ 10
  ·skip
   have e1 : (op == 1) = false := by simp; omega
   have e13 : (op == 13) = false := by simp; omega
   have e14 : (op == 14) = false := by simp; omega
   have e15 : (op == 15) = false := by simp; omega
   have e16 : (op == 16) = false := by simp; omega
   have e17 : (op == 17) = false := by simp; omega
   have e18 : (op == 18) = false := by simp; omega
   have e20 : (op == 20) = false := by simp; omega
   have r2 : decide (2 ≤ op) = true := by simp; omega
   have r6 : decide (op ≤ 6) = false := by simp; omega
   have r7 : decide (7 ≤ op) = true := by simp; omega
   have r10 : decide (op ≤ 10) = true := by simp; omega
   have hK : mY op = [3] := by unfold mY; rw [if_neg (by omega), if_neg (by omega), if_pos (by omega)]
   have hV : qZ op = false := by unfold qZ; simp; omega
   clear hop
   as_aux_lemma =>
    go_wp2_with fail
    go_meet
    exact sW.lit 3 [3] h00 hK (by rw [hV]) (by decide) _ (by simp)
  have NK := hop
  clear hop
  by_cases hop : 2 ≤ op
  ·skip
   have e1 : (op == 1) = false := by simp; omega
   have e13 : (op == 13) = false := by simp; omega
   have e14 : (op == 14) = false := by simp; omega
   have e15 : (op == 15) = false := by simp; omega
   have e16 : (op == 16) = false := by simp; omega
   have e17 : (op == 17) = false := by simp; omega
   have e18 : (op == 18) = false := by simp; omega
   have e20 : (op == 20) = false := by simp; omega
   have r2 : decide (2 ≤ op) = true := by simp; omega
   have r6 : decide (op ≤ 6) = false := by simp; omega
   have r7 : decide (7 ≤ op) = true := by simp; omega
   have r10 : decide (op ≤ 10) = false := by simp; omega
   have hK : mY op = [] := by unfold mY; rw [if_neg (by omega), if_neg (by omega), if_neg (by omega), if_neg (by omega), if_neg (by omega), if_neg (by omega)]
   have hV : qZ op = false := by unfold qZ; simp; omega
   clear hop
   as_aux_lemma =>
    go_wp2_with fail
    go_meet
    exact sW.none_ h00 hK (by rw [hV])
  have e1 : (op == 1) = false := by simp; omega
  have e13 : (op == 13) = false := by simp; omega
  have e14 : (op == 14) = false := by simp; omega
  have e15 : (op == 15) = false := by simp; omega
  have e16 : (op == 16) = false := by simp; omega
  have e17 : (op == 17) = false := by simp; omega
  have e18 : (op == 18) = false := by simp; omega
  have e20 : (op == 20) = false := by simp; omega
  have r2 : decide (2 ≤ op) = false := by simp; omega
  have r6 : decide (op ≤ 6) = true := by simp; omega
  have r7 : decide (7 ≤ op) = false := by simp; omega
  have r10 : decide (op ≤ 10) = true := by simp; omega
  have hK : mY op = [] := by unfold mY; rw [if_neg (by omega), if_neg (by omega), if_neg (by omega), if_neg (by omega), if_neg (by omega), if_neg (by omega)]
  have hV : qZ op = false := by unfold qZ; simp; omega
  clear hop
  as_aux_lemma =>
   go_wp2_with fail
   go_meet
   exact sW.none_ h00 hK (by rw [hV])
  --A>
 case rest =>
  obtain ⟨rfl, gk, rfl, hks, hw⟩ := hcut
  have hlk := hks.shape
  clear hlk h00
  have h1 := h.below hw
  have hv1 := hv.below hw hhi
  have hz := hw.size
  have hle := Nw op
  by_cases hop : 1 ≤ op ∧ op ≤ 23
  rotate_left
  ·have HV := lH (Ny (s := s) op l hop)
   have hop' : op < 1 ∨ 23 < op := by omega
   clear hop
   rcases hop' with hop | hop
   ·cases hpv : qZ op <;> (clear hpv; go_wp2_with fail; go_ret; exact ⟨ah HV.out.symm, hw⟩)
   ·have hop2 : ¬ op < 1 := by omega
    cases hpv : qZ op <;> (clear hpv; go_wp2_with fail; go_ret; exact ⟨ah HV.out.symm, hw⟩)
  have o1 : decide (op < 1) = false := by simp; omega
  have o2 : decide (23 < op) = false := by simp; omega
  by_cases hln : l.length = (mY op).length + (if qZ op = true then 1 else 0)
  rotate_left
  ·have HV := lH (Lh (s := s) op l hln)
   cases hpv : qZ op with
   | true =>
     rw [hpv] at hln
     have e1 : ((l.length : Int) != ((mY op).length : Int) + 1) = true := by simp at hln ⊢; omega
     clear hln hop hpv
     generalize (mY op).length = nk at *
     go_wp2_with fail
     go_ret
     exact ⟨ah HV.out.symm, hw⟩
   | false =>
     rw [hpv] at hln
     have e1 : ((l.length : Int) != ((mY op).length : Int)) = true := by simp at hln ⊢; omega
     clear hln hop hpv
     generalize (mY op).length = nk at *
     go_wp2_with fail
     go_ret
     exact ⟨ah HV.out.symm, hw⟩
  cases hpv : qZ op with
  | true =>
    rw [hpv] at hln
    have Io : l.length = (mY op).length + 1 := by simpa using hln
    have e1 : ((l.length : Int) != ((mY op).length : Int) + 1) = false := by simp; omega
    have HFF := lH (fun (k : Nat) (kd : Int) (c : aQ) ha hc h => Je (s := s) op l (by rw [hpv]; exact hln) (j := k) (k := kd) (v := c) ha hc h)
    have HOF := lH (fun h => Jd (s := s) op l hop (by rw [hpv]; exact hln) h)
    have HPV := lH hpv
    have hl1 : l.length ≤ (mY op).length + 1 := Nat.le_of_eq Io
    have hl2 : (mY op).length + 1 ≤ l.length := Nat.le_of_eq Io.symm
    clear hln hop hpv Io
    go_wp2_with fail
    go_loopw [80] (fun i wr => ∃ k : Nat, k ≤ (mY op).length ∧ i = .int .i64 k ∧ Hid (jU s ((mY op).take k) (l.take k) = true) ∧ Below wc.heap.size wc wr) (fun i _ => (mY op).length - (intOf i).toNat)
    case atStart => exact ⟨0, nZ _, rfl, by simp [Hid, jU], bR _ _⟩
    case round =>
     obtain ⟨k, hk, rfl, hgo, hb⟩ := hrel
     obtain ⟨wo, rfl⟩ := nW wr
     have hz1 := hb.size
     have hwo := hw.trans (hb.mono hz)
     have h2 := h1.below hb
     by_cases hlt : k < (mY op).length
     ·obtain ⟨kd, hkd⟩ : ∃ kd, (mY op)[k]? = some kd := ⟨_, gE hlt⟩
      obtain ⟨c, hc⟩ : ∃ c, l[k]? = some c := ⟨_, gE (by omega)⟩
      obtain ⟨gk', UE, hA, -, -, p0⟩ := (hks.below hb (nR _)).num hkd
      injection hA with hA
      injection hA with x1 x2
      subst x1 x2
      rw [Nat.zero_add] at p0
      obtain ⟨g', off', rfl, hg1, hg2, hmem, hrep, q0, q1, q2, q3, q4, q5⟩ := aQ.at_ (hv1.below hb (nT hhi hz)) hc
      have hkl : k < l.length := by omega
      have hne : kd ≠ 13 := Jc op kd (mG hkd)
      have HE := lH (Cq (s := s) (v := c) hne)
      have HS := lH (uM (s := s) hkd hc)
      have HF := lH (fun h => HFF.out k kd c hkd hc h)
      clear hc hkd hmem hrep hne HFF HOF hle
      by_cases hkk : c.kind = kd
      rotate_left
      ·have hx : (c.kind != kd) = true := by simp [hkk]
       have HF := lH (HF.out (by rw [HE.out, dF hkk, Bool.and_false]))
       clear hkk HS HE
       go_wp2_with fail
       go_ret
       exact ⟨ah HF.out.symm, hwo⟩
      have hx : (c.kind != kd) = false := by simp [hkk]
      have HE : Hid (qU s kd c = cK s c) := lH (by rw [HE.out, dT hkk, Bool.and_true])
      clear hkk
      go_wp2_with fail
      refine (mX s c _ _ h2 (aQ.mk_ (lo := 0) (hi := 0))).mono ?_; rintro e w1 ⟨rfl, hb1⟩
      have hw1 : Below wc.heap.size wc w1 := hb.trans (hb1.mono hz1)
      clear q0 q1 q2 q3 q4 q5 p0 hb1 h2
      cases hq : cK s c with
      | true =>
        have HN : Hid (jU s ((mY op).take (k + 1)) (l.take (k + 1)) = true) := lH (by rw [HS.out, hgo.out, HE.out, hq]; rfl)
        clear hq HF HE HS
        go_wp2_with fail
        go_roundw
        case rel => exact ⟨k + 1, by omega, by go_num, HN, hw1⟩
        case measure => simp [intOf]; omega
      | false =>
        have HF := lH (HF.out (HE.out.trans hq))
        clear hq HE HS
        go_wp2_with fail
        go_ret
        exact ⟨ah HF.out.symm, hw.trans (hw1.mono hz)⟩
     ·obtain rfl : k = (mY op).length := by omega
      rw [List.take_length] at hgo
      have HB := lH (HOF.out hgo.out)
      clear HFF HOF hgo
      obtain ⟨c, hc⟩ : ∃ c, l[(mY op).length]? = some c := ⟨_, gE (by omega)⟩
      obtain ⟨g', off', rfl, hg1, hg2, hmem, hrep, q0, q1, q2, q3, q4, q5⟩ := aQ.at_ (hv1.below hb (nT hhi hz)) hc
      have HD : Hid (yc s op l = (cK s c && decide (c.kind = 13 ∨ c.kind = 14))) := by
       show _ = _
       rw [HB.out, HPV.out, if_pos rfl, List.drop_eq_getElem_cons (by omega), List.drop_eq_nil_of_le (by omega), show l[(mY op).length]'(by omega) = c from Option.some.inj ((gE (by omega)).symm.trans hc)]
       simp [jU, qU]
      clear hc hmem hrep HB hle HPV
      have hwa : Below wc.heap.size wc (wo.alloc (.cells #[Value.int .i64 c.kind, .int .i64 c.number, .int .i64 c.index, .string c.text, .int .i64 c.eB, .int .i64 c.dW] 56)) := hb.alloc hz1 _
      have h3 := h1.below hwa
      generalize (mY op).length = nk at *
      by_cases k13 : c.kind = 13
      skip
      have hx : (c.kind == 13) = true := by simp [k13]
      have HK := lH (dT (show c.kind = 13 ∨ c.kind = 14 from .inl k13))
      clear k13
      rotate_left
      have hx : (c.kind == 13) = false := by simp [k13]
      by_cases k14 : c.kind = 14
      skip
      have hy : (c.kind == 14) = true := by simp [k14]
      have HK := lH (dT (show c.kind = 13 ∨ c.kind = 14 from .inr k14))
      clear k13 k14
      rotate_left
      rotate_right 2
      iterate 2 focus
       go_wp2_with fail
       refine (mX s c _ _ h3 (aQ.mk_ (lo := 0) (hi := 0))).mono ?_; rintro e w1 ⟨rfl, hb1⟩
       have hw1 := hw.trans ((hwa.trans (hb1.mono hwa.size)).mono hz)
       clear hb1 q0 q1 q2 q3 q4 q5 h2 h3
       go_wp2_with fail
       go_ret
       exact ⟨ah (by rw [HD.out, HK.out, Bool.and_true]), hw1⟩
      have hy : (c.kind == 14) = false := by simp [k14]
      have HK := lH (dF (show ¬ (c.kind = 13 ∨ c.kind = 14) by omega))
      clear k13 k14
      go_wp2_with fail
      go_ret
      exact ⟨ah (by rw [HD.out, HK.out, Bool.and_false]), hw.trans (hwa.mono hz)⟩
  | false =>
    rw [hpv] at hln
    have Io : l.length = (mY op).length := by simpa using hln
    have e1 : ((l.length : Int) != ((mY op).length : Int)) = false := by simp; omega
    have HFF := lH (fun (k : Nat) (kd : Int) (c : aQ) ha hc h => Je (s := s) op l (by rw [hpv]; exact hln) (j := k) (k := kd) (v := c) ha hc h)
    have HOF := lH (fun h => Jd (s := s) op l hop (by rw [hpv]; exact hln) h)
    have HPV := lH hpv
    have hl1 : l.length ≤ (mY op).length := Nat.le_of_eq Io
    have hl2 : (mY op).length ≤ l.length := Nat.le_of_eq Io.symm
    clear hln hop hpv Io
    go_wp2_with fail
    go_loopw [80] (fun i wr => ∃ k : Nat, k ≤ (mY op).length ∧ i = .int .i64 k ∧ Hid (jU s ((mY op).take k) (l.take k) = true) ∧ Below wc.heap.size wc wr) (fun i _ => (mY op).length - (intOf i).toNat)
    case atStart => exact ⟨0, nZ _, rfl, by simp [Hid, jU], bR _ _⟩
    case round =>
     obtain ⟨k, hk, rfl, hgo, hb⟩ := hrel
     obtain ⟨wo, rfl⟩ := nW wr
     have hz1 := hb.size
     have hwo := hw.trans (hb.mono hz)
     have h2 := h1.below hb
     by_cases hlt : k < (mY op).length
     ·obtain ⟨kd, hkd⟩ : ∃ kd, (mY op)[k]? = some kd := ⟨_, gE hlt⟩
      obtain ⟨c, hc⟩ : ∃ c, l[k]? = some c := ⟨_, gE (by omega)⟩
      obtain ⟨gk', UE, hA, -, -, p0⟩ := (hks.below hb (nR _)).num hkd
      injection hA with hA
      injection hA with x1 x2
      subst x1 x2
      rw [Nat.zero_add] at p0
      obtain ⟨g', off', rfl, hg1, hg2, hmem, hrep, q0, q1, q2, q3, q4, q5⟩ := aQ.at_ (hv1.below hb (nT hhi hz)) hc
      have hkl : k < l.length := by omega
      have hne : kd ≠ 13 := Jc op kd (mG hkd)
      have HE := lH (Cq (s := s) (v := c) hne)
      have HS := lH (uM (s := s) hkd hc)
      have HF := lH (fun h => HFF.out k kd c hkd hc h)
      clear hc hkd hmem hrep hne HFF HOF hle
      by_cases hkk : c.kind = kd
      rotate_left
      ·have hx : (c.kind != kd) = true := by simp [hkk]
       have HF := lH (HF.out (by rw [HE.out, dF hkk, Bool.and_false]))
       clear hkk HS HE
       go_wp2_with fail
       go_ret
       exact ⟨ah HF.out.symm, hwo⟩
      have hx : (c.kind != kd) = false := by simp [hkk]
      have HE : Hid (qU s kd c = cK s c) := lH (by rw [HE.out, dT hkk, Bool.and_true])
      clear hkk
      go_wp2_with fail
      refine (mX s c _ _ h2 (aQ.mk_ (lo := 0) (hi := 0))).mono ?_; rintro e w1 ⟨rfl, hb1⟩
      have hw1 : Below wc.heap.size wc w1 := hb.trans (hb1.mono hz1)
      clear q0 q1 q2 q3 q4 q5 p0 hb1 h2
      cases hq : cK s c with
      | true =>
        have HN : Hid (jU s ((mY op).take (k + 1)) (l.take (k + 1)) = true) := lH (by rw [HS.out, hgo.out, HE.out, hq]; rfl)
        clear hq HF HE HS
        go_wp2_with fail
        go_roundw
        case rel => exact ⟨k + 1, by omega, by go_num, HN, hw1⟩
        case measure => simp [intOf]; omega
      | false =>
        have HF := lH (HF.out (HE.out.trans hq))
        clear hq HE HS
        go_wp2_with fail
        go_ret
        exact ⟨ah HF.out.symm, hw.trans (hw1.mono hz)⟩
     ·obtain rfl : k = (mY op).length := by omega
      rw [List.take_length] at hgo
      have HB := lH (HOF.out hgo.out)
      clear HFF HOF hgo
      have HD : Hid (yc s op l = true) := lH (by rw [HB.out, HPV.out, List.drop_eq_nil_of_le (by omega)]; rfl)
      clear HB HPV
      go_wp2_with fail
      go_ret
      exact ⟨ah HD.out.symm, hwo⟩
end Go.Proofs.YtoddlphekcihgaaGreatDoor
