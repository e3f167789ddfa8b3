/- Which record types are valid: TQ of the program. -/
import Derived.Test.YthbcamfejgghhaaGreatDoorQ11
set_option maxRecDepth 100000
set_option maxHeartbeats 8000000
set_option linter.unusedVariables false
set_option linter.unusedSimpArgs false
namespace Go.Proofs.YthbcamfejgghhaaGreatDoor
open Go.IntKind (i64)
open Go.RowKit
noncomputable def uh (r : ep) : Bool := bJ r.name && decide (r.fields.length ≤ 6) && r.fields.all bJ && !rG r.fields && decide (0 ≤ r.line)
noncomputable def jO (l : List ep) : Bool := l.all uh && decide (l.length ≤ 8)
theorem zm (l : List ep) (v : Value) (w : World) (lo hi : Nat) (h : aW w lo hi 3 ep.aG v l) (hhi : hi ≤ w.heap.size) (hst : bT w) :
 Calls Tryz.prog 27 #[v] w fun e w' => e = .returned (.bool (jO l)) ∧ Below w.heap.size w w' := by
 obtain ⟨A, cap, rfl, hc1, hc2⟩ := h.shape
 unfold maxLen at hc2
 go_in
 go_wp2_with fail
 go_loopw [7] (fun i wr => ∃ k : Nat, k ≤ l.length ∧ i = .int i64 k ∧ Hid ((l.take k).all uh = true) ∧ Below w.heap.size w wr) (fun i _ => l.length - (intOf i).toNat)
 case atStart => exact ⟨0, nZ _, rfl, by simp [Hid], bR _ _⟩
 obtain ⟨k, hk, rfl, hgo, hb⟩ := hrel
 obtain ⟨wo, rfl⟩ := nW wr
 have hz := hb.size
 by_cases hlt : k < l.length
 ·obtain ⟨c, hc⟩ : ∃ c, l[k]? = some c := ⟨_, gE hlt⟩
  obtain ⟨g, off, jA, nfields, rfl, hg1, hg2, hmem, hcr, q0, q1, q2⟩ := ep.at_ (h.below hb hhi) hc
  have hfl := ep.rows hcr
  have HB : Hid (uh c = (bJ c.name && decide (c.fields.length ≤ 6) && c.fields.all bJ && !rG c.fields && decide (0 ≤ c.line))) := rfl
  have HS := lH (nC (q := uh) hc)
  have HM : Hid (uh c = false → jO l = false) := fun e => by rw [jO, tq hmem e]; rfl
  have hwa : Below w.heap.size w (wo.alloc (.cells (dS c.name jA c.fields.length nfields c.line) 78)) := hb.alloc hz _
  have a0 := Blk.new wo 78 (dS c.name jA c.fields.length nfields c.line)
  have hf0 := hfl.alloc (nT hhi hz) (.cells (dS c.name jA c.fields.length nfields c.line) 78)
  clear hc hmem hcr hfl
  cases n1 : bJ c.name with
  | false =>
    have HV : Hid (jO l = false) := HM.out Cj
    have N1 := lH n1
    clear n1 hgo
    exact N9
  | true =>
  have N1 := lH n1
  clear n1
  by_cases n2 : c.fields.length ≤ 6
  ·have D2 := lH (dT n2)
   cases n3 : c.fields.all bJ with
   | false =>
     have HV : Hid (jO l = false) := HM.out (by rw [HB.out, N1.out, n3]; simp)
     have N3 := lH n3
     clear n3 hgo
     go_wp2_with fail
     refine (jI c.name _ (hst.below hwa hst.2)).mono ?_; rw [N1.out]; rintro e w1 ⟨rfl, hb1⟩
     have hw1 := hwa.trans (hb1.mono (nT hz av))
     have a1 := a0.later hb1
     have hf1 := hf0.below hb1 (nT (nT hhi hz) av)
     have ca := a1.cell
     have la := a1.lt
     clear hb1 q0 q1 q2
     go_wp2_with fail
     refine (oK c.fields _ _ lo hi hf1 (nT hhi hw1.size) (hst.below hw1 hst.2)).mono ?_; rw [N3.out]; rintro e w2 ⟨rfl, hb2⟩
     have hw2 := hw1.trans (hb2.mono hw1.size)
     have a2 := a1.later hb2
     have hf2 := hf1.below hb2 (nT hhi hw1.size)
     clear ca la hb2
     have ca := a2.cell
     have la := a2.lt
     exact yH
   | true =>
   have N3 := lH n3
   clear n3
   cases n4 : rG c.fields with
   | true =>
     have HV : Hid (jO l = false) := HM.out (by rw [HB.out, n4]; simp)
     have N4 := lH n4
     clear n4 hgo
     exact NS
   | false =>
   have N4 := lH n4
   clear n4
   by_cases n5 : 0 ≤ c.line
   ·have HG : Hid ((l.take (k + 1)).all uh = true) := lH (by rw [HS.out, hgo.out, HB.out, N1.out, D2.out, N3.out, N4.out, dT n5]; rfl)
    clear hgo
    go_wp2_with fail
    refine (jI c.name _ (hst.below hwa hst.2)).mono ?_; rw [N1.out]; rintro e w1 ⟨rfl, hb1⟩
    have hw1 := hwa.trans (hb1.mono (nT hz av))
    have a1 := a0.later hb1
    have hf1 := hf0.below hb1 (nT (nT hhi hz) av)
    have ca := a1.cell
    have la := a1.lt
    clear hb1 q0 q1 q2
    go_wp2_with fail
    refine (oK c.fields _ _ lo hi hf1 (nT hhi hw1.size) (hst.below hw1 hst.2)).mono ?_; rw [N3.out]; rintro e w2 ⟨rfl, hb2⟩
    have hw2 := hw1.trans (hb2.mono hw1.size)
    have a2 := a1.later hb2
    have hf2 := hf1.below hb2 (nT hhi hw1.size)
    clear ca la hb2
    have ca := a2.cell
    have la := a2.lt
    go_wp2_with fail
    refine (wW c.fields _ _ lo hi hf2).mono ?_; rw [N4.out]; rintro e w3 ⟨rfl, hs3⟩
    have hw3 := hw2.trans ((hs3.below w2.heap.size).mono hw2.size)
    have a3 := a2.later (hs3.below _)
    clear ca la
    have ca := a3.cell
    have la := a3.lt
    go_wp2_with fail
    go_roundw
    case rel => exact ⟨k + 1, ah, by go_num, HG, hw3⟩
    simp [intOf]; omega
   have HV : Hid (jO l = false) := HM.out (by rw [HB.out, dF n5]; simp)
   clear hgo
   exact NS
  have HV : Hid (jO l = false) := HM.out (by rw [HB.out, dF n2]; simp)
  clear hgo
  exact N9
 obtain rfl : k = l.length := by omega
 rw [List.take_length] at hgo
 have HR : Hid (jO l = decide (l.length ≤ 8)) := lH (by rw [jO, hgo.out]; rfl)
 clear hgo
 go_wp2_with fail
 go_ret
 exact ⟨bD (by rw [HR.out, Bool.eq_iff_iff]; simp <;> omega), hb⟩
end Go.Proofs.YthbcamfejgghhaaGreatDoor
