/- The first fault of an expression: two numbers. rJ of the program. Yd of the program. -/
import Derived.Test.YthbcamfejgghhaaGreatDoorQ17
import Derived.Test.YthbcamfejgghhaaGreatDoorQ20
import Derived.Test.YthbcamfejgghhaaGreatDoorQ38
set_option maxRecDepth 100000
set_option maxHeartbeats 8000000
set_option linter.unusedVariables false
set_option linter.unusedSimpArgs false
namespace Go.Proofs.YthbcamfejgghhaaGreatDoor
open Go.IntKind (i64)
section
open Go Go.RowKit
def Sq (w : World) (e : Ending) (w' : World) : Prop := (∃ k i : Int, e = .returned (.tuple (aL k i))) ∧ Below w.heap.size w w'
theorem LQ (u : fE) (A1 A2 A3 : Option Addr) (n1 n2 n3 lo hi : Nat) (lc : List ByteArray) (Al : Option Addr) (nl : Nat) (c : aH) : ∀ (A : Option Addr) (n : Nat) (w : World) (loop made : Bool), aW w lo hi 5 aH.aG (.slice A c.kids.length n) c.kids → dZ w lo hi fE.aG (.agg (aQ A1 u.records.length n1 A2 u.globals.length n2 A3 u.procedures.length n3)) u → aW w lo hi 1 aR (.slice Al lc.length nl) lc → hi ≤ w.heap.size →
 Calls Tryz.prog 168 #[.agg (aQ A1 u.records.length n1 A2 u.globals.length n2 A3 u.procedures.length n3), .slice Al lc.length nl, .agg (ay c.kind c.text c.number c.line A c.kids.length n), .bool loop, .bool made] w (Sq w) := by
 refine aH.ind (P := fun c => ∀ (A : Option Addr) (n : Nat) (w : World) (loop made : Bool), aW w lo hi 5 aH.aG (.slice A c.kids.length n) c.kids → dZ w lo hi fE.aG (.agg (aQ A1 u.records.length n1 A2 u.globals.length n2 A3 u.procedures.length n3)) u → aW w lo hi 1 aR (.slice Al lc.length nl) lc → hi ≤ w.heap.size →
  Calls Tryz.prog 168 #[.agg (aQ A1 u.records.length n1 A2 u.globals.length n2 A3 u.procedures.length n3), .slice Al lc.length nl, .agg (ay c.kind c.text c.number c.line A c.kids.length n), .bool loop, .bool made] w (Sq w)) ?_ c
 intro c ih A n w loop made hk hu hl hhi
 have HIH := lH ih
 have HK := lH hk
 have HU := lH hu
 have HL := lH hl
 obtain ⟨A', n', hv, hc1, hc2⟩ := hk.shape
 injection hv with hv1 hv2 hv3
 subst hv1 hv3
 unfold maxLen at hc2
 clear ih hk hl hv2
 obtain ⟨hr, -, -⟩ := fE.rows hu
 obtain ⟨_, _, e1, hr1, hr2⟩ := hr.shape
 injection e1 with e1 _ e2
 subst e1 e2
 unfold maxLen at hr2
 have HR := lH hr
 clear hu hr
 have T0 := lH (Two.start w 122 (aQ A1 u.records.length n1 A2 u.globals.length n2 A3 u.procedures.length n3) 179 (ay c.kind c.text c.number c.line A c.kids.length n))
 go_in
 go_upto_region 1 with fail
 generalize (w.alloc (.cells (aQ A1 u.records.length n1 A2 u.globals.length n2 A3 u.procedures.length n3) 122)).alloc (.cells (ay c.kind c.text c.number c.line A c.kids.length n) 179) = W at *
 have ce := T0.out.b1.cell
 have cu := T0.out.b0.cell
 go_cut [44] (fun v wx => ∃ b : Bool, v = .bool b ∧ wx = W)
 case first =>
  rcases bE (c.kind == 24) with k4 | k4
  ·have e0 : c.kind = 24 := by simpa using k4
   exact Ox
  rcases bE (c.kind == 25) with k5 | k5
  ·have e0 : c.kind = 25 := by simpa using k5
   exact Ox
  cases k1 : decide (21 ≤ c.kind)
  rotate_left
  cases k3 : decide (c.kind ≤ 23)
  rotate_left
  cases made
  all_goals go_wp2_with fail
  all_goals go_meet
  all_goals exact ⟨_, rfl, rfl⟩
 obtain ⟨b, rfl, rfl⟩ := hcut
 cases b with
 | true =>
   go_wp2_with fail
   go_quiet (fail)
   go_wp2_with fail
   go_ret2
   exact ⟨⟨_, _, rfl⟩, (T0.out.drewN _).bl⟩
 | false =>
   go_upto_if 49 with fail
   go_cut [12] (fun _ wx => Hid (Two w 122 (aQ A1 u.records.length n1 A2 u.globals.length n2 A3 u.procedures.length n3) 179 (ay c.kind c.text c.number c.line A c.kids.length n) wx))
   case first =>
    rcases bE (c.kind == 13) with k4 | k4
    ·clear ce cu
     go_wp2_with fail
     go_loopw [12, 13] (fun f k wx => ∃ (b : Bool) (j : Nat), j ≤ u.records.length ∧ f = .bool b ∧ k = .int i64 j ∧ Hid (Two w 122 (aQ A1 u.records.length n1 A2 u.globals.length n2 A3 u.procedures.length n3) 179 (ay c.kind c.text c.number c.line A c.kids.length n) wx)) (fun _ k _ => u.records.length - (intOf k).toNat)
     case atStart => exact ⟨false, 0, nZ _, rfl, rfl, T0⟩
     clear T0
     obtain ⟨b, j, hj, rfl, rfl, HT⟩ := hrel
     have cu := HT.out.b0.cell
     have ce := HT.out.b1.cell
     by_cases hlt : j < u.records.length
     ·obtain ⟨r, hc⟩ : ∃ r, u.records[j]? = some r := ⟨_, gE hlt⟩
      obtain ⟨g, off, Af, nf, rfl, -, hg3, -, hs, t0, t1, t2⟩ := ep.at_ (HR.out.below HT.out.bl hhi) hc
      have HF := lH (fun n => iq r.fields c.text (.slice Af r.fields.length nf) (wr.drewN n) lo hi ((ep.rows hs).below (Same.below ((Same.refl wr).drewN n) _) (nR _)))
      clear hc hs
      go_upto_region 8 with fail
      cases b
      all_goals go_quiet (first | (go_at_call 71; exact Vt (HF.out _)) | fail)
      all_goals go_wp2_with fail
      all_goals go_roundw
      case rel => exact ⟨_, j + 1, hlt, rfl, by go_num, lH (HT.out.drewN _)⟩
      case measure => simp [intOf]; omega
      case rel => exact ⟨_, j + 1, hlt, rfl, by go_num, lH (HT.out.drewN _)⟩
      simp [intOf]; omega
     obtain rfl : j = u.records.length := by omega
     cases b
     ·go_wp2_with fail
      go_quiet (fail)
      go_wp2_with fail
      go_ret2
      exact ⟨⟨_, _, rfl⟩, (HT.out.drewN _).bl⟩
     go_wp2_with fail
     go_meet
     exact HT
    go_wp2_with fail
    go_meet
    exact T0
   clear ce cu T0
   have T1 := hcut
   have ce := T1.out.b1.cell
   have cu := T1.out.b0.cell
   have HF := lH (iq lc c.text (.slice Al lc.length nl) wc lo hi (HL.out.below T1.out.bl hhi))
   go_upto_region 11 with fail
   go_cut [83] (fun v wx => ∃ b : Bool, v = .bool b ∧ wx = wc)
   case first =>
    rcases bE (c.kind == 28) with k4 | k4
    ·go_wp2_with fail
     refine HF.out.mono ?_
     rintro e w2 ⟨rfl, rfl⟩
     exact yL
    go_wp2_with fail
    go_meet
    exact ⟨_, rfl, rfl⟩
   obtain ⟨b, rfl, rfl⟩ := hcut
   clear HF
   go_upto_if 83 with fail
   go_cut [14] (fun _ wx => Hid (Two w 122 (aQ A1 u.records.length n1 A2 u.globals.length n2 A3 u.procedures.length n3) 179 (ay c.kind c.text c.number c.line A c.kids.length n) wx))
   case first =>
    cases b
    ·go_wp2_with fail
     go_meet
     exact T1
    go_wp2_with fail
    refine (tJ u A1 A2 A3 n1 n2 n3 _ lo hi c.text (HU.out.below T1.out.bl hhi) (nT hhi T1.out.bl.size)).mono ?_
    rintro e w2 ⟨⟨k, i, rfl, -, -⟩, hb2⟩
    have T2 := lH (T1.out.later hb2)
    clear ce cu T1 hb2
    have ce := T2.out.b1.cell
    have cu := T2.out.b0.cell
    rcases bE (k != 2) with h2 | h2
    ·go_wp2_with fail
     go_quiet (fail)
     go_wp2_with fail
     go_ret2
     exact ⟨⟨_, _, rfl⟩, (T2.out.drewN _).bl⟩
    go_wp2_with fail
    go_meet
    exact T2
   clear ce cu T1
   have T1 := hcut
   have ce := T1.out.b1.cell
   have cu := T1.out.b0.cell
   go_wp2_with fail
   go_loopw [16] (fun k wx => ∃ j : Nat, j ≤ c.kids.length ∧ k = .int i64 j ∧ Hid (Two w 122 (aQ A1 u.records.length n1 A2 u.globals.length n2 A3 u.procedures.length n3) 179 (ay c.kind c.text c.number c.line A c.kids.length n) wx)) (fun k _ => c.kids.length - (intOf k).toNat)
   case atStart => exact ⟨0, nZ _, rfl, T1⟩
   clear ce cu T1 hcut
   obtain ⟨j, hj, rfl, HT⟩ := hrel
   have ce := HT.out.b1.cell
   have cu := HT.out.b0.cell
   by_cases hlt : j < c.kids.length
   rotate_left
   ·obtain rfl : j = c.kids.length := by omega
    go_wp2_with fail
    go_ret2
    exact ⟨⟨_, _, rfl⟩, HT.out.bl⟩
   obtain ⟨x, hx⟩ : ∃ x, c.kids[j]? = some x := ⟨_, gE hlt⟩
   go_upto_region 18 with fail
   go_cut [17] (fun v wx => ∃ b : Bool, v = .bool b ∧ wx = wr)
   case first =>
    cases loop
    rotate_left
    rcases bE (c.kind != 24) with k4 | k4
    rcases bE (c.kind != 26) with k6 | k6
    all_goals go_wp2_with fail
    all_goals go_meet
    all_goals exact ⟨_, rfl, rfl⟩
   obtain ⟨b1, rfl, rfl⟩ := hcut
   go_upto_region 19 with fail
   go_cut [120] (fun v wx => ∃ b : Bool, v = .bool b ∧ wx = wc)
   case first =>
    cases k1 : decide (16 ≤ c.kind)
    rotate_left
    cases k3 : decide (c.kind ≤ 19)
    all_goals go_wp2_with fail
    all_goals go_meet
    all_goals exact ⟨_, rfl, rfl⟩
   obtain ⟨b2, rfl, rfl⟩ := hcut
   go_upto_if 120 with fail
   go_cut [17] (fun v wx => ∃ b : Bool, v = .bool b ∧ wx = wc)
   case first =>
    cases b2
    rotate_left
    rcases bE (c.kind == 19) with k4 | k4
    all_goals go_wp2_with fail
    all_goals go_meet
    all_goals exact ⟨_, rfl, rfl⟩
   obtain ⟨b3, rfl, rfl⟩ := hcut
   obtain ⟨g, off, B5, d, rfl, -, hg2, hm, hkr, -, -, t0, t1, t2, t3, t4⟩ := aH.at_ (HK.out.below HT.out.bl hhi) hx
   have HC := lH (fun W2 (hb : Below wc.heap.size wc W2) (l' m' : Bool) => HIH.out x hm B5 d W2 l' m' (hkr.below hb (nT hhi HT.out.bl.size)) (HU.out.below (HT.out.bl.trans (hb.mono HT.out.bl.size)) hhi) (HL.out.below (HT.out.bl.trans (hb.mono HT.out.bl.size)) hhi) (nT (nT hhi HT.out.bl.size) hb.size))
   have hgw : g < wc.heap.size := nL hg2 (nT hhi HT.out.bl.size)
   clear hm hkr hx ce cu
   go_upto_region 21 with fail
   refine jm 20 (fun w' => (∀ i, w'.cell? (aj w.heap.size i) = (aQ A1 u.records.length n1 A2 u.globals.length n2 A3 u.procedures.length n3 : Array Value)[i]?) ∧ (∀ i, w'.cell? (aj (w.heap.size + 1) i) = (ay c.kind c.text c.number c.line (some (aj g off)) c.kids.length n : Array Value)[i]?) ∧ w'.cell? (aj g (off + j * 5)) = some (.int i64 x.kind) ∧ w'.cell? (aj g (off + j * 5 + 1)) = some (.string x.text) ∧ w'.cell? (aj g (off + j * 5 + 2)) = some (.int i64 x.number) ∧ w'.cell? (aj g (off + j * 5 + 3)) = some (.int i64 x.line) ∧ w'.cell? (aj g (off + j * 5 + 4)) = some (.slice B5 x.kids.length d)) 20 ?_
   have HT2 := lH HT.out.drew
   have CALL := HC.out _ ((Same.refl wc).drew.below _)
   replace t0 : wc.drew.cell? _ = _ := t0
   replace t1 : wc.drew.cell? _ = _ := t1
   replace t2 : wc.drew.cell? _ = _ := t2
   replace t3 : wc.drew.cell? _ = _ := t3
   replace t4 : wc.drew.cell? _ = _ := t4
   replace hgw : g < wc.drew.heap.size := hgw
   replace CALL := lH CALL
   clear HT HC
   generalize wc.drew = Wd at *
   have cT := HT2.out.b0.cell
   have cE := HT2.out.b1.cell
   cases made
   rcases bE (c.kind == 26) with k6 | k6
   all_goals
    have SP := And.intro cT (And.intro cE (And.intro t0 (And.intro t1 (And.intro t2 (And.intro t3 t4)))))
    refine tkA 0 SP ?_
    refine tkA 1 SP ?_
    refine tkA 2 SP ?_
    refine tkA 3 SP ?_
    refine tkA 4 SP ?_
    refine tkA 5 SP ?_
    refine tkA 6 SP ?_
    refine tkA 7 SP ?_
    refine tkA 8 SP ?_
    refine tkA 9 SP ?_
   iterate 2
    refine tkA 10 (And.intro cT (And.intro cE (And.intro t0 (And.intro t1 (And.intro t2 (And.intro t3 t4)))))) ?_
    refine tkA 11 (And.intro cT (And.intro cE (And.intro t0 (And.intro t1 (And.intro t2 (And.intro t3 t4)))))) ?_
    refine tkA 12 (And.intro cT (And.intro cE (And.intro t0 (And.intro t1 (And.intro t2 (And.intro t3 t4)))))) ?_
    rotate_left
   refine tkN 10 (And.intro cT (And.intro cE (And.intro t0 (And.intro t1 (And.intro t2 (And.intro t3 t4)))))) ?_
   refine tkN 11 (And.intro cT (And.intro cE (And.intro t0 (And.intro t1 (And.intro t2 (And.intro t3 t4)))))) ?_
   refine tkN 12 (And.intro cT (And.intro cE (And.intro t0 (And.intro t1 (And.intro t2 (And.intro t3 t4)))))) ?_
   all_goals
    have SP := And.intro cT (And.intro cE (And.intro t0 (And.intro t1 (And.intro t2 (And.intro t3 t4)))))
    refine tkA 13 SP ?_
    refine rdA 14 (fun K hK => ?_)
    go_simp
    go_at_call 168
    refine (CALL.out _ _).mono ?_
    rintro e w2 ⟨⟨k, i, rfl⟩, hb2⟩
    have KG : ∀ i, w2.cell? (aj g i) = Wd.cell? (aj g i) := fun i => hb2.cell (p := ⟨g, i, none⟩) hgw
    replace HT2 := lH (HT2.out.later hb2)
    replace t0 := (KG _).trans t0
    replace t1 := (KG _).trans t1
    replace t2 := (KG _).trans t2
    replace t3 := (KG _).trans t3
    replace t4 := (KG _).trans t4
    clear KG cT cE SP
    have cT := HT2.out.b0.cell
    have cE := HT2.out.b1.cell
    have SP := And.intro cT (And.intro cE (And.intro t0 (And.intro t1 (And.intro t2 (And.intro t3 t4)))))
    refine fM hK SP ?_
    clear hK K
    refine tkA 15 SP ?_
    refine tkA 16 SP ?_
    refine tkA 17 SP ?_
    refine tkA 18 SP ?_
    refine tkA 19 SP ?_
    refine bY aI ?_ _
    rcases bE (k != 0) with h2 | h2
    ·go_wp2_with fail
     go_ret2
     exact ⟨⟨_, _, rfl⟩, HT2.out.bl⟩
    go_wp2_with fail
    go_roundw
    case rel => exact ⟨j + 1, hlt, by go_num, HT2⟩
    simp [intOf]; omega
end
section
open Go.RowKit
theorem xu {a b c d : Int} (h1 : a = c) (h2 : b = d) : Ending.returned (.tuple (aL a b)) = .returned (.tuple (aL c d)) := by rw [h1, h2]
theorem xX (op : Int) (w : World) (ht : bT w) : Calls Tryz.prog 61 (dI op) w fun e w' => e = .returned (.tuple (aL (dH op) (dM op))) ∧ Below w.heap.size w w' := by
 cases hok : sU op with
 | false =>
   have HL : Hid (dH op = 0) := by show _ = _; simp [dH, hok]
   have HH : Hid (dM op = -1) := by show _ = _; simp [dM, hok]
   have HT := lH (nM op w ht)
   have HK := lH hok
   clear hok
   go_in
   go_wp2_with fail
   refine HT.out.mono ?_; rintro e w1 ⟨t, rfl, h0, hs, hb⟩
   rw [HK.out] at h0
   have h1 : t.toList = [] := by simpa using h0
   go_wp2_with fail
   go_ret2
   exact ⟨xu HL.out.symm HH.out.symm, hb⟩
 | true =>
   have HT := lH (nM op w ht)
   have HK := lH hok
   by_cases h11 : op ≤ 11
   have HL : Hid (dH op = 1) := by show _ = _; unfold dH; rw [if_neg gG]; rw [if_pos ah]
   have HH : Hid (dM op = 1) := by show _ = _; unfold dM; rw [if_neg gG]; rw [if_pos ah]
   clear hok
   rotate_left
   by_cases h81 : op = 81
   have HL : Hid (dH op = 1) := by show _ = _; unfold dH; rw [if_neg gG]; rw [if_pos ah]
   have HH : Hid (dM op = 1) := by show _ = _; unfold dM; rw [if_neg gG]; rw [if_pos ah]
   have b81 : (op == 81) = true := beq_iff_eq.2 ah
   clear hok h81
   rotate_left
   by_cases h71 : op = 71
   have HL : Hid (dH op = 3) := by show _ = _; unfold dH; rw [if_neg gG]; rw [if_neg ah]; rw [if_pos ah]
   have HH : Hid (dM op = 3) := by show _ = _; unfold dM; rw [if_neg gG]; rw [if_neg ah]; rw [if_pos ah]
   have b81 : (op == 81) = false := bF ah
   have b71 : (op == 71) = true := beq_iff_eq.2 ah
   clear hok h71
   rotate_left
   by_cases h72 : op = 72
   have HL : Hid (dH op = 3) := by show _ = _; unfold dH; rw [if_neg gG]; rw [if_neg ah]; rw [if_pos ah]
   have HH : Hid (dM op = 3) := by show _ = _; unfold dM; rw [if_neg gG]; rw [if_neg ah]; rw [if_pos ah]
   have b81 : (op == 81) = false := bF ah
   have b71 : (op == 71) = false := bF ah
   have b72 : (op == 72) = true := beq_iff_eq.2 ah
   clear hok h72
   rotate_left
   by_cases h73 : op = 73
   have HL : Hid (dH op = 2) := by show _ = _; unfold dH; rw [if_neg gG]; rw [if_neg ah]; rw [if_neg ah]; rw [if_pos ah]
   have HH : Hid (dM op = 8) := by show _ = _; unfold dM; rw [if_neg gG]; rw [if_neg ah]; rw [if_neg ah]; rw [if_pos ah]
   have b81 : (op == 81) = false := bF ah
   have b71 : (op == 71) = false := bF ah
   have b72 : (op == 72) = false := bF ah
   have b73 : (op == 73) = true := beq_iff_eq.2 ah
   clear hok h73
   rotate_left
   by_cases h74 : op = 74
   have HL : Hid (dH op = 0) := by show _ = _; unfold dH; rw [if_neg gG]; rw [if_neg ah]; rw [if_neg ah]; rw [if_neg ah]; rw [if_pos ah]
   have HH : Hid (dM op = 8) := by show _ = _; unfold dM; rw [if_neg gG]; rw [if_neg ah]; rw [if_neg ah]; rw [if_neg ah]; rw [if_pos ah]
   have b81 : (op == 81) = false := bF ah
   have b71 : (op == 71) = false := bF ah
   have b72 : (op == 72) = false := bF ah
   have b73 : (op == 73) = false := bF ah
   have b74 : (op == 74) = true := beq_iff_eq.2 ah
   clear hok h74
   rotate_left
   have HL : Hid (dH op = 2) := by show _ = _; unfold dH; rw [if_neg gG]; rw [if_neg ah]; rw [if_neg ah]; rw [if_neg ah]; rw [if_neg ah]
   have HH : Hid (dM op = 2) := by show _ = _; unfold dM; rw [if_neg gG]; rw [if_neg ah]; rw [if_neg ah]; rw [if_neg ah]; rw [if_neg ah]
   have b81 : (op == 81) = false := bF ah
   have b71 : (op == 71) = false := bF ah
   have b72 : (op == 72) = false := bF ah
   have b73 : (op == 73) = false := bF ah
   have b74 : (op == 74) = false := bF ah
   clear hok
   iterate 7 focus
    go_in
    go_wp2_with fail
    refine HT.out.mono ?_; rintro e w1 ⟨t, rfl, h0, hs, hb⟩
    rw [HK.out] at h0
    simp only [Bool.not_true] at h0
    have h1 : ¬ t.toList = [] := by intro h; rw [h] at h0; cases h0
    go_wp2_with fail
    go_ret2
    exact ⟨xu HL.out.symm HH.out.symm, hb⟩
end
section
open Go.RowKit
theorem Uo (x : Value) (c : ak) (w : World) (lo hi : Nat) (hr : gX w lo hi x c) (ht : bT w) (h : c.kind = 11) : Calls Tryz.prog 86 #[x] w fun e w' => e = .returned (.tuple (aL (dw c.kind c.op) (dx c.kind c.op))) ∧ Below w.heap.size w w' := by
 obtain ⟨A, cap, rfl, -, -, -⟩ := hr.form
 have HV := lH (sV (op := c.op) h)
 have b11 : (c.kind == 11) = true := beq_iff_eq.2 h
 clear h hr
 have ht1 : bT (w.alloc (.cells (aB c.kind c.op c.number c.line c.text A c.kids.length cap) 43)) := ht.later (bA _ _)
 go_in
 go_wp2_with fail
 refine (xX c.op _ ht1).mono ?_; rintro e w1 ⟨rfl, hb1⟩
 exact Jl
theorem Up (x : Value) (c : ak) (w : World) (lo hi : Nat) (hr : gX w lo hi x c) (ht : bT w) (h : c.kind = 12) : Calls Tryz.prog 86 #[x] w fun e w' => e = .returned (.tuple (aL (dw c.kind c.op) (dx c.kind c.op))) ∧ Below w.heap.size w w' := by
 exact J5
theorem Uq (x : Value) (c : ak) (w : World) (lo hi : Nat) (hr : gX w lo hi x c) (ht : bT w) (h : c.kind = 13) : Calls Tryz.prog 86 #[x] w fun e w' => e = .returned (.tuple (aL (dw c.kind c.op) (dx c.kind c.op))) ∧ Below w.heap.size w w' := by
 obtain ⟨A, cap, rfl, -, -, -⟩ := hr.form
 have HV := lH (OP (op := c.op) h)
 have b11 : (c.kind == 11) = false := bF ah
 have b12 : (c.kind == 12) = false := bF ah
 have b13 : (c.kind == 13) = true := beq_iff_eq.2 h
 exact jy
theorem Ur (x : Value) (c : ak) (w : World) (lo hi : Nat) (hr : gX w lo hi x c) (ht : bT w) (h : c.kind = 15) : Calls Tryz.prog 86 #[x] w fun e w' => e = .returned (.tuple (aL (dw c.kind c.op) (dx c.kind c.op))) ∧ Below w.heap.size w w' := by
 obtain ⟨A, cap, rfl, -, -, -⟩ := hr.form
 have HV := lH (OT (op := c.op) h)
 have b11 : (c.kind == 11) = false := bF ah
 have b12 : (c.kind == 12) = false := bF ah
 exact Kh
theorem Us (x : Value) (c : ak) (w : World) (lo hi : Nat) (hr : gX w lo hi x c) (ht : bT w) (h : c.kind = 18) : Calls Tryz.prog 86 #[x] w fun e w' => e = .returned (.tuple (aL (dw c.kind c.op) (dx c.kind c.op))) ∧ Below w.heap.size w w' := by
 obtain ⟨A, cap, rfl, -, -, -⟩ := hr.form
 have HV := lH (OV (op := c.op) h)
 have b11 : (c.kind == 11) = false := bF ah
 have b12 : (c.kind == 12) = false := bF ah
 exact J8
theorem Ut (x : Value) (c : ak) (w : World) (lo hi : Nat) (hr : gX w lo hi x c) (ht : bT w) (h : c.kind = 19) : Calls Tryz.prog 86 #[x] w fun e w' => e = .returned (.tuple (aL (dw c.kind c.op) (dx c.kind c.op))) ∧ Below w.heap.size w w' := by
 obtain ⟨A, cap, rfl, -, -, -⟩ := hr.form
 have HV := lH (OW (op := c.op) h)
 have b11 : (c.kind == 11) = false := bF ah
 have b12 : (c.kind == 12) = false := bF ah
 exact J4
theorem Uu (x : Value) (c : ak) (w : World) (lo hi : Nat) (hr : gX w lo hi x c) (ht : bT w) (h : c.kind = 22) : Calls Tryz.prog 86 #[x] w fun e w' => e = .returned (.tuple (aL (dw c.kind c.op) (dx c.kind c.op))) ∧ Below w.heap.size w w' := by
 obtain ⟨A, cap, rfl, -, -, -⟩ := hr.form
 have HV := lH (OY (op := c.op) h)
 have b11 : (c.kind == 11) = false := bF ah
 have b12 : (c.kind == 12) = false := bF ah
 exact JX
theorem Uv (x : Value) (c : ak) (w : World) (lo hi : Nat) (hr : gX w lo hi x c) (ht : bT w) (h : c.kind = 25) : Calls Tryz.prog 86 #[x] w fun e w' => e = .returned (.tuple (aL (dw c.kind c.op) (dx c.kind c.op))) ∧ Below w.heap.size w w' := by
 obtain ⟨A, cap, rfl, -, -, -⟩ := hr.form
 have HV := lH (O1 (op := c.op) h)
 have b11 : (c.kind == 11) = false := bF ah
 have b12 : (c.kind == 12) = false := bF ah
 exact JU
theorem Uw (x : Value) (c : ak) (w : World) (lo hi : Nat) (hr : gX w lo hi x c) (ht : bT w) (h : c.kind = 14) : Calls Tryz.prog 86 #[x] w fun e w' => e = .returned (.tuple (aL (dw c.kind c.op) (dx c.kind c.op))) ∧ Below w.heap.size w w' := by
 obtain ⟨A, cap, rfl, -, -, -⟩ := hr.form
 have HV := lH (OQ (op := c.op) h)
 have b11 : (c.kind == 11) = false := bF ah
 have b12 : (c.kind == 12) = false := bF ah
 have b13 : (c.kind == 13) = false := bF ah
 have b15 : (c.kind == 15) = false := bF ah
 have b18 : (c.kind == 18) = false := bF ah
 have b19 : (c.kind == 19) = false := bF ah
 have b22 : (c.kind == 22) = false := bF ah
 have b25 : (c.kind == 25) = false := bF ah
 have b14 : (c.kind == 14) = true := beq_iff_eq.2 h
 exact jy
theorem Ux (x : Value) (c : ak) (w : World) (lo hi : Nat) (hr : gX w lo hi x c) (ht : bT w) (h : c.kind = 20) : Calls Tryz.prog 86 #[x] w fun e w' => e = .returned (.tuple (aL (dw c.kind c.op) (dx c.kind c.op))) ∧ Below w.heap.size w w' := by
 obtain ⟨A, cap, rfl, -, -, -⟩ := hr.form
 have HV := lH (OX (op := c.op) h)
 have b11 : (c.kind == 11) = false := bF ah
 have b12 : (c.kind == 12) = false := bF ah
 have b13 : (c.kind == 13) = false := bF ah
 have b15 : (c.kind == 15) = false := bF ah
 have b18 : (c.kind == 18) = false := bF ah
 have b19 : (c.kind == 19) = false := bF ah
 have b22 : (c.kind == 22) = false := bF ah
 have b25 : (c.kind == 25) = false := bF ah
 exact Kg
theorem Uy (x : Value) (c : ak) (w : World) (lo hi : Nat) (hr : gX w lo hi x c) (ht : bT w) (h : c.kind = 23) : Calls Tryz.prog 86 #[x] w fun e w' => e = .returned (.tuple (aL (dw c.kind c.op) (dx c.kind c.op))) ∧ Below w.heap.size w w' := by
 obtain ⟨A, cap, rfl, -, -, -⟩ := hr.form
 have HV := lH (OZ (op := c.op) h)
 have b11 : (c.kind == 11) = false := bF ah
 have b12 : (c.kind == 12) = false := bF ah
 have b13 : (c.kind == 13) = false := bF ah
 have b15 : (c.kind == 15) = false := bF ah
 have b18 : (c.kind == 18) = false := bF ah
 have b19 : (c.kind == 19) = false := bF ah
 have b22 : (c.kind == 22) = false := bF ah
 have b25 : (c.kind == 25) = false := bF ah
 exact J7
theorem Uz (x : Value) (c : ak) (w : World) (lo hi : Nat) (hr : gX w lo hi x c) (ht : bT w) (h : c.kind = 26) : Calls Tryz.prog 86 #[x] w fun e w' => e = .returned (.tuple (aL (dw c.kind c.op) (dx c.kind c.op))) ∧ Below w.heap.size w w' := by
 obtain ⟨A, cap, rfl, -, -, -⟩ := hr.form
 have HV := lH (O4 (op := c.op) h)
 have b11 : (c.kind == 11) = false := bF ah
 have b12 : (c.kind == 12) = false := bF ah
 have b13 : (c.kind == 13) = false := bF ah
 have b15 : (c.kind == 15) = false := bF ah
 have b18 : (c.kind == 18) = false := bF ah
 have b19 : (c.kind == 19) = false := bF ah
 have b22 : (c.kind == 22) = false := bF ah
 have b25 : (c.kind == 25) = false := bF ah
 exact J3
theorem UA (x : Value) (c : ak) (w : World) (lo hi : Nat) (hr : gX w lo hi x c) (ht : bT w) (h : c.kind = 27) : Calls Tryz.prog 86 #[x] w fun e w' => e = .returned (.tuple (aL (dw c.kind c.op) (dx c.kind c.op))) ∧ Below w.heap.size w w' := by
 obtain ⟨A, cap, rfl, -, -, -⟩ := hr.form
 have HV := lH (O5 (op := c.op) h)
 have b11 : (c.kind == 11) = false := bF ah
 have b12 : (c.kind == 12) = false := bF ah
 have b13 : (c.kind == 13) = false := bF ah
 have b15 : (c.kind == 15) = false := bF ah
 have b18 : (c.kind == 18) = false := bF ah
 have b19 : (c.kind == 19) = false := bF ah
 have b22 : (c.kind == 22) = false := bF ah
 have b25 : (c.kind == 25) = false := bF ah
 exact JW
theorem UB (x : Value) (c : ak) (w : World) (lo hi : Nat) (hr : gX w lo hi x c) (ht : bT w) (h : c.kind = 16) : Calls Tryz.prog 86 #[x] w fun e w' => e = .returned (.tuple (aL (dw c.kind c.op) (dx c.kind c.op))) ∧ Below w.heap.size w w' := by
 obtain ⟨A, cap, rfl, -, -, -⟩ := hr.form
 have HV := lH (GM (op := c.op) h)
 have b11 : (c.kind == 11) = false := bF ah
 have b12 : (c.kind == 12) = false := bF ah
 have b13 : (c.kind == 13) = false := bF ah
 have b15 : (c.kind == 15) = false := bF ah
 have b18 : (c.kind == 18) = false := bF ah
 have b19 : (c.kind == 19) = false := bF ah
 have b22 : (c.kind == 22) = false := bF ah
 have b25 : (c.kind == 25) = false := bF ah
 have b14 : (c.kind == 14) = false := bF ah
 have b20 : (c.kind == 20) = false := bF ah
 have b23 : (c.kind == 23) = false := bF ah
 have b26 : (c.kind == 26) = false := bF ah
 have b27 : (c.kind == 27) = false := bF ah
 have b16 : (c.kind == 16) = true := beq_iff_eq.2 h
 exact jy
theorem UC (x : Value) (c : ak) (w : World) (lo hi : Nat) (hr : gX w lo hi x c) (ht : bT w) (h : c.kind = 17) : Calls Tryz.prog 86 #[x] w fun e w' => e = .returned (.tuple (aL (dw c.kind c.op) (dx c.kind c.op))) ∧ Below w.heap.size w w' := by
 obtain ⟨A, cap, rfl, -, -, -⟩ := hr.form
 have HV := lH (OU (op := c.op) h)
 have b11 : (c.kind == 11) = false := bF ah
 have b12 : (c.kind == 12) = false := bF ah
 have b13 : (c.kind == 13) = false := bF ah
 have b15 : (c.kind == 15) = false := bF ah
 have b18 : (c.kind == 18) = false := bF ah
 have b19 : (c.kind == 19) = false := bF ah
 have b22 : (c.kind == 22) = false := bF ah
 have b25 : (c.kind == 25) = false := bF ah
 have b14 : (c.kind == 14) = false := bF ah
 have b20 : (c.kind == 20) = false := bF ah
 have b23 : (c.kind == 23) = false := bF ah
 have b26 : (c.kind == 26) = false := bF ah
 have b27 : (c.kind == 27) = false := bF ah
 have b16 : (c.kind == 16) = false := bF ah
 have b17 : (c.kind == 17) = true := beq_iff_eq.2 h
 exact jy
theorem UD (x : Value) (c : ak) (w : World) (lo hi : Nat) (hr : gX w lo hi x c) (h : ¬ (c.kind = 11 ∨ c.kind = 12 ∨ c.kind = 13 ∨ c.kind = 14 ∨ c.kind = 15 ∨ c.kind = 16 ∨ c.kind = 17 ∨ c.kind = 18 ∨ c.kind = 19 ∨ c.kind = 20 ∨ c.kind = 22 ∨ c.kind = 23 ∨ c.kind = 25 ∨ c.kind = 26 ∨ c.kind = 27)) : Calls Tryz.prog 86 #[x] w fun e w' => e = .returned (.tuple (aL (dw c.kind c.op) (dx c.kind c.op))) ∧ Below w.heap.size w w' := by
 obtain ⟨A, cap, rfl, -, -, -⟩ := hr.form
 have HV := lH (rX (op := c.op) h)
 simp only [not_or] at h
 obtain ⟨h11, h12, h13, h14, h15, h16, h17, h18, h19, h20, h22, h23, h25, h26, h27⟩ := h
 have b11 : (c.kind == 11) = false := bF (h11)
 have b12 : (c.kind == 12) = false := bF (h12)
 have b13 : (c.kind == 13) = false := bF (h13)
 have b15 : (c.kind == 15) = false := bF (h15)
 have b18 : (c.kind == 18) = false := bF (h18)
 have b19 : (c.kind == 19) = false := bF (h19)
 have b22 : (c.kind == 22) = false := bF (h22)
 have b25 : (c.kind == 25) = false := bF (h25)
 have b14 : (c.kind == 14) = false := bF (h14)
 have b20 : (c.kind == 20) = false := bF (h20)
 have b23 : (c.kind == 23) = false := bF (h23)
 have b26 : (c.kind == 26) = false := bF (h26)
 have b27 : (c.kind == 27) = false := bF (h27)
 have b16 : (c.kind == 16) = false := bF (h16)
 exact Ke
theorem QC (x : Value) (c : ak) (w : World) (lo hi : Nat) (hr : gX w lo hi x c) (ht : bT w) : Calls Tryz.prog 86 #[x] w fun e w' => e = .returned (.tuple (aL (dw c.kind c.op) (dx c.kind c.op))) ∧ Below w.heap.size w w' := by
 by_cases h11 : c.kind = 11
 ·exact Uo x c w lo hi hr ht h11
 by_cases h12 : c.kind = 12
 ·exact Up x c w lo hi hr ht h12
 by_cases h13 : c.kind = 13
 ·exact Uq x c w lo hi hr ht h13
 by_cases h15 : c.kind = 15
 ·exact Ur x c w lo hi hr ht h15
 by_cases h18 : c.kind = 18
 ·exact Us x c w lo hi hr ht h18
 by_cases h19 : c.kind = 19
 ·exact Ut x c w lo hi hr ht h19
 by_cases h22 : c.kind = 22
 ·exact Uu x c w lo hi hr ht h22
 by_cases h25 : c.kind = 25
 ·exact Uv x c w lo hi hr ht h25
 by_cases h14 : c.kind = 14
 ·exact Uw x c w lo hi hr ht h14
 by_cases h20 : c.kind = 20
 ·exact Ux x c w lo hi hr ht h20
 by_cases h23 : c.kind = 23
 ·exact Uy x c w lo hi hr ht h23
 by_cases h26 : c.kind = 26
 ·exact Uz x c w lo hi hr ht h26
 by_cases h27 : c.kind = 27
 ·exact UA x c w lo hi hr ht h27
 by_cases h16 : c.kind = 16
 ·exact UB x c w lo hi hr ht h16
 by_cases h17 : c.kind = 17
 ·exact UC x c w lo hi hr ht h17
 exact UD x c w lo hi hr OJ
end
end Go.Proofs.YthbcamfejgghhaaGreatDoor
