/- The oZ expressions of a level. The oZ expressions: the parts joined, by the room that the nesting leaves. P9 of the program. -/
import Derived.Test.YthbcamfejgghhaaGreatDoorQ31
set_option maxRecDepth 100000
set_option maxHeartbeats 8000000
set_option linter.unusedVariables false
set_option linter.unusedSimpArgs false
namespace Go.Proofs.YthbcamfejgghhaaGreatDoor
open Go.IntKind (i64)
section
open Go Go.RowKit
theorem Lu (deep : Int) (hd0 : 0 ≤ deep) (hd1 : deep ≤ 1000) (hU : tK deep) (HL : deep ≤ 200 → lY (deep + 1)) : lY deep := by
 intro p ts a bad w level h hT afk hlv1
 have H := lH h
 have HT := lH hT
 have lp := h.lt
 have hl := hT.len
 have ha0 := h.le
 clear h hT
 obtain ⟨b40, hb0⟩ := dQ w 179 (ay 0 ⟨#[]⟩ 0 0 none 0 0)
 have hM0 := lH ((Mv.start H.out).below hb0)
 clear hb0
 go_in
 go_wp2_with fail
 refine (hU hM0.out.ps HT.out).mono ?_
 rintro e w2 ⟨c, Ac, nc, a1, gZ, rfl, hmv, hdd, hok, hin⟩
 have hs2 : w.heap.size + 1 ≤ w2.heap.size := by have := hmv.size; simpa using this
 have hM2 := lH ((hM0.out.step hmv).below ((bR _ _).alloc (nR _) (.cells (ay c.kind c.text c.number c.line Ac c.kids.length nc) 179)))
 have b42 := (b40.grown hmv.gr aK).alloc (.cells (ay c.kind c.text c.number c.line Ac c.kids.length nc) 179)
 have bl2 := Blk.new w2 179 (ay c.kind c.text c.number c.line Ac c.kids.length nc)
 have hQ2 := lH (((gJ.of (B := w.heap.size + 1) (X := []) hin av av).more (Y := [w2.heap.size]) (fun x hx => .inr (.inl (by rw [mS hx]; exact nR _)))).alloc (.cells (ay c.kind c.text c.number c.line Ac c.kids.length nc) 179))
 have XX := lH hok
 have HD2 := lH hdd
 have hsl2 : w2.heap.size < (w2.alloc (.cells (ay c.kind c.text c.number c.line Ac c.kids.length nc) 179)).heap.size := av
 clear hmv hdd hok hin hM0 b40
 unfold aH.cells
 go_wp2_with fail
 go_loopg [] (ts.length - a1) (fun gk wx => ∃ (c : aH) (Ac : Option Addr) (nc a1 : Nat) (gZ : Int), Hid (Mv p ts w a bad true wx a1 gZ) ∧ Hid c.Ok ∧ Hid (gq wx (w.heap.size + 1) [w2.heap.size] c Ac nc) ∧ Blk wx w2.heap.size 179 (ay c.kind c.text c.number c.line Ac c.kids.length nc) ∧ Blk wx w.heap.size 179 (ay 0 aC 0 0 none 0 0) ∧ w2.heap.size < wx.heap.size ∧ Hid (gZ = 0 → deep ≤ 200) ∧ gk = ts.length - a1)
 case atStart => exact ⟨c, Ac, nc, a1, gZ, lH (by simpa using hM2.out), XX, hQ2, bl2, b42, hsl2, HD2, rfl⟩
 clear hM2 XX hQ2 bl2 b42 hsl2 HD2
 obtain ⟨c, Ac, nc, a1, gZ, hM, hOK, hQ, be, b4, hsx, HD, rfl⟩ := hrel
 have p2 := hM.out.ps.j5
 have ha1 := hM.out.top
 by_cases hz : gZ = 0
 rotate_left
 ·have cz : (gZ == 0) = false := by simp [hz]
  clear hz
  have ce := be.cell
  obtain ⟨c4, l4, f4⟩ := b4.all
  go_wp2_with fail
  refine bodyPost_ret (v := .agg (ay c.kind c.text c.number c.line Ac c.kids.length nc)) ?_ rfl ⟨c, Ac, nc, _, _, rfl, hM.out.gU lp (nR _), HD.out, hOK.out, (hQ.out.gU (.inr (Nat.lt_succ_self _))).to (Nat.le_succ _) (nR _)⟩
  simp [results, Tryz.results161, go_sem, c4]
 subst hz
 have hdl := HD.out rfl
 have hL : lY (deep + 1) := HL hdl
 have hw1 : IntKind.i64.wrap (deep + 1) = deep + 1 := IntWalk.i64_in _ ah
 go_wp2_with fail
 refine (jL hM.out.ps HT.out).mono ?_
 rintro e w6 ⟨rfl, hb6⟩
 obtain ⟨q1, q2, q3⟩ := y8 HT.out a1
 have HK : Hid (¬ (gY ts a1).kind = 0 → a1 < ts.length) := fun h => xM h
 generalize gY ts a1 = t at *
 replace hM := lH ((hM.out.below hb6).below ((bR _ _).alloc (nR _) (.cells (aV t.kind t.text t.line) 171)))
 replace be := (be.later hb6).alloc (.cells (aV t.kind t.text t.line) 171)
 replace b4 := (b4.later hb6).alloc (.cells (aV t.kind t.text t.line) 171)
 replace hQ := lH ((hQ.out.later hb6).alloc (.cells (aV t.kind t.text t.line) 171))
 have bt := Blk.new w6 171 (aV t.kind t.text t.line)
 replace hsx := nL hsx hb6.size
 have hs6 : w6.heap.size + 1 ≤ (w6.alloc (.cells (aV t.kind t.text t.line) 171)).heap.size := av
 clear p2 hb6
 go_upto_region 4 with fail
 generalize w6.alloc (.cells (aV t.kind t.text t.line) 171) = W at *
 have ct := bt.cell
 rcases bE ((t.kind == 2) && (t.text.toList == [116, 111]) && decide (level ≤ 4)) with hto | hto
 ·simp only [Bool.and_eq_true, decide_eq_true_eq] at hto
  obtain ⟨⟨k2, kt⟩, hl4⟩ := hto
  have hA : a1 < ts.length := HK.out (fun h => by rw [h] at k2; cases k2)
  have p1 := hM.out.ps.at1
  have f1 := hM.out.ps.frz 1
  have hw2 : IntKind.i64.wrap ((a1 : Int) + 1) = (a1 : Int) + 1 := IntWalk.i64_in _ ah
  go_upto_region 6 with fail
  replace hM := lH (hM.out.setAt (x := (a1 : Int) + 1) ah hA)
  replace be := be.far (p := ⟨p, 1, none⟩) Ce (.int i64 ((a1 : Int) + 1))
  replace b4 := b4.far (p := ⟨p, 1, none⟩) qQ (.int i64 ((a1 : Int) + 1))
  replace bt := bt.far (p := ⟨p, 1, none⟩) (by show w6.heap.size ≠ p; omega) (.int i64 ((a1 : Int) + 1))
  replace hQ := lH (hQ.out.set (q := ⟨p, 1, none⟩) (.inr (by show p < _; omega)) (.int i64 ((a1 : Int) + 1)))
  have hz1 : W.heap.size ≤ (W.setCell (aj p 1) (.int i64 ((a1 : Int) + 1))).heap.size := by simp [World.setCell]
  clear ct p1 f1 hw2 k2 kt hl4
  generalize W.setCell (aj p 1) (.int i64 ((a1 : Int) + 1)) = W1 at *
  go_cut [9] (fun v wx => ∃ (ge : Nat) (d : aH) (A3 : Option Addr) (n3 a3 : Nat) (mI : Int) (vs : List Value), v = .pointer (some (aj ge 0)) ∧ Hid (Mv p ts w a bad true wx a3 mI) ∧ a1 < a3 ∧ Hid d.Ok ∧ Hid (dL (w.heap.size + 1) [ge, w2.heap.size] 179 5 aH.aG wx [c, d] (.slice A3 2 n3) vs) ∧ Blk wx ge 179 (ay 9 aC 0 t.line A3 2 n3) ∧ Blk wx w2.heap.size 179 (ay c.kind c.text c.number c.line Ac c.kids.length nc) ∧ Blk wx w.heap.size 179 (ay 0 aC 0 0 none 0 0) ∧ w2.heap.size < ge)
  case first =>
   skip
   have cT := bt.cell
   have cL := be.cell
   refine jm 11 (fun w' => (∀ i, w'.cell? (aj w6.heap.size i) = (aV t.kind t.text t.line : Array Value)[i]?) ∧ (∀ i, w'.cell? (aj w2.heap.size i) = (ay c.kind c.text c.number c.line Ac c.kids.length nc : Array Value)[i]?)) 10 ?_
   replace be := be.drew
   replace bt := bt.drew
   replace b4 := b4.drew
   replace hQ := lH hQ.out.drew
   replace hM := lH (hM.out.below ((Same.refl W1).drew.below _))
   have wN : W1.heap.size ≤ W1.drew.heap.size := nR _
   generalize W1.drew = Wd at *
   clear cT cL
   have cT := bt.cell
   have cL := be.cell
   refine tkB 0 ⟨cT, cL⟩ ?_
   refine tkB 1 ⟨cT, cL⟩ ?_
   refine tkB 2 ⟨cT, cL⟩ ?_
   refine tkB 3 ⟨cT, cL⟩ ?_
   refine tkB 4 ⟨cT, cL⟩ ?_
   refine tkB 5 ⟨cT, cL⟩ ?_
   refine dV [6, 9] aI rfl ?_
   refine bS.aN rfl (fun K hK => ?_) (bS.aN rfl (fun K hK => ?_) bS.eO)
   ·skip
    go_simp
    go_at_call 161
    refine (hL 5 hM.out.ps HT.out ah ah).mono ?_
    rintro e w7 ⟨d, Ad, nd, a3, mI, rfl, hmv, -, hok, hin⟩
    replace hQ := lH (hQ.out.call hmv.gr ah hin ah aJ)
    replace hM := lH (hM.out.step hmv)
    replace be := be.grown hmv.gr aK
    replace bt := bt.grown hmv.gr aK
    replace b4 := b4.grown hmv.gr aK
    have hl3 := hmv.le
    have hs7 := hmv.size
    have AB := lH hok
    clear hmv hok hin
    unfold aH.cells
    try go_wp2_with fail
    clear cT cL
    have cT := bt.cell
    have cL := be.cell
    refine fM hK ⟨cT, cL⟩ ?_
    clear hK K
    refine dV [7, 9] aI rfl ?_
    refine bS.aN rfl (fun K hK => ?_) (bS.aN rfl (fun K hK => ?_) bS.eO)
    ·skip
     go_simp
     have hG : Hid (dL (w.heap.size + 1) [w2.heap.size] 179 5 aH.aG (w7.alloc (.cells (dX c.kind c.text c.number c.line Ac c.kids.length nc d.kind d.text d.number d.line Ad d.kids.length nd) 179)) [c, d] (.slice (some (aj w7.heap.size 0)) 2 2) _) := dL.lit (e := 179) (l := [c, d]) (K := 5) (gJ.two hQ.out) rfl ah aJ vU
     have hsz : w7.heap.size + 1 ≤ (w7.alloc (.cells (dX c.kind c.text c.number c.line Ac c.kids.length nc d.kind d.text d.number d.line Ad d.kids.length nd) 179)).heap.size := av
     have hsy : (w7.alloc (.cells (dX c.kind c.text c.number c.line Ac c.kids.length nc d.kind d.text d.number d.line Ad d.kids.length nd) 179)).heap.size ≤ w7.heap.size + 1 := av
     replace hM := lH (hM.out.below ((bR _ _).alloc (nR _) (.cells (dX c.kind c.text c.number c.line Ac c.kids.length nc d.kind d.text d.number d.line Ad d.kids.length nd) 179)))
     replace be := be.alloc (.cells (dX c.kind c.text c.number c.line Ac c.kids.length nc d.kind d.text d.number d.line Ad d.kids.length nd) 179)
     replace bt := bt.alloc (.cells (dX c.kind c.text c.number c.line Ac c.kids.length nc d.kind d.text d.number d.line Ad d.kids.length nd) 179)
     replace b4 := b4.alloc (.cells (dX c.kind c.text c.number c.line Ac c.kids.length nc d.kind d.text d.number d.line Ad d.kids.length nd) 179)
     clear hQ
     clear cT cL
     have cT := bt.cell
     have cL := be.cell
     refine fM hK ⟨cT, cL⟩ ?_
     clear hK K
     generalize w7.alloc (.cells (dX c.kind c.text c.number c.line Ac c.kids.length nc d.kind d.text d.number d.line Ad d.kids.length nd) 179) = W8 at *
     refine tkB 8 ⟨cT, cL⟩ ?_
     refine rdA 9 (fun K hK => ?_)
     go_simp
     have bn := Blk.new W8 179 (ay 0 aC 0 0 none 0 0)
     have hsz : W8.heap.size + 1 ≤ (W8.alloc (.cells (ay 0 aC 0 0 none 0 0) 179)).heap.size := av
     have hsy : (W8.alloc (.cells (ay 0 aC 0 0 none 0 0) 179)).heap.size ≤ W8.heap.size + 1 := av
     replace hM := lH (hM.out.below ((bR _ _).alloc (nR _) (.cells (ay 0 aC 0 0 none 0 0) 179)))
     replace be := be.alloc (.cells (ay 0 aC 0 0 none 0 0) 179)
     replace bt := bt.alloc (.cells (ay 0 aC 0 0 none 0 0) 179)
     replace b4 := b4.alloc (.cells (ay 0 aC 0 0 none 0 0) 179)
     replace hG := lH ((hG.out.more (Y := [W8.heap.size, w2.heap.size]) yS).alloc (.cells (ay 0 ⟨#[]⟩ 0 0 none 0 0) 179))
     have hge : w2.heap.size < W8.heap.size := ah
     clear cT cL
     have cT := bt.cell
     have cL := be.cell
     refine fM hK ⟨cT, cL⟩ ?_
     clear hK K
     generalize W8.alloc (.cells (ay 0 aC 0 0 none 0 0) 179) = W9 at *
     refine rdA 10 (fun K hK => ?_)
     obtain ⟨cn, ln, fn⟩ := bn.all
     go_simp
     refine rE hK ?_
     clear hK K
     refine bY aI ?_ _
     go_wp2_with fail
     go_meet
     exact ⟨_, d, _, _, _, _, _, rfl, lH (by simpa using (hM.out.gU lp (g := W8.heap.size) ah)), ah, AB, lH (hG.out.gU (.inl av)), bn.gU, be.zM ah, b4.zM ah, hge⟩
    skip
    go_simp
    have bn := Blk.new w7 179 (ay 0 aC 0 0 none 0 0)
    have hsz : w7.heap.size + 1 ≤ (w7.alloc (.cells (ay 0 aC 0 0 none 0 0) 179)).heap.size := av
    have hsy : (w7.alloc (.cells (ay 0 aC 0 0 none 0 0) 179)).heap.size ≤ w7.heap.size + 1 := av
    replace hM := lH (hM.out.below ((bR _ _).alloc (nR _) (.cells (ay 0 aC 0 0 none 0 0) 179)))
    replace be := be.alloc (.cells (ay 0 aC 0 0 none 0 0) 179)
    replace bt := bt.alloc (.cells (ay 0 aC 0 0 none 0 0) 179)
    replace b4 := b4.alloc (.cells (ay 0 aC 0 0 none 0 0) 179)
    replace hQ := lH ((hQ.out.more (Y := [w7.heap.size, w2.heap.size]) yS).alloc (.cells (ay 0 ⟨#[]⟩ 0 0 none 0 0) 179))
    have hge : w2.heap.size < w7.heap.size := ah
    clear cT cL
    have cT := bt.cell
    have cL := be.cell
    refine fM hK ⟨cT, cL⟩ ?_
    clear hK K
    generalize w7.alloc (.cells (ay 0 aC 0 0 none 0 0) 179) = W8 at *
    refine rdA 7 (fun K hK => ?_)
    go_simp
    have hG : Hid (dL (w.heap.size + 1) [w7.heap.size, w2.heap.size] 179 5 aH.aG (W8.alloc (.cells (dX c.kind c.text c.number c.line Ac c.kids.length nc d.kind d.text d.number d.line Ad d.kids.length nd) 179)) [c, d] (.slice (some (aj W8.heap.size 0)) 2 2) _) := dL.lit (e := 179) (l := [c, d]) (K := 5) (gJ.two hQ.out) rfl ah aJ vU
    have hsz : W8.heap.size + 1 ≤ (W8.alloc (.cells (dX c.kind c.text c.number c.line Ac c.kids.length nc d.kind d.text d.number d.line Ad d.kids.length nd) 179)).heap.size := av
    have hsy : (W8.alloc (.cells (dX c.kind c.text c.number c.line Ac c.kids.length nc d.kind d.text d.number d.line Ad d.kids.length nd) 179)).heap.size ≤ W8.heap.size + 1 := av
    replace hM := lH (hM.out.below ((bR _ _).alloc (nR _) (.cells (dX c.kind c.text c.number c.line Ac c.kids.length nc d.kind d.text d.number d.line Ad d.kids.length nd) 179)))
    replace be := be.alloc (.cells (dX c.kind c.text c.number c.line Ac c.kids.length nc d.kind d.text d.number d.line Ad d.kids.length nd) 179)
    replace bt := bt.alloc (.cells (dX c.kind c.text c.number c.line Ac c.kids.length nc d.kind d.text d.number d.line Ad d.kids.length nd) 179)
    replace b4 := b4.alloc (.cells (dX c.kind c.text c.number c.line Ac c.kids.length nc d.kind d.text d.number d.line Ad d.kids.length nd) 179)
    replace bn := bn.alloc (.cells (dX c.kind c.text c.number c.line Ac c.kids.length nc d.kind d.text d.number d.line Ad d.kids.length nd) 179)
    clear hQ
    clear cT cL
    have cT := bt.cell
    have cL := be.cell
    refine fM hK ⟨cT, cL⟩ ?_
    clear hK K
    generalize W8.alloc (.cells (dX c.kind c.text c.number c.line Ac c.kids.length nc d.kind d.text d.number d.line Ad d.kids.length nd) 179) = W9 at *
    refine tkB 8 ⟨cT, cL⟩ ?_
    refine rdA 10 (fun K hK => ?_)
    obtain ⟨cn, ln, fn⟩ := bn.all
    go_simp
    refine rE hK ?_
    clear hK K
    refine bY aI ?_ _
    go_wp2_with fail
    go_meet
    exact ⟨_, d, _, _, _, _, _, rfl, lH (by simpa using (hM.out.gU lp (g := w7.heap.size) ah)), ah, AB, lH (hG.out.gU (.inl av)), bn.gU, be.zM ah, b4.zM ah, hge⟩
   skip
   go_simp
   have bn := Blk.new Wd 179 (ay 0 aC 0 0 none 0 0)
   have hsz : Wd.heap.size + 1 ≤ (Wd.alloc (.cells (ay 0 aC 0 0 none 0 0) 179)).heap.size := av
   have hsy : (Wd.alloc (.cells (ay 0 aC 0 0 none 0 0) 179)).heap.size ≤ Wd.heap.size + 1 := av
   replace hM := lH (hM.out.below ((bR _ _).alloc (nR _) (.cells (ay 0 aC 0 0 none 0 0) 179)))
   replace be := be.alloc (.cells (ay 0 aC 0 0 none 0 0) 179)
   replace bt := bt.alloc (.cells (ay 0 aC 0 0 none 0 0) 179)
   replace b4 := b4.alloc (.cells (ay 0 aC 0 0 none 0 0) 179)
   replace hQ := lH ((hQ.out.more (Y := [Wd.heap.size, w2.heap.size]) yS).alloc (.cells (ay 0 ⟨#[]⟩ 0 0 none 0 0) 179))
   have hge : w2.heap.size < Wd.heap.size := ah
   clear cT cL
   have cT := bt.cell
   have cL := be.cell
   refine fM hK ⟨cT, cL⟩ ?_
   clear hK K
   generalize Wd.alloc (.cells (ay 0 aC 0 0 none 0 0) 179) = W8 at *
   refine rdA 6 (fun K hK => ?_)
   go_simp
   go_at_call 161
   refine (hL 5 hM.out.ps HT.out ah ah).mono ?_
   rintro e w7 ⟨d, Ad, nd, a3, mI, rfl, hmv, -, hok, hin⟩
   replace hQ := lH (hQ.out.call hmv.gr ah hin ah aJ)
   replace hM := lH (hM.out.step hmv)
   replace be := be.grown hmv.gr aK
   replace bt := bt.grown hmv.gr aK
   replace b4 := b4.grown hmv.gr aK
   replace bn := bn.grown hmv.gr aK
   have hl3 := hmv.le
   have hs7 := hmv.size
   have AB := lH hok
   clear hmv hok hin
   unfold aH.cells
   try go_wp2_with fail
   clear cT cL
   have cT := bt.cell
   have cL := be.cell
   refine fM hK ⟨cT, cL⟩ ?_
   clear hK K
   refine rdA 7 (fun K hK => ?_)
   go_simp
   have hG : Hid (dL (w.heap.size + 1) [Wd.heap.size, w2.heap.size] 179 5 aH.aG (w7.alloc (.cells (dX c.kind c.text c.number c.line Ac c.kids.length nc d.kind d.text d.number d.line Ad d.kids.length nd) 179)) [c, d] (.slice (some (aj w7.heap.size 0)) 2 2) _) := dL.lit (e := 179) (l := [c, d]) (K := 5) (gJ.two hQ.out) rfl ah aJ vU
   have hsz : w7.heap.size + 1 ≤ (w7.alloc (.cells (dX c.kind c.text c.number c.line Ac c.kids.length nc d.kind d.text d.number d.line Ad d.kids.length nd) 179)).heap.size := av
   have hsy : (w7.alloc (.cells (dX c.kind c.text c.number c.line Ac c.kids.length nc d.kind d.text d.number d.line Ad d.kids.length nd) 179)).heap.size ≤ w7.heap.size + 1 := av
   replace hM := lH (hM.out.below ((bR _ _).alloc (nR _) (.cells (dX c.kind c.text c.number c.line Ac c.kids.length nc d.kind d.text d.number d.line Ad d.kids.length nd) 179)))
   replace be := be.alloc (.cells (dX c.kind c.text c.number c.line Ac c.kids.length nc d.kind d.text d.number d.line Ad d.kids.length nd) 179)
   replace bt := bt.alloc (.cells (dX c.kind c.text c.number c.line Ac c.kids.length nc d.kind d.text d.number d.line Ad d.kids.length nd) 179)
   replace b4 := b4.alloc (.cells (dX c.kind c.text c.number c.line Ac c.kids.length nc d.kind d.text d.number d.line Ad d.kids.length nd) 179)
   replace bn := bn.alloc (.cells (dX c.kind c.text c.number c.line Ac c.kids.length nc d.kind d.text d.number d.line Ad d.kids.length nd) 179)
   clear hQ
   clear cT cL
   have cT := bt.cell
   have cL := be.cell
   refine fM hK ⟨cT, cL⟩ ?_
   clear hK K
   generalize w7.alloc (.cells (dX c.kind c.text c.number c.line Ac c.kids.length nc d.kind d.text d.number d.line Ad d.kids.length nd) 179) = W9 at *
   refine tkB 8 ⟨cT, cL⟩ ?_
   refine rdA 10 (fun K hK => ?_)
   obtain ⟨cn, ln, fn⟩ := bn.all
   go_simp
   refine rE hK ?_
   clear hK K
   refine bY aI ?_ _
   go_wp2_with fail
   go_meet
   exact ⟨_, d, _, _, _, _, _, rfl, lH (by simpa using (hM.out.gU lp (g := Wd.heap.size) ah)), ah, AB, lH (hG.out.gU (.inl av)), bn.gU, be.zM ah, b4.zM ah, hge⟩
  obtain ⟨ge, d, A3, n3, a3, mI, vs, rfl, hM3, ha3, AB, hG3, be3, bl3, b43, hge⟩ := hcut
  clear hM be b4 bt hQ
  have lge := be3.lt
  have h53 := hM3.out.size
  go_wp2_with fail
  refine (dP _ hM3.out.ps HT.out).mono ?_
  rintro e w10 ⟨b, a4, rfl, hmv, -, -, -⟩
  have hM4 := lH (hM3.out.step hmv)
  have be4 := be3.grown hmv.gr aK
  have bl4 := bl3.grown hmv.gr aK
  have b44 := b43.grown hmv.gr aK
  have hG4 := lH (hG3.out.box hmv.gr ah)
  have hl4 := hmv.le
  have hs4 := hmv.size
  clear hmv hM3 be3 bl3 b43 hG3
  cases b with
  | true =>
    go_upto_region 8 with fail
    have cT := be4.cell
    refine jm 10 (fun w' => ∀ i, w'.cell? (aj ge i) = (ay 9 aC 0 t.line A3 2 n3 : Array Value)[i]?) 9 ?_
    replace be4 := be4.drew
    replace bl4 := bl4.drew
    replace b44 := b44.drew
    replace hG4 := lH hG4.out.drew
    replace hM4 := lH (hM4.out.below ((Same.refl w10).drew.below _))
    have wN : w10.heap.size ≤ w10.drew.heap.size := nR _
    generalize w10.drew = Wd at *
    clear cT
    have cT := be4.cell
    refine tkB 0 cT ?_
    refine tkB 1 cT ?_
    refine tkB 2 cT ?_
    refine tkB 3 cT ?_
    refine tkB 4 cT ?_
    refine rdA 5 (fun K hK => ?_)
    go_simp
    go_at_call 161
    refine (hL 5 hM4.out.ps HT.out ah ah).mono ?_
    rintro e wK5 ⟨c5, Ak5, nk5, a5, uk, rfl, hmv, -, hok, hin⟩
    have hMK := lH (hM4.out.step hmv)
    have beK := be4.grown hmv.gr aK
    replace bl4 := bl4.grown hmv.gr aK
    replace b44 := b44.grown hmv.gr aK
    have hGK := lH (hG4.out.box hmv.gr ah)
    have hgK := lH hmv.gr
    have le5 := hmv.le
    have hsK := hmv.size
    have R6 := hGK.out.own
    have awK := hGK.out.away
    have ok5 := lH hok
    have hIN := lH hin
    clear hmv hok hin cT
    have cT := beK.cell
    have AW := lH awK
    clear awK
    unfold aH.cells
    try go_wp2_with fail
    refine fM hK cT ?_
    clear hK K
    refine rdA 6 (fun K hK => ?_)
    go_simp
    have cT2 := (beK.alloc (.cells (ay c5.kind c5.text c5.number c5.line Ak5 c5.kids.length nk5) 179)).cell
    refine fM hK cT2 ?_
    clear hK K
    refine rdA 7 (fun K hK => ?_)
    refine rV (w := wK5) rfl (.tmp 53) (.tmp 58) 177 rfl 179 _ 5 64 mJ Tryz.underlying177 rfl aA aA (w.heap.size + 1) _ _ _ rfl R6 (ay c5.kind c5.text c5.number c5.line Ak5 c5.kids.length nk5) 1 179 rfl (Same.refl _) rfl eZ av ah ?_
    intro v' w5 Na hgr hat
    obtain ⟨A5, n5, rfl, -⟩ := (Rds.dU Na).shape
    have hX : ∀ x ∈ [ge, w2.heap.size], x < Wd.heap.size := aJ
    have G5 := lH (hG4.out.push hgK.out ah ah hX hIN.out Na hgr hat)
    have hM5 := lH (hMK.out.own lp hgr BI)
    have be5 := beK.grown hgr (fun e => (AW.out _ e.symm).2.1 av)
    replace bl4 := bl4.grown hgr GB
    replace b44 := b44.grown hgr GB
    have hsL := hgr.size
    clear cT cT2 Na R6 hgr hat hX hGK hMK beK hIN hgK AW
    have cT := be5.cell
    refine fM hK cT ?_
    clear hK K
    refine tkB 8 cT ?_
    refine rdA 9 (fun K hK => ?_)
    have fT := be5.frozen
    have lT := be5.lt
    go_simp
    refine rE hK ?_
    clear hK K
    refine bY aI ?_ _
    replace hM5 := lH (hM5.out.far lp (q := ⟨ge, 4, none⟩) (by show w.heap.size ≤ ge; omega) (.slice A5 3 n5))
    replace G5 := lH (G5.out.set (q := ⟨ge, 4, none⟩) (.inl av) (.slice A5 3 n5))
    replace bl4 := bl4.far (p := ⟨ge, 4, none⟩) (by show _ ≠ ge; omega) (.slice A5 3 n5)
    replace b44 := b44.far (p := ⟨ge, 4, none⟩) (by show _ ≠ ge; omega) (.slice A5 3 n5)
    replace be5 := be5.aF 4 (.slice A5 3 n5)
    have hz5 : (w5.setCell (aj ge 4) (.slice A5 3 n5)).heap.size = w5.heap.size := by simp [World.setCell]
    generalize w5.setCell (aj ge 4) (.slice A5 3 n5) = W5 at *
    clear cT fT lT hM4 be4 hG4
    have ce := be5.cell
    obtain ⟨cl, ll, fl⟩ := bl4.all
    go_wp2_with fail
    have hq := lH (((gq.node (l := [c, d, c5]) (A := A5) (n := n5) (G5.out.row) 9 aC 0 t.line).more (Y := [w2.heap.size]) (fun x hx => .inl (by simp at hx ⊢; exact .inr hx))))
    have ht9 := hM5.out.top
    have hs9 := ll
    go_roundg (ts.length - a5)
    case measure => omega
    exact ⟨aH.mk 9 aC 0 t.line [c, d, c5], A5, n5, a5, _, lH (by simpa using (hM5.out.gU lp (g := w2.heap.size) ah)), lH (nY _ _ _ _ _ (nZ _) ⟨q2, q3⟩ aA l8 av aA (ok3 hOK.out AB.out ok5.out)), lH (gJ.gU hq.out (.inl (List.mem_singleton.2 rfl))), bl4.gU, b44.zM ah, by simp [World.setCell]; omega, lH (fun _ => hdl), rfl⟩
  | false =>
    have ce := be4.cell
    obtain ⟨cl, ll, fl⟩ := bl4.all
    go_wp2_with fail
    have hq := lH (((gq.node (l := [c, d]) (A := A3) (n := n3) (hG4.out.row) 9 aC 0 t.line).more (Y := [w2.heap.size]) (fun x hx => .inl (by simp at hx ⊢; exact .inr hx))))
    have ht9 := hM4.out.top
    have hs9 := ll
    go_roundg (ts.length - a4)
    case measure => omega
    exact ⟨aH.mk 9 aC 0 t.line [c, d], A3, n3, a4, _, lH (by simpa using (hM4.out.gU lp (g := w2.heap.size) ah)), lH (nY _ _ _ _ _ (nZ _) ⟨q2, q3⟩ aA l8 av aA (ok2 hOK.out AB.out)), lH (gJ.gU hq.out (.inl (List.mem_singleton.2 rfl))), bl4.gU, b44.zM ah, by simp [World.setCell]; omega, lH (fun _ => hdl), rfl⟩
 go_cut [33] (fun v wx => v = .bool false ∧ wx = W)
 case first =>
  rcases bE (t.kind == 2) with k2 | k2
  ·rcases bE (t.text.toList == [116, 111]) with kt | kt
   ·have hl4 : ¬ level ≤ 4 := fun h => by rw [k2, kt, dT h] at hto; cases hto
    clear hto
    exact yM
   clear hto
   exact yM
  clear hto
  go_wp2_with fail
  go_meet
  exact ⟨rfl, rfl⟩
 obtain ⟨rfl, rfl⟩ := hcut
 clear hto
 go_upto_region 10 with fail
 go_cut [77] (fun v wx => ∃ b : Bool, v = .bool b ∧ wx = wc ∧ Hid (b = false → a1 < ts.length))
 case first =>
  rcases bE (t.kind != 7) with k7 | k7
  ·go_wp2_with fail
   go_meet
   exact ⟨true, rfl, rfl, lH (fun h => by cases h)⟩
  have hA := lH (HK.out (fun h => by rw [h] at k7; cases k7))
  go_wp2_with fail
  refine (lC _ _).mono ?_
  rintro e wq ⟨k, rfl, rfl, hk0, hk1⟩
  rcases bE (k == 0) with k0 | k0
  ·go_wp2_with fail
   go_meet
   exact ⟨true, rfl, rfl, lH (fun h => by cases h)⟩
  go_wp2_with fail
  refine (lC _ _).mono ?_
  rintro e wq ⟨k', rfl, rfl, hk2, hk3⟩
  go_wp2_with fail
  go_meet
  exact ⟨_, rfl, rfl, lH (fun _ => hA.out)⟩
 obtain ⟨b, rfl, rfl, hlt⟩ := hcut
 cases b with
 | true =>
   have ce := be.cell
   obtain ⟨c4, l4, f4⟩ := b4.all
   go_wp2_with fail
   refine bodyPost_ret (v := .agg (ay c.kind c.text c.number c.line Ac c.kids.length nc)) ?_ rfl ⟨c, Ac, nc, _, _, rfl, hM.out.gU lp (nR _), (fun _ => hdl), hOK.out, (hQ.out.gU (.inr (Nat.lt_succ_self _))).to (Nat.le_succ _) (nR _)⟩
   simp [results, Tryz.results161, go_sem, c4]
 | false =>
   have hA := hlt.out rfl
   have p1 := hM.out.ps.at1
   have f1 := hM.out.ps.frz 1
   have hw2 : IntKind.i64.wrap ((a1 : Int) + 1) = (a1 : Int) + 1 := IntWalk.i64_in _ ah
   go_upto_region 12 with fail
   replace hM := lH (hM.out.setAt (x := (a1 : Int) + 1) ah hA)
   replace be := be.far (p := ⟨p, 1, none⟩) Ce (.int i64 ((a1 : Int) + 1))
   replace b4 := b4.far (p := ⟨p, 1, none⟩) qQ (.int i64 ((a1 : Int) + 1))
   replace bt := bt.far (p := ⟨p, 1, none⟩) (by show w6.heap.size ≠ p; omega) (.int i64 ((a1 : Int) + 1))
   replace hQ := lH (hQ.out.set (q := ⟨p, 1, none⟩) (.inr (by show p < _; omega)) (.int i64 ((a1 : Int) + 1)))
   have hz1 : wc.heap.size ≤ (wc.setCell (aj p 1) (.int i64 ((a1 : Int) + 1))).heap.size := by simp [World.setCell]
   clear ct p1 f1 hw2
   generalize wc.setCell (aj p 1) (.int i64 ((a1 : Int) + 1)) = W1 at *
   have ct := bt.cell
   go_wp2_with fail
   refine (lC _ _).mono ?_
   rintro e wq ⟨k, rfl, rfl, hk0, hk1⟩
   go_upto_region 13 with fail
   go_cut [93] (fun v wx => ∃ b : Bool, v = .bool b ∧ wx = W1)
   case first =>
    rcases bE (k != 3) with k3 | k3
    ·exact yL
    go_wp2_with fail
    go_meet
    exact ⟨_, rfl, rfl⟩
   obtain ⟨b, rfl, rfl⟩ := hcut
   have hw3 : IntKind.i64.wrap (k + 1) = k + 1 := IntWalk.i64_in _ ah
   go_upto_if 93 with fail
   go_cut [10] (fun v wx => wx = wc ∧ ∃ k' : Int, v = .int i64 k' ∧ 0 ≤ k' ∧ k' ≤ 12)
   case first =>
    cases b
    all_goals go_wp2_with fail
    all_goals go_meet
    all_goals exact ⟨rfl, _, rfl, ah, ah⟩
   obtain ⟨rfl, k', rfl, hk2, hk3⟩ := hcut
   clear hw3
   go_wp2_with fail
   refine (hL k' hM.out.ps HT.out ah ah).mono ?_
   rintro e w7 ⟨d, Ad, nd, a3, mI, rfl, hmv, -, hok, hin⟩
   replace hQ := lH ((hQ.out.call hmv.gr ah hin ah aJ).alloc (.cells (ay d.kind d.text d.number d.line Ad d.kids.length nd) 179))
   replace hM := lH ((hM.out.step hmv).below ((bR _ _).alloc (nR _) (.cells (ay d.kind d.text d.number d.line Ad d.kids.length nd) 179)))
   replace be := (be.grown hmv.gr aK).alloc (.cells (ay d.kind d.text d.number d.line Ad d.kids.length nd) 179)
   replace bt := (bt.grown hmv.gr aK).alloc (.cells (ay d.kind d.text d.number d.line Ad d.kids.length nd) 179)
   replace b4 := (b4.grown hmv.gr aK).alloc (.cells (ay d.kind d.text d.number d.line Ad d.kids.length nd) 179)
   have bd := Blk.new w7 179 (ay d.kind d.text d.number d.line Ad d.kids.length nd)
   have hl3 := hmv.le
   have hs7 := hmv.size
   have AB := lH hok
   have hs8 : w7.heap.size + 1 ≤ (w7.alloc (.cells (ay d.kind d.text d.number d.line Ad d.kids.length nd) 179)).heap.size := av
   clear hmv hok hin ct
   unfold aH.cells
   go_upto_region 16 with fail
   generalize w7.alloc (.cells (ay d.kind d.text d.number d.line Ad d.kids.length nd) 179) = W8 at *
   have ct := bt.cell
   have cl := be.cell
   have cd := bd.cell
   have hq := lH (gq.row (e := 179) (k := 8) (t := t.text) (m := 0) (line := t.line) (l := [c, d]) (gJ.two hQ.out) aM ah aJ av)
   have beR := be.alloc (.cells (dX c.kind c.text c.number c.line Ac c.kids.length nc d.kind d.text d.number d.line Ad d.kids.length nd) 179)
   have b4R := b4.alloc (.cells (dX c.kind c.text c.number c.line Ac c.kids.length nc d.kind d.text d.number d.line Ad d.kids.length nd) 179)
   obtain ⟨cR, lR, fR⟩ := beR.all
   have hsw : Hid (w2.heap.size < W8.heap.size) := be.lt
   have hs5 : Hid (w7.heap.size + 1 ≤ W8.heap.size) := hs8
   clear hs8
   have afl := lH hsx
   clear hsx
   go_wp2_with fail
   have hsw := hsw.out
   have ht9 := hM.out.top
   go_roundg (ts.length - a3)
   case measure => omega
   exact ⟨aH.mk 8 t.text 0 t.line [c, d], some (aj W8.heap.size 0), 2, a3, _, lH (by simpa using ((hM.out.below ((bR _ _).alloc (nR _) (.cells (dX c.kind c.text c.number c.line Ac c.kids.length nc d.kind d.text d.number d.line Ad d.kids.length nd) 179))).gU (g := w2.heap.size) (v0 := .int i64 8) (v1 := .string t.text) (v2 := .int i64 0) (v3 := .int i64 t.line) (v4 := .slice (some (aj W8.heap.size 0)) 2 2) lp ah)), lH (nY _ _ _ _ _ q1 ⟨q2, q3⟩ aA l8 av aA (ok2 hOK.out AB.out)), lH (hq.out.gU (.inl (List.mem_singleton.2 rfl))), beR.gU, b4R.zM ah, by simp [World.setCell]; omega, lH (fun _ => hdl), rfl⟩
end
section
open Go Go.RowKit
theorem Qy (k : Nat) : ∀ deep : Int, 0 ≤ deep → deep ≤ 1000 → 202 ≤ deep + k → lY deep ∧ tK deep ∧ GY deep ∧ vP deep ∧ IY deep := by
 induction k with
 | zero =>
   intro deep h0 h1 h2
   have hU : tK deep := K6 deep h0 h1 (fun h => absurd h ah)
   have hL : lY deep := Lu deep h0 h1 hU (fun h => absurd h ah)
   exact OA
 | succ k ih =>
   intro deep h0 h1 h2
   have HH : deep ≤ 200 → lY (deep + 1) ∧ tK (deep + 1) ∧ GY (deep + 1) ∧ vP (deep + 1) := fun h => by
    obtain ⟨a, b, c, d, -⟩ := ih (deep + 1) ah ah ah
    exact ⟨a, b, c, d⟩
   have hU : tK deep := K6 deep h0 h1 HH
   have hL : lY deep := Lu deep h0 h1 hU (fun h => (HH h).1)
   exact OA
theorem Qz : IY 1 := (Qy 202 1 aA aA aA).2.2.2.2
end
section
open Go.RowKit Go.Sort
theorem V7 : Tryz.prog.globalNamed "internal/strconv.uint64pow10" = some 3 := aI
def jw (w : World) : Prop := Lib.TabIs Tryz.prog w "internal/strconv.uint64pow10" .u64 Lib.pow10Tab ∧ 3 < w.heap.size
theorem jw.below {w w' : World} {B : Nat} (h : jw w) (hb : Below B w w') (hB : 3 < B) : jw w' :=
 ⟨var?_below hb V7 hB h.1, nL h.2 hb.size⟩
theorem jw.later {w w' : World} (h : jw w) (hb : Below w.heap.size w w') : jw w' := h.below hb h.2
theorem below_grow (w : World) (k : Nat) (os : Array Obj) : Below w.heap.size w (grow (w.drewN k) os) :=
 ⟨rfl, rfl, rfl, by simp [grow, World.drewN], fun i hi => by
  show (w.heap ++ os)[i]? = w.heap[i]?
  rw [Array.getElem?_append_left hi]⟩
theorem qI (n : Int) (w : World) (h0 : -9223372036854775808 ≤ n) (h1 : n ≤ 9223372036854775807) (ht : jw w) :
 Calls Tryz.prog 42 (dI n) w fun e w' => e = .returned (.string (dz n)) ∧ Below w.heap.size w w' := by
 have HC := lH (Tryz.strconv_Itoa n h0 h1 w ht.1)
 clear ht
 go_in
 go_wp2_with fail
 refine HC.out.mono ?_
 rintro e w1 ⟨rfl, k, os, hw⟩
 have hb : Below w.heap.size w w1 := hw ▸ below_grow w k os
 clear hw
 go_wp2_with fail
 go_ret
 exact ⟨rfl, hb⟩
end
end Go.Proofs.YthbcamfejgghhaaGreatDoor
