/- The xO switch, a way a kind: kinds 20 to 20. WU: a small unit, or a line. -/
import Derived.Test.YthbcamfejgghhaaGreatDoorQ22
import Derived.Test.YthbcamfejgghhaaGreatDoorQ29
import Derived.Test.YthbcamfejgghhaaGreatDoorQ32
import Derived.Test.YthbcamfejgghhaaGreatDoorQ34
set_option maxRecDepth 100000
set_option maxHeartbeats 64000000
set_option linter.unusedVariables false
set_option linter.unusedSimpArgs false
namespace Go.Proofs.YthbcamfejgghhaaGreatDoor
open Go.IntKind (i64)
section
open Go Go.RowKit
section
variable {w : World} {lo b K : Nat} {ds : List Dat} {vs : List Value} {e : TypeId}
theorem eF.Tg {m gr : Nat} (h : eF w lo b ds vs) (hr : Blk w gr e vs.toArray) (hv : vs.length = m * K) (hn : m ≤ maxLen) (hB : lo ≤ gr) (hb : gr ≠ b) : eF w lo b [.row K m ds] [.slice (some (aj gr 0)) m m] := by
 obtain ⟨F, h1, h2⟩ := h
 have ho : w.ownsRow 0 e K (.slice (some (aj gr 0)) m m) m vs := ⟨hv, .inr ⟨gr, m, vs.toArray, rfl, nZ _, hr, nR _, hn, by simp [hv], by simp [← hv]⟩⟩
 refine ⟨((Value.slice (some (aj gr 0)) m m).ownBlock.toList ++ F) ++ [], .aN (dK.iV ho h1) .eO, fun g hg => ?_⟩
 rw [List.append_nil] at hg
 rcases mA hg with hg | hg
 ·have hg : (Value.slice (some (aj gr 0)) m m).ownBlock = some g := by simpa using hg
  exact JE
 exact h2 g hg
end
theorem V8 (u : fE) (A1 A2 A3 : Option Addr) (n1 n2 n3 lo hi p : Nat) (lc : List ByteArray) (Al : Option Addr) (nl : Nat) (c : aH) (A : Option Addr) (n : Nat) (w wx : World) (next nx : Int) (l : List ak) (A' : Option Addr) (n' : Nat) (f s : ak) (Af As : Option Addr) (nf ns gs gf go gt g1 g2 : Nat) (hp : p < w.heap.size) (hn1 : next ≤ nx) (hn2 : nx ≤ next + c.nodes) (HU : Hid (dZ w lo hi fE.aG (.agg (aQ A1 u.records.length n1 A2 u.globals.length n2 A3 u.procedures.length n3)) u)) (HL : Hid (aW w lo hi 1 aR (.slice Al lc.length nl) lc)) (hhp : hi ≤ p) (HOK : Hid c.Ok) (HK : Hid (Qn w p c A n next (gT A1 u.records.length n1 A2 u.globals.length n2 A3 u.procedures.length n3 Al lc.length nl nx) wx l (.slice A' l.length n') f s Af As nf ns gs gf go gt g1 g2)) (s9 : Value) (a : Act) (hF : Dt (.pointer (some (aj p 0))) (.pointer (some (aj w.heap.size 0))) (.pointer (some (aj (w.heap.size + 1) 0))) (.pointer (some (aj (w.heap.size + 1 + 1) 0))) (.pointer (some (aj (w.heap.size + 1 + 1 + 1) 0))) (.pointer (some (aj (w.heap.size + 4) 0))) (.slice A' l.length n') s9 (.pointer (some (aj gs 0))) (.pointer (some (aj gf 0))) (.pointer (some (aj go 0))) (.pointer (some (aj gt 0))) a) (k1 : (c.kind == 1) = false) (k2 : (c.kind == 2) = false) (k3 : (c.kind == 3) = false) (k4 : (c.kind == 4) = false) (k5 : (c.kind == 5) = false) (k6 : (c.kind == 6) = false) (k7 : (c.kind == 7) = false) (k8 : (c.kind == 8) = false) (k9 : (c.kind == 9) = false) (k10 : (c.kind == 10) = false) (k11 : (c.kind == 11) = false) (k12 : (c.kind == 12) = false) (k13 : (c.kind == 13) = false) (k14 : (c.kind == 14) = false) (k15 : (c.kind == 15) = false) (k16 : (c.kind == 16) = false) (k17 : (c.kind == 17) = false) (k18 : (c.kind == 18) = false) (k19 : (c.kind == 19) = false) (hC : (c.kind == 20) = false → Code.wp Tryz.prog (lD 19) (bodyPost Tryz.prog Tryz.f130 (wP p (jf A1 u.records.length n1 A2 u.globals.length n2 A3 u.procedures.length n3 Al lc.length nl) next c w)) a wx) : Code.wp Tryz.prog (lD 19) (bodyPost Tryz.prog Tryz.f130 (wP p (jf A1 u.records.length n1 A2 u.globals.length n2 A3 u.procedures.length n3 Al lc.length nl) next c w)) a wx := by
 have HC := lH hC
 clear hC
 cases hF
 conv => arg 2; whnf
 have HT : Hid (kG w p c A n next (Array.push (jf A1 u.records.length n1 A2 u.globals.length n2 A3 u.procedures.length n3 Al lc.length nl) (.int i64 nx)) wx) := HK.out.T
 have c0 := HK.out.T.b0.cell
 have c1 := HK.out.T.b1.cell
 have f1 := HK.out.T.b1.frozen
 have l1 := HK.out.T.b1.lt
 have hBk : 2000000 + eT l ≤ 2000000 * c.nodes := by have h1 := c.eG; have h2 := HK.out.bk; omega
 have hfs := HK.out.fs
 have hln : l.length ≤ c.kids.length := by have := HK.out.len; omega
 have hkk := HOK.out.len
 have hkl : 2000000 + 1000000 * c.kids.length + eT l ≤ 4000000 * c.nodes := by have h1 := c.eG; have h2 := HK.out.bk; have h3 := tN c.kids; omega
 have htx := HOK.out.text
 have ht0 : ByteArray.size aC ≤ 0 := nR _
 rcases bE (c.kind == 20) with k20 | k20
 as_aux_lemma =>
  have hcs := HOK.out.case_ (by simpa using k20)
  have hc1 := hcs.1
  have hc2 := lH hcs.2
  clear hcs
  have HLE := lH HK.out.len
  have hl1 : 1 ≤ l.length := by have := HLE.out; omega
  have lgs := HK.out.ls
  have lgf := HK.out.lf
  have lgo := HK.out.lo
  have lgt := HK.out.lt
  have lge := HK.out.le
  have co := HK.out.T.b3.cell
  go_upto_region 85 with fail
  have hbw : Below wx.heap.size wx (wx.alloc (.cells (aB 28 0 0 c.line aC none 0 0) 43)) := bA _ _
  have br := Blk.new wx 43 (aB 28 0 0 c.line aC none 0 0)
  have HV := lH (HT.out.later hp hbw)
  have hza : wx.heap.size + 1 ≤ (wx.alloc (.cells (aB 28 0 0 c.line aC none 0 0) 43)).heap.size := av
  clear co c0 c1 f1 l1
  generalize wx.alloc (.cells (aB 28 0 0 c.line aC none 0 0) 43) = WA at *
  have c0 := HV.out.b0.cell
  go_upto_if 285 with fail
  go_cut [16] (fun nv wz => ∃ (m : Nat) (y : ak) (Ay : Option Addr) (ny : Nat), nv = .int i64 m ∧ 1 ≤ m ∧ m ≤ l.length ∧ Hid (Blk wz wx.heap.size 43 (aB y.kind y.op y.number y.line y.text Ay y.kids.length ny)) ∧ Hid (Below wx.heap.size wx wz) ∧ wx.heap.size + 1 ≤ wz.heap.size ∧ Hid (eF wz (w.heap.size + 5) wx.heap.size y.aG (y.cells Ay ny)) ∧ y.bI + eT (l.take m) ≤ eT l)
  case first =>
   as_aux_lemma =>
    obtain ⟨cr, hlr, hfr⟩ := br.all
    rcases bE (c.number == 1) with j1 | j1
    ·have h2l : 2 ≤ l.length := by have h1 := hc2.out (by simpa using j1); have h2 := HLE.out; omega
     obtain ⟨j, hj⟩ : ∃ j, j + 1 = l.length := ⟨l.length - 1, ah⟩
     obtain ⟨vs, hG⟩ := HK.out.K
     have KR := lH hG.row
     clear hG
     obtain ⟨x, hx⟩ : ∃ x, l[j]? = some x := ⟨_, gE ah⟩
     obtain ⟨g, cap, Ax, nx2, hv, hg1, hg2, hcell, hF⟩ := kF.elem KR.out hx
     injection hv with hv1 _ hv2
     subst hv1 hv2
     have KG : ∀ i, WA.cell? (aj g i) = wx.cell? (aj g i) := fun i => hbw.cell (p := ⟨g, i, none⟩) hg2
     have t0 : WA.cell? (aj g (j * 6)) = some (.int i64 x.kind) := (KG _).trans (hcell 0 _ rfl)
     have t1 : WA.cell? (aj g (j * 6 + 1)) = some (.int i64 x.op) := (KG _).trans (hcell 1 _ rfl)
     have t2 : WA.cell? (aj g (j * 6 + 2)) = some (.int i64 x.number) := (KG _).trans (hcell 2 _ rfl)
     have t3 : WA.cell? (aj g (j * 6 + 3)) = some (.int i64 x.line) := (KG _).trans (hcell 3 _ rfl)
     have t4 : WA.cell? (aj g (j * 6 + 4)) = some (.string x.text) := (KG _).trans (hcell 4 _ rfl)
     have t5 : WA.cell? (aj g (j * 6 + 5)) = some (.slice Ax x.kids.length nx2) := (KG _).trans (hcell 5 _ rfl)
     have hjl : j < l.length := ah
     have hw1 : IntKind.i64.wrap ((l.length : Int) - 1) = (j : Int) := by rw [show ((l.length : Int) - 1) = (j : Int) by omega]; exact IntWalk.i64_in _ ah
     have HF := lH (hF.top.toX (b := wx.heap.size) (nR _))
     have HS := lH (xC hx)
     have HJ := lH hj
     clear hcell hF hx hj KG
     go_wp2_with fail
     go_meet
     exact ⟨j, x, Ax, nx2, rfl, (by have := HJ.out; omega), (by have := HJ.out; omega), lH (br.Mx _ _ _ _ _ _), lH (mq hbw (nR _) _ _ _ _ _ _), (by simpa [World.setCell] using hza), lH ((HF.out.later hbw).six _ _ _ _ _ _), (by have h1 := HS.out; rw [HJ.out, List.take_length] at h1; omega)⟩
    go_wp2_with fail
    go_meet
    exact ⟨l.length, .mk 28 0 0 c.line aC [], none, 0, rfl, hl1, nR _, lH br, lH hbw, hza, lH (eF.leaf 28 0 0 c.line aC), (by rw [List.take_length]; simp [ak.bI, eT]; omega)⟩
  obtain ⟨m, y, Ay, ny, rfl, hm1, hm2, HB, HW, hz, HY, hyb⟩ := hcut
  clear br hbw hza c0
  have hw2 : IntKind.i64.wrap ((m : Int) - 2) = (m : Int) - 2 := IntWalk.i64_in _ ah
  go_wp2_with fail
  clear hw2
  go_loopw [17] (fun iv wz => ∃ (j : Nat) (y : ak) (Ay : Option Addr) (ny : Nat), iv = .int i64 ((j : Int) - 2) ∧ 1 ≤ j ∧ j ≤ l.length ∧ Hid (Blk wz wx.heap.size 43 (aB y.kind y.op y.number y.line y.text Ay y.kids.length ny)) ∧ Hid (Below wx.heap.size wx wz) ∧ wx.heap.size + 1 ≤ wz.heap.size ∧ Hid (eF wz (w.heap.size + 5) wx.heap.size y.aG (y.cells Ay ny)) ∧ y.bI + eT (l.take j) ≤ eT l + 8 * (l.length - j)) (fun i _ => (intOf i + 2).toNat)
  case atStart => exact ⟨m, y, Ay, ny, rfl, hm1, hm2, HB, HW, hz, HY, ah⟩
  clear HB HW HY hyb hz hm1 hm2
  obtain ⟨j, y, Ay, ny, rfl, hj1, hjl, HB, HW, hz, HY, hyb⟩ := hrel
  have HVr := lH (HT.out.later hp HW.out)
  by_cases h3 : 3 ≤ j
  ·--<B
   obtain ⟨i, hi⟩ : ∃ i, i + 2 = j := ⟨j - 2, ah⟩
   have e2 : (j : Int) - 2 = (i : Int) := ah
   rw [e2]
   clear e2
   obtain ⟨vs, hG⟩ := HK.out.K
   have KR := lH hG.row
   clear hG
   obtain ⟨x, hx⟩ : ∃ x, l[i]? = some x := ⟨_, gE ah⟩
   obtain ⟨z, hz'⟩ : ∃ z, l[i + 1]? = some z := ⟨_, gE ah⟩
   obtain ⟨g, cap, Ax, nx2, hv, hg1, hg2, hcell, hF⟩ := kF.elem KR.out hx
   injection hv with hv1 _ hv2
   subst hv1 hv2
   obtain ⟨g', cap', Az, nz2, hv, -, -, hcell', hF'⟩ := kF.elem KR.out hz'
   injection hv with hv1 _ hv2
   injection hv1 with hv1
   injection hv1 with hv1
   subst hv1
   clear hv2
   have HS1 := lH (xC hx)
   have HS2 := lH (xC hz')
   have HXw := lH (hF.top.toX (b := wx.heap.size) (nR _))
   have HZw := lH (hF'.top.toX (b := wx.heap.size) (nR _))
   have HC := lH hcell
   have HC' := lH hcell'
   have HI := lH hi
   have hi1 : 1 ≤ i := ah
   have hi2 : i + 2 ≤ l.length := ah
   have hib : i < l.length := ah
   have hic : (i : Int) + 1 < (l.length : Int) := ah
   have hid : (0 : Int) ≤ (i : Int) + 1 := ah
   have hw1 : IntKind.i64.wrap ((i : Int) + 1) = ((i + 1 : Nat) : Int) := by rw [show ((i : Int) + 1) = ((i + 1 : Nat) : Int) by omega]; exact IntWalk.i64_in _ ah
   have hw2 : IntKind.i64.wrap ((i : Int) - 2) = (i : Int) - 2 := IntWalk.i64_in _ ah
   clear hcell hcell' hF hF' hx hz' hi
   go_upto_region 92 with fail
   go_cut [18] from 295 to 318 (fun v wy => ∃ gt gr : Nat, v = .pointer (some (aj gt 0)) ∧ Hid (Blk wy gt 43 (aB 11 46 0 c.line aC (some (aj gr 0)) 2 2)) ∧ Hid (eF wy (w.heap.size + 5) wx.heap.size [.row 6 2 (flat ak.aG [ak.mk 5 0 next c.line aC [], x])] [.slice (some (aj gr 0)) 2 2]) ∧ Hid (Below wr.heap.size wr wy) ∧ wx.heap.size < gt)
   case first =>
    have HVd := lH (HVr.out.later hp ((Same.refl wr).drew.below _))
    have hzd : wx.heap.size + 1 ≤ wr.drew.heap.size := hz
    have HB0 : Hid (Below wr.heap.size wr wr.drew) := (Same.refl wr).drew.below _
    have hzr : wr.heap.size ≤ wr.drew.heap.size := nR _
    refine jm 11 (fun w' => (∀ q, w'.cell? (aj w.heap.size q) = (ay c.kind c.text c.number c.line A c.kids.length n : Array Value)[q]?) ∧ (∀ q, w'.cell? (aj (w.heap.size + 4) q) = (aB 5 0 next c.line aC none 0 0 : Array Value)[q]?) ∧ w'.cell? (aj g (i * 6)) = some (.int i64 x.kind) ∧ w'.cell? (aj g (i * 6 + 1)) = some (.int i64 x.op) ∧ w'.cell? (aj g (i * 6 + 2)) = some (.int i64 x.number) ∧ w'.cell? (aj g (i * 6 + 3)) = some (.int i64 x.line) ∧ w'.cell? (aj g (i * 6 + 4)) = some (.string x.text) ∧ w'.cell? (aj g (i * 6 + 5)) = some (.slice Ax x.kids.length nx2)) 10 ?_
    clear HVr HB HY hz
    generalize wr.drew = Wd at *
    have wN := HVd.out.sz
    have KG : ∀ q, Wd.cell? (aj g q) = wx.cell? (aj g q) := fun q => (HW.out.trans (HB0.out.mono HW.out.size)).cell (p := ⟨g, q, none⟩) hg2
    have t0 : Wd.cell? (aj g (i * 6)) = some (.int i64 x.kind) := (KG _).trans (HC.out 0 _ rfl)
    have t1 : Wd.cell? (aj g (i * 6 + 1)) = some (.int i64 x.op) := (KG _).trans (HC.out 1 _ rfl)
    have t2 : Wd.cell? (aj g (i * 6 + 2)) = some (.int i64 x.number) := (KG _).trans (HC.out 2 _ rfl)
    have t3 : Wd.cell? (aj g (i * 6 + 3)) = some (.int i64 x.line) := (KG _).trans (HC.out 3 _ rfl)
    have t4 : Wd.cell? (aj g (i * 6 + 4)) = some (.string x.text) := (KG _).trans (HC.out 4 _ rfl)
    have t5 : Wd.cell? (aj g (i * 6 + 5)) = some (.slice Ax x.kids.length nx2) := (KG _).trans (HC.out 5 _ rfl)
    have KA : ∀ (W : World), Below Wd.heap.size Wd W → (∀ q, W.cell? (aj w.heap.size q) = (ay c.kind c.text c.number c.line A c.kids.length n : Array Value)[q]?) ∧ (∀ q, W.cell? (aj (w.heap.size + 4) q) = (aB 5 0 next c.line aC none 0 0 : Array Value)[q]?) ∧ W.cell? (aj g (i * 6)) = some (.int i64 x.kind) ∧ W.cell? (aj g (i * 6 + 1)) = some (.int i64 x.op) ∧ W.cell? (aj g (i * 6 + 2)) = some (.int i64 x.number) ∧ W.cell? (aj g (i * 6 + 3)) = some (.int i64 x.line) ∧ W.cell? (aj g (i * 6 + 4)) = some (.string x.text) ∧ W.cell? (aj g (i * 6 + 5)) = some (.slice Ax x.kids.length nx2) := fun W hW => ⟨(HVd.out.later hp hW).b0.cell, (HVd.out.later hp hW).b4.cell, (hW.cell (p := ⟨g, _, none⟩) iJ).trans t0, (hW.cell (p := ⟨g, _, none⟩) iJ).trans t1, (hW.cell (p := ⟨g, _, none⟩) iJ).trans t2, (hW.cell (p := ⟨g, _, none⟩) iJ).trans t3, (hW.cell (p := ⟨g, _, none⟩) iJ).trans t4, (hW.cell (p := ⟨g, _, none⟩) iJ).trans t5⟩
    have HKA := lH KA
    have SP := And.intro HVd.out.b0.cell (And.intro HVd.out.b4.cell (And.intro t0 (And.intro t1 (And.intro t2 (And.intro t3 (And.intro t4 t5))))))
    clear KA KG
    refine tkB 0 SP ?_
    refine tkB 1 SP ?_
    refine tkB 2 SP ?_
    refine tkB 3 SP ?_
    refine tkB 4 SP ?_
    refine tkB 5 SP ?_
    refine tkB 6 SP ?_
    clear SP t0 t1 t2 t3 t4 t5 HVd
    have HBB : Hid (Below Wd.heap.size Wd Wd) := bR _ _
    refine dV [7, 9] aI rfl ?_
    refine bS.aN rfl (fun K hK => ?_) (bS.aN rfl (fun K hK => ?_) bS.eO)
    ·--<X
     rw [if_pos aM]
     refine rP rfl rfl ?_
     have hb1 : Below Wd.heap.size Wd (Wd.alloc (.cells (fZ 5 0 next c.line aC none 0 0 x.kind x.op x.number x.line x.text Ax x.kids.length nx2) 43)) := bA _ _
     have br := Blk.new Wd 43 (fZ 5 0 next c.line aC none 0 0 x.kind x.op x.number x.line x.text Ax x.kids.length nx2)
     have hgr : Wd.heap.size ≤ Wd.heap.size := HBB.out.size
     replace HBB := lH (HBB.out.trans (hb1.mono HBB.out.size))
     have hzB := HBB.out.size
     refine fM hK (HKA.out _ HBB.out) ?_
     clear hK K hb1 hzB
     generalize Wd.alloc (.cells (fZ 5 0 next c.line aC none 0 0 x.kind x.op x.number x.line x.text Ax x.kids.length nx2) 43) = Wa at *
     refine dV [8, 9] aI rfl ?_
     refine bS.aN rfl (fun K hK => ?_) (bS.aN rfl (fun K hK => ?_) bS.eO)
     ·--<Y
      as_aux_lemma =>
       go_simp
       go_at_call 173
       refine (iY _ _ _ _ _ _).mono ?_
       rintro e Wb ⟨rfl, hb⟩
       replace HBB := lH (HBB.out.trans (hb.mono HBB.out.size))
       have hzB := HBB.out.size
       replace br := br.later hb
       refine fM hK (HKA.out _ HBB.out) ?_
       clear hK K hb hzB
       refine rdA 9 (fun K hK => ?_)
       go_simp
       have bn := Blk.new Wb 43 (aB 0 0 0 0 aC none 0 0)
       have hb2 : Below Wb.heap.size Wb (Wb.alloc (.cells (aB 0 0 0 0 aC none 0 0) 43)) := bA _ _
       have hgt : Wd.heap.size ≤ Wb.heap.size := HBB.out.size
       have hne : Wd.heap.size ≠ Wb.heap.size := by have := br.lt; omega
       replace HBB := lH (HBB.out.trans (hb2.mono HBB.out.size))
       have hzB := HBB.out.size
       replace br := br.later hb2
       refine fM hK (HKA.out _ HBB.out) ?_
       clear hK K hb2 hzB
       generalize Wb.alloc (.cells (aB 0 0 0 0 aC none 0 0) 43) = Wc at *
       refine rdA 10 (fun K hK => ?_)
       obtain ⟨cn, ln, fn⟩ := bn.all
       go_simp
       refine rE hK ?_
       clear hK K cn fn ln HKA
       refine bY aI ?_ _
       go_wp2_with fail
       go_meet
       have HBF := lH (mq (h := Wb.heap.size) (HB0.out.trans (HBB.out.mono hzr)) ah (.int i64 11) (.int i64 46) (.int i64 0) (.int i64 c.line) (.string aC) (.slice (some (aj Wd.heap.size 0)) 2 2))
       exact Gf
     --<Z
     as_aux_lemma =>
      go_simp
      have bn := Blk.new Wa 43 (aB 0 0 0 0 aC none 0 0)
      have hb2 : Below Wa.heap.size Wa (Wa.alloc (.cells (aB 0 0 0 0 aC none 0 0) 43)) := bA _ _
      have hgt : Wd.heap.size ≤ Wa.heap.size := HBB.out.size
      have hne : Wd.heap.size ≠ Wa.heap.size := by have := br.lt; omega
      replace HBB := lH (HBB.out.trans (hb2.mono HBB.out.size))
      have hzB := HBB.out.size
      replace br := br.later hb2
      refine fM hK (HKA.out _ HBB.out) ?_
      clear hK K hb2 hzB
      generalize Wa.alloc (.cells (aB 0 0 0 0 aC none 0 0) 43) = Wb at *
      refine rdA 8 (fun K hK => ?_)
      go_simp
      go_at_call 173
      refine (iY _ _ _ _ _ _).mono ?_
      rintro e Wc ⟨rfl, hb⟩
      replace HBB := lH (HBB.out.trans (hb.mono HBB.out.size))
      have hzB := HBB.out.size
      replace br := br.later hb
      replace bn := bn.later hb
      refine fM hK (HKA.out _ HBB.out) ?_
      clear hK K hb hzB
      refine rdA 10 (fun K hK => ?_)
      obtain ⟨cn, ln, fn⟩ := bn.all
      go_simp
      refine rE hK ?_
      clear hK K cn fn ln HKA
      refine bY aI ?_ _
      go_wp2_with fail
      go_meet
      have HBF := lH (mq (h := Wa.heap.size) (HB0.out.trans (HBB.out.mono hzr)) ah (.int i64 11) (.int i64 46) (.int i64 0) (.int i64 c.line) (.string aC) (.slice (some (aj Wd.heap.size 0)) 2 2))
      exact Gf
    --<V
    as_aux_lemma =>
     go_simp
     have bn := Blk.new Wd 43 (aB 0 0 0 0 aC none 0 0)
     have hb2 : Below Wd.heap.size Wd (Wd.alloc (.cells (aB 0 0 0 0 aC none 0 0) 43)) := bA _ _
     have hgt : Wd.heap.size ≤ Wd.heap.size := HBB.out.size
     replace HBB := lH (HBB.out.trans (hb2.mono HBB.out.size))
     have hzB := HBB.out.size
     refine fM hK (HKA.out _ HBB.out) ?_
     clear hK K hb2 hzB
     generalize Wd.alloc (.cells (aB 0 0 0 0 aC none 0 0) 43) = Wa at *
     refine rdA 7 (fun K hK => ?_)
     rw [if_pos aM]
     refine rP rfl rfl ?_
     have hb1 : Below Wa.heap.size Wa (Wa.alloc (.cells (fZ 5 0 next c.line aC none 0 0 x.kind x.op x.number x.line x.text Ax x.kids.length nx2) 43)) := bA _ _
     have br := Blk.new Wa 43 (fZ 5 0 next c.line aC none 0 0 x.kind x.op x.number x.line x.text Ax x.kids.length nx2)
     have hgr : Wd.heap.size ≤ Wa.heap.size := HBB.out.size
     have hne : Wa.heap.size ≠ Wd.heap.size := by have := bn.lt; omega
     replace HBB := lH (HBB.out.trans (hb1.mono HBB.out.size))
     have hzB := HBB.out.size
     replace bn := bn.later hb1
     refine fM hK (HKA.out _ HBB.out) ?_
     clear hK K hb1 hzB
     generalize Wa.alloc (.cells (fZ 5 0 next c.line aC none 0 0 x.kind x.op x.number x.line x.text Ax x.kids.length nx2) 43) = Wb at *
     refine rdA 8 (fun K hK => ?_)
     go_simp
     go_at_call 173
     refine (iY _ _ _ _ _ _).mono ?_
     rintro e Wc ⟨rfl, hb⟩
     replace HBB := lH (HBB.out.trans (hb.mono HBB.out.size))
     have hzB := HBB.out.size
     replace br := br.later hb
     replace bn := bn.later hb
     refine fM hK (HKA.out _ HBB.out) ?_
     clear hK K hb hzB
     refine rdA 10 (fun K hK => ?_)
     obtain ⟨cn, ln, fn⟩ := bn.all
     go_simp
     refine rE hK ?_
     clear hK K cn fn ln HKA
     refine bY aI ?_ _
     go_wp2_with fail
     go_meet
     have HBF := lH (mq (h := Wd.heap.size) (HB0.out.trans (HBB.out.mono hzr)) ah (.int i64 11) (.int i64 46) (.int i64 0) (.int i64 c.line) (.string aC) (.slice (some (aj Wa.heap.size 0)) 2 2))
     exact Gf
   as_aux_lemma =>
    obtain ⟨gt, gr, rfl, HBT, HR, HBr, hgt2⟩ := hcut
    have bt := HBT.out
    have R := HR.out
    have HV3 := lH (HVr.out.later hp HBr.out)
    have HB3 := lH (HB.out.later HBr.out)
    have HY3 := lH (HY.out.later HBr.out)
    have Hwc := lH (HW.out.trans (HBr.out.mono HW.out.size))
    have hz3 : wr.heap.size ≤ wc.heap.size := HBr.out.size
    clear HVr HB HY HW HBT HR HBr
    go_upto_region 93 with fail
    refine jm 12 (fun w' => (∀ q, w'.cell? (aj w.heap.size q) = (ay c.kind c.text c.number c.line A c.kids.length n : Array Value)[q]?) ∧ (∀ q, w'.cell? (aj gt q) = (aB 11 46 0 c.line aC (some (aj gr 0)) 2 2 : Array Value)[q]?) ∧ (∀ q, w'.cell? (aj wx.heap.size q) = (aB y.kind y.op y.number y.line y.text Ay y.kids.length ny : Array Value)[q]?) ∧ w'.cell? (aj g ((i + 1) * 6)) = some (.int i64 z.kind) ∧ w'.cell? (aj g ((i + 1) * 6 + 1)) = some (.int i64 z.op) ∧ w'.cell? (aj g ((i + 1) * 6 + 2)) = some (.int i64 z.number) ∧ w'.cell? (aj g ((i + 1) * 6 + 3)) = some (.int i64 z.line) ∧ w'.cell? (aj g ((i + 1) * 6 + 4)) = some (.string z.text) ∧ w'.cell? (aj g ((i + 1) * 6 + 5)) = some (.slice Az z.kids.length nz2)) 11 ?_
    have HVe := lH (HV3.out.later hp ((Same.refl wc).drew.below _))
    have HBe := lH (HB3.out.later ((Same.refl wc).drew.below _))
    have HYe := lH (HY3.out.later ((Same.refl wc).drew.below _))
    have HWe := lH (Hwc.out.trans (((Same.refl wc).drew.below _).mono Hwc.out.size))
    replace R := R.later ((Same.refl wc).drew.below _)
    replace bt := bt.later ((Same.refl wc).drew.below _)
    have hze : wr.heap.size ≤ wc.drew.heap.size := hz3
    clear HV3 HB3 HY3 Hwc hz3
    generalize wc.drew = We at *
    have HZx := lH (HZw.out.later HWe.out)
    have KG : ∀ q, We.cell? (aj g q) = wx.cell? (aj g q) := fun q => HWe.out.cell (p := ⟨g, q, none⟩) hg2
    have t0 : We.cell? (aj g ((i + 1) * 6)) = some (.int i64 z.kind) := (KG _).trans (HC'.out 0 _ rfl)
    have t1 : We.cell? (aj g ((i + 1) * 6 + 1)) = some (.int i64 z.op) := (KG _).trans (HC'.out 1 _ rfl)
    have t2 : We.cell? (aj g ((i + 1) * 6 + 2)) = some (.int i64 z.number) := (KG _).trans (HC'.out 2 _ rfl)
    have t3 : We.cell? (aj g ((i + 1) * 6 + 3)) = some (.int i64 z.line) := (KG _).trans (HC'.out 3 _ rfl)
    have t4 : We.cell? (aj g ((i + 1) * 6 + 4)) = some (.string z.text) := (KG _).trans (HC'.out 4 _ rfl)
    have t5 : We.cell? (aj g ((i + 1) * 6 + 5)) = some (.slice Az z.kids.length nz2) := (KG _).trans (HC'.out 5 _ rfl)
    have SP := And.intro HVe.out.b0.cell (And.intro bt.cell (And.intro HBe.out.cell (And.intro t0 (And.intro t1 (And.intro t2 (And.intro t3 (And.intro t4 t5)))))))
    refine tkB 0 SP ?_
    refine tkB 1 SP ?_
    refine tkB 2 SP ?_
    refine tkB 3 SP ?_
    refine tkB 4 SP ?_
    refine tkB 5 SP ?_
    refine tkB 6 SP ?_
    refine tkB 7 SP ?_
    refine tkB 8 SP ?_
    have R3 : eF (We.alloc (.cells (gH 11 46 0 c.line aC (some (aj gr 0)) 2 2 z.kind z.op z.number z.line z.text Az z.kids.length nz2 y.kind y.op y.number y.line y.text Ay y.kids.length ny) 43)) (w.heap.size + 5) wx.heap.size [.row 6 3 (flat ak.aG [(ak.mk 11 46 0 c.line aC [ak.mk 5 0 next c.line aC [], x]), z, y])] [.slice (some (aj We.heap.size 0)) 3 3] := eF.lit (e := 43) (eF.cons (eF.node (l := [ak.mk 5 0 next c.line aC [], x]) R 11 46 0 c.line aC) (eF.cons HZx.out (eF.one HYe.out))) rfl aA ah ah
    refine rdA 9 (fun K hK => ?_)
    rw [if_pos aM]
    refine FP rfl rfl rfl ?_
    have hb1 : Below We.heap.size We (We.alloc (.cells (gH 11 46 0 c.line aC (some (aj gr 0)) 2 2 z.kind z.op z.number z.line z.text Az z.kids.length nz2 y.kind y.op y.number y.line y.text Ay y.kids.length ny) 43)) := bA _ _
    have SQ : (∀ q, (We.alloc (.cells (gH 11 46 0 c.line aC (some (aj gr 0)) 2 2 z.kind z.op z.number z.line z.text Az z.kids.length nz2 y.kind y.op y.number y.line y.text Ay y.kids.length ny) 43)).cell? (aj w.heap.size q) = (ay c.kind c.text c.number c.line A c.kids.length n : Array Value)[q]?) ∧ (∀ q, (We.alloc (.cells (gH 11 46 0 c.line aC (some (aj gr 0)) 2 2 z.kind z.op z.number z.line z.text Az z.kids.length nz2 y.kind y.op y.number y.line y.text Ay y.kids.length ny) 43)).cell? (aj gt q) = (aB 11 46 0 c.line aC (some (aj gr 0)) 2 2 : Array Value)[q]?) ∧ (∀ q, (We.alloc (.cells (gH 11 46 0 c.line aC (some (aj gr 0)) 2 2 z.kind z.op z.number z.line z.text Az z.kids.length nz2 y.kind y.op y.number y.line y.text Ay y.kids.length ny) 43)).cell? (aj wx.heap.size q) = (aB y.kind y.op y.number y.line y.text Ay y.kids.length ny : Array Value)[q]?) ∧ (We.alloc (.cells (gH 11 46 0 c.line aC (some (aj gr 0)) 2 2 z.kind z.op z.number z.line z.text Az z.kids.length nz2 y.kind y.op y.number y.line y.text Ay y.kids.length ny) 43)).cell? (aj g ((i + 1) * 6)) = some (.int i64 z.kind) ∧ (We.alloc (.cells (gH 11 46 0 c.line aC (some (aj gr 0)) 2 2 z.kind z.op z.number z.line z.text Az z.kids.length nz2 y.kind y.op y.number y.line y.text Ay y.kids.length ny) 43)).cell? (aj g ((i + 1) * 6 + 1)) = some (.int i64 z.op) ∧ (We.alloc (.cells (gH 11 46 0 c.line aC (some (aj gr 0)) 2 2 z.kind z.op z.number z.line z.text Az z.kids.length nz2 y.kind y.op y.number y.line y.text Ay y.kids.length ny) 43)).cell? (aj g ((i + 1) * 6 + 2)) = some (.int i64 z.number) ∧ (We.alloc (.cells (gH 11 46 0 c.line aC (some (aj gr 0)) 2 2 z.kind z.op z.number z.line z.text Az z.kids.length nz2 y.kind y.op y.number y.line y.text Ay y.kids.length ny) 43)).cell? (aj g ((i + 1) * 6 + 3)) = some (.int i64 z.line) ∧ (We.alloc (.cells (gH 11 46 0 c.line aC (some (aj gr 0)) 2 2 z.kind z.op z.number z.line z.text Az z.kids.length nz2 y.kind y.op y.number y.line y.text Ay y.kids.length ny) 43)).cell? (aj g ((i + 1) * 6 + 4)) = some (.string z.text) ∧ (We.alloc (.cells (gH 11 46 0 c.line aC (some (aj gr 0)) 2 2 z.kind z.op z.number z.line z.text Az z.kids.length nz2 y.kind y.op y.number y.line y.text Ay y.kids.length ny) 43)).cell? (aj g ((i + 1) * 6 + 5)) = some (.slice Az z.kids.length nz2) := ⟨(HVe.out.later hp hb1).b0.cell, (bt.later hb1).cell, (HBe.out.later hb1).cell, (hb1.cell (p := ⟨g, _, none⟩) iJ).trans t0, (hb1.cell (p := ⟨g, _, none⟩) iJ).trans t1, (hb1.cell (p := ⟨g, _, none⟩) iJ).trans t2, (hb1.cell (p := ⟨g, _, none⟩) iJ).trans t3, (hb1.cell (p := ⟨g, _, none⟩) iJ).trans t4, (hb1.cell (p := ⟨g, _, none⟩) iJ).trans t5⟩
    clear SP t0 t1 t2 t3 t4 t5 KG
    refine fM hK SQ ?_
    clear hK K
    refine tkB 10 SQ ?_
    refine rdA 11 (fun K hK => ?_)
    have HBf := lH (HBe.out.later hb1)
    have cn := HBf.out.cell
    have fn := HBf.out.frozen
    have hzf : wx.heap.size + 1 ≤ (We.alloc (.cells (gH 11 46 0 c.line aC (some (aj gr 0)) 2 2 z.kind z.op z.number z.line z.text Az z.kids.length nz2 y.kind y.op y.number y.line y.text Ay y.kids.length ny) 43)).heap.size := HBf.out.lt
    have HWf := lH (HWe.out.trans (hb1.mono HWe.out.size))
    clear SQ hb1
    generalize We.alloc (.cells (gH 11 46 0 c.line aC (some (aj gr 0)) 2 2 z.kind z.op z.number z.line z.text Az z.kids.length nz2 y.kind y.op y.number y.line y.text Ay y.kids.length ny) 43) = Wf at *
    go_simp
    refine rE hK ?_
    clear hK K cn fn
    refine bY aI ?_ _
    have HS : Hid ((ak.mk 17 0 0 c.line aC [(ak.mk 11 46 0 c.line aC [ak.mk 5 0 next c.line aC [], x]), z, y]).bI = 5 + x.bI + z.bI + y.bI) := lH (by simp [ak.bI, eT]; omega)
    go_wp2_with fail
    go_roundw
    case rel => exact ⟨i, (ak.mk 17 0 0 c.line aC [(ak.mk 11 46 0 c.line aC [ak.mk 5 0 next c.line aC [], x]), z, y]), _, _, rfl, hi1, ah, lH (HBf.out.Mx _ _ _ _ _ _), lH (mq HWf.out (nR _) _ _ _ _ _ _), by simpa [World.setCell] using hzf, lH ((eF.node (l := [(ak.mk 11 46 0 c.line aC [ak.mk 5 0 next c.line aC [], x]), z, y]) R3 17 0 0 c.line aC).six _ _ _ _ _ _), by have h1 := HS.out; have h2 := HS1.out; have h3 : eT (l.take (i + 2)) = eT (l.take (i + 1)) + z.bI := HS2.out; have h4 := HI.out; subst h4; rw [h1]; omega⟩
    simp [intOf]; omega
  --<C
  as_aux_lemma =>
   have c0 := HVr.out.b0.cell
   have c7 := HVr.out.b4.cell
   have cf := (HK.out.bf.later HW.out).cell
   have hFx := (HK.out.hF.below HW.out ah).toX (b := wx.heap.size) ah
   have afm := HVr.out.sz
   have hf1 := RJ HK.out.f0 hj1
   go_wp2_with (first | (refine pF rfl rfl ?_) | fail)
   have R : eF (wr.alloc (.cells (fZ 5 0 next c.line aC none 0 0 f.kind f.op f.number f.line f.text Af f.kids.length nf) 43)) (w.heap.size + 5) wx.heap.size [.row 6 2 (flat ak.aG [ak.mk 5 0 next c.line aC [], f])] [.slice (some (aj wr.heap.size 0)) 2 2] := eF.lit (e := 43) (eF.cons (eF.leaf 5 0 next c.line aC) (eF.one hFx)) rfl aA ah ah
   refine (iY _ _ _ _ _ _).mono ?_
   rintro e w2 ⟨rfl, hb⟩
   have hbw : Below wr.heap.size wr w2 := (bA _ _).trans (hb.mono av)
   replace R := R.later hb
   clear hb c0 c7 cf
   go_upto_region 95 with fail
   have bs := Blk.new w2 43 (aB 11 60 0 c.line aC (some (aj wr.heap.size 0)) 2 2)
   have hb3 : Below w2.heap.size w2 (w2.alloc (.cells (aB 11 60 0 c.line aC (some (aj wr.heap.size 0)) 2 2) 43)) := bA _ _
   have hbA := hbw.trans (hb3.mono hbw.size)
   have HV3 := lH (HVr.out.later hp hbA)
   have br := HB.out.later hbA
   have HY3 := lH (HY.out.later hbA)
   replace R := R.later hb3
   have hz3 : wr.heap.size ≤ (w2.alloc (.cells (aB 11 60 0 c.line aC (some (aj wr.heap.size 0)) 2 2) 43)).heap.size := hbA.size
   clear hb3 hbA hbw
   generalize w2.alloc (.cells (aB 11 60 0 c.line aC (some (aj wr.heap.size 0)) 2 2) 43) = W3 at *
   have cs := bs.cell
   have cr := br.cell
   have co := HV3.out.b3.cell
   have c0 := HV3.out.b0.cell
   have R3 : eF (W3.alloc (.cells (gH 11 60 0 c.line aC (some (aj wr.heap.size 0)) 2 2 y.kind y.op y.number y.line y.text Ay y.kids.length ny 28 0 0 c.line aC none 0 0) 43)) (w.heap.size + 5) wx.heap.size [.row 6 3 (flat ak.aG [(ak.mk 11 60 0 c.line aC [ak.mk 5 0 next c.line aC [], f]), y, ak.mk 28 0 0 c.line aC []])] [.slice (some (aj W3.heap.size 0)) 3 3] := eF.lit (e := 43) (eF.cons (eF.node (l := [ak.mk 5 0 next c.line aC [], f]) R 11 60 0 c.line aC) (eF.cons HY3.out (eF.one (eF.leaf 28 0 0 c.line aC)))) rfl aA ah ah
   have HU := lH (HV3.out.later hp (wy := W3.alloc (.cells (gH 11 60 0 c.line aC (some (aj wr.heap.size 0)) 2 2 y.kind y.op y.number y.line y.text Ay y.kids.length ny 28 0 0 c.line aC none 0 0) 43)) (bA _ _))
   have c1 := HU.out.b1.cell
   have f1 := HU.out.b1.frozen
   go_wp2_with (first | (refine uT rfl rfl rfl ?_) | fail)
   have E := fun x0 x1 x2 x3 r => HU.out.end_ (x0 := x0) (x1 := x1) (x2 := x2) (x3 := x3) (rest := r) hp (dA.node (l := [(ak.mk 11 60 0 c.line aC [ak.mk 5 0 next c.line aC [], f]), y, ak.mk 28 0 0 c.line aC []]) R3.f.top 17 0 0 c.line aC) ah hn1 hn2 fJ
   exact fI
 exact HC.out k20
end
section
open Go Go.RowKit
def ep.Okk (r : ep) : Prop := r.name.size ≤ 100000 ∧ (∀ s ∈ r.fields, s.size ≤ 100000) ∧ 0 ≤ r.line ∧ r.line ≤ 100000
def iU.Okk (r : iU) : Prop := r.name.size ≤ 100000 ∧ (∀ s ∈ r.params, s.size ≤ 100000) ∧ (∀ s ∈ r.locals, s.size ≤ 100000) ∧ r.body.Ok ∧ 0 ≤ r.line ∧ r.line ≤ 100000
def fE.Okk (u : fE) : Prop := (∀ r ∈ u.records, r.Okk) ∧ (∀ s ∈ u.globals, s.size ≤ 100000) ∧ ∀ r ∈ u.procedures, r.Okk
def V9 (w : World) (e : Ending) (w' : World) : Prop := ∃ (u : fE) (v1 v2 v3 : Value) (line : Int), e = .returned (.tuple #[.agg #[v1, v2, v3], .int i64 line]) ∧ Below w.heap.size w w' ∧ eu w' w.heap.size w'.heap.size u.aG [v1, v2, v3] ∧ u.Okk ∧ u.Small
theorem AP : fE.Small ⟨[], [], []⟩ := ⟨av, av, av, av, av⟩
theorem Ib : fE.Okk ⟨[], [], []⟩ := ⟨av, av, av⟩
theorem FV {α : Type} {P : α → Prop} {l : List α} {c : α} (h : ∀ x ∈ l, P x) (h' : P c) : ∀ x ∈ l ++ [c], P x := fun x hx => by
 rcases mA hx with hx | hx
 ·exact h x hx
 rw [mS hx]; exact h'
theorem Ic {α : Type} {P : α → Prop} {l l' : List α} (h : ∀ x ∈ l, P x) (h' : ∀ x ∈ l', P x) : ∀ x ∈ l ++ l', P x := fun x hx => by
 rcases mA hx with hx | hx
 ·exact h x hx
 exact h' x hx
theorem Mv.zY {p : Nat} {ts : List eX} {w w1 : World} {a a1 : Nat} {bad gZ : Int} {s : Bool} (h : Mv p ts w a bad s w1 a1 gZ) {x : Int} (hx : x ≠ 0) : Mv p ts w a bad true (w1.setCell (aj p 2) (.int i64 x)) a1 x :=
 ⟨h.pt.zY x, h.le, fun e => absurd e hx, fun _ e => absurd e hx⟩
theorem Lx {w : World} {lo hi : Nat} : ∀ (ts : List eX), eU w lo hi (flat eX.aG ts) (ts.flatMap eX.cells)
 | [] => by simp [fC]; exact .eO
 | t :: ts => by rw [cK, List.flatMap_cons]; exact eU.app (.aN .mkInt (.aN .mkStr (.aN .mkInt .eO))) (Lx ts)
theorem Sj {w : World} {B : Nat} {X : List Nat} {u : fE} {v1 v2 v3 : Value} (h : gJ w B X u.aG [v1, v2, v3]) : dZ w 0 w.heap.size fE.aG (.agg #[v1, v2, v3]) u := ⟨_, rfl, (h.to (nZ _) (nR _)).rep⟩
theorem gD.box {α : Type} {f : α → List Dat} {K : Nat} {w w' : World} {lo hi p : Nat} {v : Value} {l : List α} (h : gD w lo hi K f v l) (hg : w.grownBy w' (some p)) (hhi : hi ≤ w.heap.size) (hp : p < lo) : gD w' lo hi K f v l := h.kept fun g h1 h2 => hg.block g ah aK
theorem gD.fresh {α : Type} {f : α → List Dat} {K : Nat} {w w' : World} {lo hi : Nat} {row : Option Nat} {v : Value} {l : List α} (h : gD w lo hi K f v l) (hg : w.grownBy w' row) (hhi : hi ≤ w.heap.size) (hr : ∀ g, row = some g → hi ≤ g) : gD w' lo hi K f v l := h.kept fun g h1 h2 => hg.block g ah (fun e => by have := hr g e.symm; omega)
theorem wF {w : World} {B K n : Nat} {e : TypeId} {v : Value} {vs : List Value} (h : w.ownsRow B e K v n vs) {q : Addr} (hq : q.block < B) (u : Value) : (w.setCell q u).ownsRow B e K v n vs := dR h fun g hg => Below.heap_setCell _ _ _ g (fun e => by have := (h.lt g hg).1; omega)
theorem Sk : (Tryz.prog.info? 78).map (fun i => (i.zero, i.size, i.bytes)) = some (some (.agg (dS aC none 0 0 0)), 3, 48) := aI
theorem Sl : (Tryz.prog.info? 181).map (fun i => (i.zero, i.size, i.bytes)) = some (some (.agg (dG aC none 0 0 none 0 0 0 aC 0 0 none 0 0 0)), 9, 136) := aI
theorem Eb (s : ByteArray) (w : World) (hs : s.size ≤ 100000000) : Calls Tryz.prog 81 #[.string s] w (V9 w) := by
 obtain ⟨b2, hb0⟩ := dQ w 122 (aQ none 0 0 none 0 0 none 0 0)
 go_in
 go_wp2_with fail
 refine (Sg s _ hs).mono ?_
 rintro e w1 ⟨⟨v, l, rfl, hl0, hl1, hT⟩, hb⟩
 have HT := lH hT
 have b21 := b2.later hb
 have hb1 := hb0.trans (hb.mono hb0.size)
 have hz1 : w.heap.size + 1 ≤ w1.heap.size := by have := hb.size; simpa using this
 clear hT b2 hb0 hb
 by_cases hl : l = 0
 rotate_left
 ·have cl : (l != 0) = true := by simp [hl]
  clear hl
  obtain ⟨cx, lx, fx⟩ := b21.all
  go_wp2_with fail
  refine bodyPost_ret (v := .tuple #[.agg (aQ none 0 0 none 0 0 none 0 0), l]) ?_ rfl ⟨⟨[], [], []⟩, .slice none 0 0, .slice none 0 0, .slice none 0 0, l, rfl, ?_, ?_, Ib, AP⟩
  ·simp [results, Tryz.results81, go_sem, cx]
  ·exact ((hb1.setCell (p := ⟨w.heap.size, 0, none⟩) (nR _) _).setCell (p := ⟨w.heap.size, 1, none⟩) (nR _) _).setCell (p := ⟨w.heap.size, 2, none⟩) (nR _) _
  exact (Tri.start _ [] 0 0 0 _).data.to (nR _) (nR _)
 subst hl
 obtain ⟨ts, hown, ⟨g, cap, rfl⟩, hlen, hok⟩ := HT.out rfl
 have hT : wM ts := ⟨hlen, hok⟩
 have HTT := lH hT
 have hg1 := (hown.lt g rfl).2
 have hps : Ps w1.heap.size ts (w1.alloc (.cells (jT (some (aj g 0)) ts.length cap 0 0) 169)) 0 0 := by
  obtain ⟨A', c', hv, h1, h2, -⟩ := (Rds.dU hown).shape
  injection hv with e1 _ e2
  subst e1 e2
  refine ⟨_, _, Blk.new w1 _ _, ?_, h1, h2, nZ _⟩
  exact Rep.iV (((Rds.dU hown).alloc (nR _) _).wide (nZ _) (nR _)) (Lx ts)
 have hM : Hid (Mv w1.heap.size ts (w1.alloc (.cells (jT (some (aj g 0)) ts.length cap 0 0) 169)) 0 0 false ((w1.alloc (.cells (jT (some (aj g 0)) ts.length cap 0 0) 169)).alloc (.cells (aQ none 0 0 none 0 0 none 0 0) 122)) 0 0) := (Mv.start hps).below (bA _ _)
 have bu := Blk.newAt (w1.alloc (.cells (jT (some (aj g 0)) ts.length cap 0 0) 169)) 122 (aQ none 0 0 none 0 0 none 0 0) (w1.heap.size + 1) av
 replace b21 := (b21.alloc (.cells (jT (some (aj g 0)) ts.length cap 0 0) 169)).alloc (.cells (aQ none 0 0 none 0 0 none 0 0) 122)
 have hB0 : Below w.heap.size w (w1.alloc (.cells (jT (some (aj g 0)) ts.length cap 0 0) 169)) := hb1.alloc hb1.size _
 have hz0 : w1.heap.size + 1 ≤ (w1.alloc (.cells (jT (some (aj g 0)) ts.length cap 0 0) 169)).heap.size := av
 have afn : (w1.alloc (.cells (jT (some (aj g 0)) ts.length cap 0 0) 169)).heap.size ≤ w1.heap.size + 1 := av
 have hzW : w1.heap.size + 2 ≤ ((w1.alloc (.cells (jT (some (aj g 0)) ts.length cap 0 0) 169)).alloc (.cells (aQ none 0 0 none 0 0 none 0 0) 122)).heap.size := av
 clear hT hown hok HT hg1 hps hb1
 go_wp2_with fail
 generalize hW0 : (w1.alloc (.cells (jT (some (aj g 0)) ts.length cap 0 0) 169)) = W0 at *
 clear hW0
 generalize W0.alloc (.cells (aQ none 0 0 none 0 0 none 0 0) 122) = W at *
 go_loopg [] (2 * (ts.length - 0) + 1) (fun gk wx => ∃ (u : fE) (A1 A2 A3 : Option Addr) (n1 n2 n3 a1 : Nat) (gZ : Int) (bb : Nat), Hid (Tri (w1.heap.size + 2) [w1.heap.size + 1] 78 9 181 wx u (.slice A1 u.records.length n1) (.slice A2 u.globals.length n2) (.slice A3 u.procedures.length n3)) ∧ Hid (Mv w1.heap.size ts W0 0 0 false wx a1 gZ) ∧ Blk wx (w1.heap.size + 1) 122 (aQ A1 u.records.length n1 A2 u.globals.length n2 A3 u.procedures.length n3) ∧ Blk wx w.heap.size 122 (aQ none 0 0 none 0 0 none 0 0) ∧ Hid u.Okk ∧ Hid (gZ = 0 → u.Small ∧ bb = 1) ∧ Hid (gk = 2 * (ts.length - a1) + bb))
 case atStart => exact ⟨⟨[], [], []⟩, none, none, none, 0, 0, 0, 0, 0, 1, lH (Tri.start _ _ _ _ _ _), hM, bu, b21, lH Ib, lH (fun _ => ⟨AP, rfl⟩), lH rfl⟩
 clear hM bu b21 hzW
 obtain ⟨u, A1, A2, A3, n1, n2, n3, a0, Sm, bb, hTr, hM, bu, b2, hOK, hpr, hgk⟩ := hrel
 have p1 := hM.out.ps.at1
 have p2 := hM.out.ps.j5
 have ha0 := hM.out.top
 have lu := bu.lt
 have hLP : w1.heap.size < W0.heap.size := ah
 have hBx : Below w.heap.size w wr := hB0.grown hM.out.gr hB0.size (fun b e => by injection e with e; omega)
 by_cases hz : Sm = 0
 rotate_left
 ·have cz : (Sm == 0) = false := by simp [hz]
  have cz' : (Sm != 0) = true := by simp [hz]
  clear hz
  obtain ⟨c2, l2, f2⟩ := b2.all
  go_wp2_with fail
  go_region
  go_wp2_with fail
  refine bodyPost_ret (v := .tuple #[.agg (aQ none 0 0 none 0 0 none 0 0), Sm]) ?_ rfl ⟨⟨[], [], []⟩, .slice none 0 0, .slice none 0 0, .slice none 0 0, Sm, rfl, ?_, ?_, Ib, AP⟩
  ·simp [results, Tryz.results81, go_sem, c2]
  ·exact (((hBx.trans (((Same.refl _).drewN _).below _ |>.mono hBx.size)).setCell (p := ⟨w.heap.size, 0, none⟩) (nR _) _).setCell (p := ⟨w.heap.size, 1, none⟩) (nR _) _).setCell (p := ⟨w.heap.size, 2, none⟩) (nR _) _
  exact (Tri.start _ [] 0 0 0 _).data.to (nR _) (nR _)
 subst hz
 obtain ⟨hsm, rfl⟩ := hpr.out rfl
 have hSM := lH hsm
 clear hsm
 by_cases hal : (a0 : Int) < (ts.length : Int)
 rotate_left
 ·--<B
  have hd := lH hTr.out.data
  have c7 := bu.cell
  obtain ⟨c2, l2, f2⟩ := b2.all
  go_wp2_with fail
  refine bodyPost_ret (v := .tuple #[.agg (aQ A1 u.records.length n1 A2 u.globals.length n2 A3 u.procedures.length n3), .int i64 0]) ?_ rfl ⟨u, _, _, _, 0, rfl, ?_, ?_, hOK.out, hSM.out⟩
  ·simp [results, Tryz.results81, go_sem, c2]
  ·exact ((hBx.setCell (p := ⟨w.heap.size, 0, none⟩) (nR _) _).setCell (p := ⟨w.heap.size, 1, none⟩) (nR _) _).setCell (p := ⟨w.heap.size, 2, none⟩) (nR _) _
  exact (((hd.out.set (q := ⟨w.heap.size, 0, none⟩) (.inr (by show w.heap.size < _; omega)) _).set (q := ⟨w.heap.size, 1, none⟩) (.inr (by show w.heap.size < _; omega)) _).set (q := ⟨w.heap.size, 2, none⟩) (.inr (by show w.heap.size < _; omega)) _).to ah (nR _)
 have afo : a0 < ts.length := ah
 have hgk := hgk.out
 subst hgk
 go_wp2_with fail
 refine (jL hM.out.ps HTT.out).mono ?_
 rintro e w3 ⟨rfl, hb3⟩
 have hln := xL HTT.out.ok a0
 generalize gY ts a0 = t at *
 have hfd := tF t.kind t.line t.text
 replace hM := lH (hM.out.below hb3)
 replace bu := bu.later hb3
 replace b2 := b2.later hb3
 replace hTr := lH (hTr.out.later hb3)
 clear p1 p2 hb3 lu
 go_wp2_with fail
 clear hfd
 refine (dP _ hM.out.ps HTT.out).mono ?_
 rintro e w4 ⟨b, a1, rfl, hmv, -, hn1, -⟩
 have hM4 := lH (hM.out.step hmv)
 replace bu := bu.grown hmv.gr aK
 replace b2 := b2.grown hmv.gr aK
 replace hTr := lH (hTr.out.box hmv.gr ah)
 have HON := lH hmv.on
 have HN := lH hn1
 have hl4 := hmv.le
 have ht4 := hmv.top
 clear hmv hn1 hM
 cases b with
 | true =>
   go_wp2_with fail
   have h4 := HON.out trivial trivial
   go_roundg (2 * (ts.length - a1) + 1)
   case measure => omega
   exact ⟨u, A1, A2, A3, n1, n2, n3, a1, 0, 1, hTr, lH (by simpa using hM4.out.weak), bu, b2, hOK, lH (fun _ => ⟨hSM.out, rfl⟩), lH rfl⟩
 | false =>
   obtain rfl : a0 = a1 := (HN.out fB).symm
   have hM : Hid (Mv w1.heap.size ts W0 0 0 false w4 a0 0) := by simpa using hM4
   clear hM4 HON HN hl4 ht4
   go_wp2_with fail
   refine (dP _ hM.out.ps HTT.out).mono ?_
   rintro e w5 ⟨b, a1, rfl, hmv, -, hn1, -⟩
   have hM5 := lH (hM.out.step hmv)
   replace bu := bu.grown hmv.gr aK
   replace b2 := b2.grown hmv.gr aK
   replace hTr := lH (hTr.out.box hmv.gr ah)
   have HON := lH hmv.on
   have hl5 := hmv.le
   have ht5 := hmv.top
   clear hmv hM
   go_upto_if 36 with fail
   go_cut [8] (fun v wx => v = .int i64 t.line ∧ (∃ (u : fE) (A1 A2 A3 : Option Addr) (n1 n2 n3 a1 : Nat) (gZ : Int), Hid (Tri (w1.heap.size + 2) [w1.heap.size + 1] 78 9 181 wx u (.slice A1 u.records.length n1) (.slice A2 u.globals.length n2) (.slice A3 u.procedures.length n3)) ∧ Hid (Mv w1.heap.size ts W0 0 0 false wx a1 gZ) ∧ Blk wx (w1.heap.size + 1) 122 (aQ A1 u.records.length n1 A2 u.globals.length n2 A3 u.procedures.length n3) ∧ Blk wx w.heap.size 122 (aQ none 0 0 none 0 0 none 0 0) ∧ Hid u.Okk ∧ a0 ≤ a1 ∧ Hid (gZ = 0 → a0 < a1)))
   case first =>
    have hs5 := hM5.out.size
    have lu5 := bu.lt
    obtain ⟨hr8, Ui, afp, -⟩ := hSM.out
    cases b with
    | true =>
      have h5 := HON.out fB fB
      go_wp2_with fail
      refine (mM hM5.out.ps HTT.out).mono ?_
      rintro e w6 ⟨s, a2, j5, rfl, hss, hmv, -⟩
      have hM6 := lH (hM5.out.step hmv)
      replace bu := bu.grown hmv.gr aK
      replace b2 := b2.grown hmv.gr aK
      replace hTr := lH (hTr.out.box hmv.gr ah)
      have hl6 := hmv.le
      have hs6 := hmv.size
      have HSS := lH hss
      clear hmv hss
      have br := Blk.new w6 78 (dS s none 0 0 t.line)
      have hM7 := lH (hM6.out.below ((bR _ _).alloc (nR _) (.cells (dS s none 0 0 t.line) 78)))
      replace bu := bu.alloc (.cells (dS s none 0 0 t.line) 78)
      replace b2 := b2.alloc (.cells (dS s none 0 0 t.line) 78)
      replace hTr := lH ((hTr.out.more (Y := [w6.heap.size, w1.heap.size + 1]) OH).alloc (.cells (dS s none 0 0 t.line) 78))
      have hz7 : w6.heap.size + 1 ≤ (w6.alloc (.cells (dS s none 0 0 t.line) 78)).heap.size := av
      go_upto_region 11 with fail
      generalize w6.alloc (.cells (dS s none 0 0 t.line) 78) = W7 at *
      go_wp2_with fail
      refine (wZ hM7.out.ps HTT.out).mono ?_
      rintro e w8 ⟨l, A, n, a3, mI, rfl, hmv, hll, hsz, hown⟩
      have hM8 := lH (hM7.out.step hmv)
      have bu8 := bu.grown hmv.gr aK
      have b28 := b2.grown hmv.gr aK
      have br8 := br.grown hmv.gr aK
      have hK8 := lH ((nQ.refl (w1.heap.size + 2) [w6.heap.size, w1.heap.size + 1] W7).box hmv.gr ah)
      have hl8 := hmv.le
      have hs8 := hmv.size
      have HSZ := lH hsz
      have OWN := lH hown
      clear hmv hsz hown bu b2 br
      obtain ⟨cr, lr, fr⟩ := br8.all
      go_upto_region 12 with fail
      have hM9 := lH (hM8.out.far hLP (q := ⟨w6.heap.size, 1, none⟩) (by show W0.heap.size ≤ w6.heap.size; omega) (.slice A l.length n))
      have br9 := br8.aF 1 (.slice A l.length n)
      have bu9 := bu8.far (p := ⟨w6.heap.size, 1, none⟩) (by show w1.heap.size + 1 ≠ w6.heap.size; omega) (.slice A l.length n)
      have b29 := b28.far (p := ⟨w6.heap.size, 1, none⟩) (by show w.heap.size ≠ w6.heap.size; omega) (.slice A l.length n)
      have hK9 := lH (hK8.out.set (q := ⟨w6.heap.size, 1, none⟩) (.inl av) (.slice A l.length n))
      have XY : Hid ((w8.setCell (aj w6.heap.size 1) (.slice A l.length n)).ownsRow W7.heap.size 9 1 (.slice A l.length n) l.length (l.map .string)) := dR OWN.out fun g hg => Below.heap_setCell _ _ _ g (fun e => by have := (OWN.out.lt g hg).1; subst e; show False; have h2 : W7.heap.size ≤ w6.heap.size := this; omega)
      have hz9 : w8.heap.size ≤ (w8.setCell (aj w6.heap.size 1) (.slice A l.length n)).heap.size := by simp [World.setCell]
      clear cr fr lr hM8 br8 bu8 b28 hK8 OWN
      generalize w8.setCell (aj w6.heap.size 1) (.slice A l.length n) = W9 at *
      have hel : Hid (eu W9 W7.heap.size W9.heap.size (ep.aG ⟨s, l, t.line⟩) [.string s, .slice A l.length n, .int i64 t.line]) := eu.oq (eu.uG (gD.texts XY.out (nR _)) (eu.iF eu.eO) ah (nR _))
      obtain ⟨vs1, vo⟩ := hTr.out.zl
      have AW := lH hTr.out.away
      have LA := dR vo fun g hg => hK9.out.1 g (AW.out g (.inl hg)).1 (AW.out g (.inl hg)).2.1 (AW.out g (.inl hg)).2.2
      have HOW := lH vo
      clear vo
      have cr := br9.cell
      have cu := bu9.cell
      go_wp2_with (first | (at_builtin; refine dO rfl _ _ 25 aM 78 _ 3 48 Sk Tryz.underlying25 aM aA aA (w1.heap.size + 2) _ _ _ aM LA _ 1 _ aM aM eZ ah ah ?_) | fail)
      rintro v' w10 ho hgr hat
      obtain ⟨A1', n1', rfl, -⟩ := (Rds.dU ho).shape
      have aej := lH (hTr.out.RQ hK9.out ah aJ hel.out HOW.out ho hgr Gv)
      have yA := lH (hM9.out.own hLP hgr (fun x hx => by have := (AW.out x (.inl hx)).1; omega))
      have Sn := bu9.grown hgr (fun e => (AW.out _ (.inl e.symm)).2.1 av)
      have Ul := b29.grown hgr (fun e => by have := (AW.out _ (.inl e.symm)).1; omega)
      have GZ := hgr.size
      clear ho hgr hat LA HOW AW cr cu hM9 br9 bu9 b29 hTr hK9 hel XY
      obtain ⟨cu, lu, fu⟩ := Sn.all
      go_wp2_with fail
      go_meet
      exact ⟨rfl, { u with records := u.records ++ [⟨s, l, t.line⟩] }, A1', A2, A3, n1', n2, n3, a3, mI, lH (by have h := (aej.out.set (q := ⟨w1.heap.size + 1, 0, none⟩) (.inl av) (.slice A1' (u.records.length + 1) n1')).more (Y := [w1.heap.size + 1]) (fun x hx => .inl (List.mem_cons_of_mem _ hx)); simpa using h), lH (by simpa using (yA.out.far hLP (q := ⟨w1.heap.size + 1, 0, none⟩) Gw (.slice A1' (u.records.length + 1) n1')).weak), by simpa using Sn.aF 0 (.slice A1' (u.records.length + 1) n1'), Ul.far (p := ⟨w1.heap.size + 1, 0, none⟩) Gx _, lH ⟨FV hOK.out.1 ⟨HSS.out, HSZ.out, by show 0 ≤ t.line; omega, hln.2⟩, hOK.out.2.1, hOK.out.2.2⟩, ah, lH (fun _ => by omega)⟩
    | false =>
      obtain rfl : a0 = a1 := (hn1 fB).symm
      have hM : Hid (Mv w1.heap.size ts W0 0 0 false w5 a0 0) := by simpa using hM5
      clear hM5 HON hn1
      go_wp2_with fail
      refine (dP _ hM.out.ps HTT.out).mono ?_
      rintro e w6 ⟨b, a1, rfl, hmv, -, hn1, -⟩
      have hM6 := lH (hM.out.step hmv)
      replace bu := bu.grown hmv.gr aK
      replace b2 := b2.grown hmv.gr aK
      replace hTr := lH (hTr.out.box hmv.gr ah)
      have HON := lH hmv.on
      have hl6 := hmv.le
      have ht6 := hmv.top
      have hs6 := hmv.size
      clear hmv hM
      cases b with
      | true =>
        have h6 := HON.out fB fB
        go_upto_region 14 with fail
        have cT := bu.cell
        refine jm 6 (fun w' => ∀ i, w'.cell? (aj (w1.heap.size + 1) i) = (aQ A1 u.records.length n1 A2 u.globals.length n2 A3 u.procedures.length n3 : Array Value)[i]?) 5 ?_
        replace bu := bu.drew
        replace b2 := b2.drew
        replace hTr := lH (hTr.out.later ((Same.refl w6).drew.below _))
        replace hM6 := lH (hM6.out.below ((Same.refl w6).drew.below _))
        have wN : w6.heap.size ≤ w6.drew.heap.size := nR _
        generalize w6.drew = Wd at *
        clear cT
        have cT := bu.cell
        refine tkB 0 cT ?_
        refine tkB 1 cT ?_
        refine rdA 2 (fun K hK => ?_)
        go_simp
        go_at_call 119
        refine (tH hM6.out.ps HTT.out).mono ?_
        rintro e w7 ⟨l, A, n, a3, mI, rfl, hmv, hll, hsz, hown⟩
        have hM7 := lH (hM6.out.step hmv)
        have bu7 := bu.grown hmv.gr aK
        have b27 := b2.grown hmv.gr aK
        have hK7 := lH ((nQ.refl (w1.heap.size + 2) [w1.heap.size + 1] Wd).box hmv.gr ah)
        have hl7 := hmv.le
        have ht7 := hmv.top
        have hs7 := hmv.size
        have HSZ := lH hsz
        have hrd := Rds.dU hown
        clear hmv hsz hown cT bu b2
        have cT := bu7.cell
        try go_wp2_with fail
        refine fM hK cT ?_
        clear hK K
        obtain ⟨vs2, vo⟩ := hTr.out.jD
        have AW := lH hTr.out.away
        have LA := dR vo fun g hg => hK7.out.1 g (AW.out g (.inr (.inl hg))).1 (AW.out g (.inr (.inl hg))).2.1 (AW.out g (.inr (.inl hg))).2.2
        have HOW := lH vo
        clear vo
        have hone : ∀ x ∈ l.map Value.string, x.oneCell' = true := fun x hx => by obtain ⟨y, -, rfl⟩ := List.mem_map.1 hx; rfl
        have hlb : l.length ≤ 20000 := ah
        refine rdA 3 (fun K hK => ?_)
        refine kE rfl (.tmp 50) (.tmp 51) 26 rfl (w1.heap.size + 2) 9 _ 1 16 iK Tryz.underlying26 rfl aA _ u.globals.length _ rfl LA _ _ _ l.length _ rfl hrd hone jG ah ah ?_
        intro v' w8 ho hgr hat
        obtain ⟨A2', n2', rfl, -⟩ := (Rds.dU ho).shape
        have hT8 := lH (hTr.out.XF (l' := l) (hi := w7.heap.size) hK7.out ah aJ (eu.texts l) HOW.out ho hgr F9)
        have hM8 := lH (hM7.out.own hLP hgr (fun x hx => by have := (AW.out x (.inr (.inl hx))).1; omega))
        have bu8 := bu7.grown hgr (fun e => (AW.out _ (.inr (.inl e.symm))).2.1 av)
        have b28 := b27.grown hgr (fun e => by have := (AW.out _ (.inr (.inl e.symm))).1; omega)
        clear ho hgr hat LA HOW AW hM7 bu7 b27 hTr hK7 hrd hone cT
        have cT := bu8.cell
        refine fM hK cT ?_
        clear hK K
        refine tkB 4 cT ?_
        refine rdA 5 (fun K hK => ?_)
        have fT := bu8.frozen
        have lT := bu8.lt
        go_simp
        refine rE hK ?_
        clear hK K
        refine bY aI ?_ _
        go_wp2_with fail
        go_meet
        have afq : (u.globals ++ l).length = u.globals.length + l.length := List.length_append
        exact ⟨rfl, { u with globals := u.globals ++ l }, A1, A2', A3, n1, n2', n3, a3, mI, lH (by have h := hT8.out.set (q := ⟨w1.heap.size + 1, 1, none⟩) (.inl av) (.slice A2' (u.globals.length + l.length) n2'); simpa using h), lH (by simpa using (hM8.out.far hLP (q := ⟨w1.heap.size + 1, 1, none⟩) Gw (.slice A2' (u.globals.length + l.length) n2')).weak), by simpa using bu8.aF 1 (.slice A2' (u.globals.length + l.length) n2'), b28.far (p := ⟨w1.heap.size + 1, 1, none⟩) Gx _, lH ⟨hOK.out.1, Ic hOK.out.2.1 HSZ.out, hOK.out.2.2⟩, ah, lH (fun _ => by omega)⟩
      | false =>
        obtain rfl : a0 = a1 := (hn1 fB).symm
        have hM : Hid (Mv w1.heap.size ts W0 0 0 false w6 a0 0) := by simpa using hM6
        clear hM6 HON hn1
        go_wp2_with fail
        refine (dP _ hM.out.ps HTT.out).mono ?_
        rintro e w7 ⟨b, a1, rfl, hmv, -, hn1, -⟩
        have hM7 := lH (hM.out.step hmv)
        replace bu := bu.grown hmv.gr aK
        replace b2 := b2.grown hmv.gr aK
        replace hTr := lH (hTr.out.box hmv.gr ah)
        have HON := lH hmv.on
        have hl7 := hmv.le
        have ht7 := hmv.top
        have hs7 := hmv.size
        clear hmv hM
        cases b with
        | true =>
          have h7 := HON.out fB fB
          go_wp2_with fail
          refine (mM hM7.out.ps HTT.out).mono ?_
          rintro e w8 ⟨s, a2, j5, rfl, hss, hmv, -⟩
          have hM8 := lH (hM7.out.step hmv)
          replace bu := bu.grown hmv.gr aK
          replace b2 := b2.grown hmv.gr aK
          replace hTr := lH (hTr.out.box hmv.gr ah)
          have hl8 := hmv.le
          have hs8 := hmv.size
          have HSS := lH hss
          clear hmv hss hM7
          have br := Blk.new w8 181 (dG s none 0 0 none 0 0 0 aC 0 0 none 0 0 t.line)
          have hM7 := lH (hM8.out.below ((bR _ _).alloc (nR _) (.cells (dG s none 0 0 none 0 0 0 aC 0 0 none 0 0 t.line) 181)))
          replace bu := bu.alloc (.cells (dG s none 0 0 none 0 0 0 aC 0 0 none 0 0 t.line) 181)
          replace b2 := b2.alloc (.cells (dG s none 0 0 none 0 0 0 aC 0 0 none 0 0 t.line) 181)
          replace hTr := lH ((hTr.out.more (Y := [w8.heap.size, w1.heap.size + 1]) OH).alloc (.cells (dG s none 0 0 none 0 0 0 ⟨#[]⟩ 0 0 none 0 0 t.line) 181))
          have hz7 : w8.heap.size + 1 ≤ (w8.alloc (.cells (dG s none 0 0 none 0 0 0 aC 0 0 none 0 0 t.line) 181)).heap.size := av
          go_upto_region 17 with fail
          generalize w8.alloc (.cells (dG s none 0 0 none 0 0 0 aC 0 0 none 0 0 t.line) 181) = W7 at *
          go_wp2_with fail
          refine (wZ hM7.out.ps HTT.out).mono ?_
          rintro e w9 ⟨pl, Ap, np, a3, mI, rfl, hmv, hll, hsz, hown⟩
          have hM9 := lH (hM7.out.step hmv)
          have bu9 := bu.grown hmv.gr aK
          have b29 := b2.grown hmv.gr aK
          have br9 := br.grown hmv.gr aK
          have hK9 := lH ((nQ.refl (w1.heap.size + 2) [w8.heap.size, w1.heap.size + 1] W7).box hmv.gr ah)
          have hl9 := hmv.le
          have hs9 := hmv.size
          have ht9 := hmv.top
          have HSZ := lH hsz
          have PAR := lH (gD.texts hown (nR _))
          clear hmv hsz hown bu b2 br hM8
          obtain ⟨cr, lr, fr⟩ := br9.all
          go_wp2_with fail
          clear cr fr lr
          have yA := lH (hM9.out.far hLP (q := ⟨w8.heap.size, 1, none⟩) qR (.slice Ap pl.length np))
          have XZ := br9.aF 1 (.slice Ap pl.length np)
          have Sn := bu9.far (p := ⟨w8.heap.size, 1, none⟩) qT (.slice Ap pl.length np)
          have Ul := b29.far (p := ⟨w8.heap.size, 1, none⟩) qU (.slice Ap pl.length np)
          have X4 := lH (hK9.out.set (q := ⟨w8.heap.size, 1, none⟩) (.inl av) (.slice Ap pl.length np))
          replace PAR := lH (PAR.out.gQ (p := ⟨w8.heap.size, 1, none⟩) (.inl jS) (.slice Ap pl.length np))
          have aeU : w9.heap.size ≤ (w9.setCell (aj w8.heap.size 1) (.slice Ap pl.length np)).heap.size := by simp [World.setCell]
          have aeV : (w9.setCell (aj w8.heap.size 1) (.slice Ap pl.length np)).heap.size ≤ w9.heap.size := by simp [World.setCell]
          clear hM9 br9 bu9 b29 hK9
          generalize w9.setCell (aj w8.heap.size 1) (.slice Ap pl.length np) = W10 at *
          go_loopg [] (ts.length - a3) (fun gk wx => ∃ (ll : List ByteArray) (Al : Option Addr) (nl a4 : Nat) (Bt : Int), Hid (Mv w1.heap.size ts W0 0 0 false wx a4 Bt) ∧ Hid (nQ (w1.heap.size + 2) [w8.heap.size, w1.heap.size + 1] W7 wx) ∧ Hid (gD wx W7.heap.size w9.heap.size 1 aR (.slice Ap pl.length np) pl) ∧ Hid (World.ownsRow wx w9.heap.size 9 1 (.slice Al ll.length nl) ll.length (ll.map .string)) ∧ Hid (∀ x ∈ ll, ByteArray.size x ≤ 100000) ∧ Blk wx w8.heap.size 181 (dG s Ap pl.length np Al ll.length nl 0 aC 0 0 none 0 0 t.line) ∧ Blk wx (w1.heap.size + 1) 122 (aQ A1 u.records.length n1 A2 u.globals.length n2 A3 u.procedures.length n3) ∧ Blk wx w.heap.size 122 (aQ none 0 0 none 0 0 none 0 0) ∧ a3 ≤ a4 ∧ Hid (ll.length ≤ a4 - a3) ∧ W10.heap.size ≤ wx.heap.size ∧ gk = ts.length - a4)
          case atStart => exact ⟨[], none, 0, a3, mI, lH yA.out.weak, X4, PAR, lH (World.ownsRow_nil _ _ _ _), lH av, XZ, Sn, Ul, nR _, lH av, nR _, rfl⟩
          clear yA X4 PAR XZ Sn Ul
          obtain ⟨ll, Al, nl, a4, Bt, hM, hKe, PAR, LOC, hLS, br, bu, b2, X5, hLL, hWS, rfl⟩ := hrel
          have ha4 := hM.out.top
          go_wp2_with fail
          refine (dP _ hM.out.ps HTT.out).mono ?_
          rintro e w10 ⟨b, a5, rfl, hmv, hbz, -, -⟩
          have HBZ := lH hbz
          replace hM := lH (hM.out.step hmv)
          replace bu := bu.grown hmv.gr aK
          replace b2 := b2.grown hmv.gr aK
          replace br := br.grown hmv.gr aK
          replace hKe := lH (hKe.out.box hmv.gr ah)
          have hLT := PAR.out
          replace PAR := lH (PAR.out.box hmv.gr ah ah)
          replace LOC := lH (qZ LOC.out hmv.gr ah)
          have Ng := lH hmv.on
          have HB2 := lH (hmv.no)
          have TE := hmv.le
          have Wh := hmv.top
          have GZ := hmv.size
          clear hmv hLT hbz
          cases b with
          | true =>
            go_wp2_with fail
            have hz4 := HBZ.out fB
            have h54 := Ng.out fB hz4
            go_roundg (ts.length - a5)
            case measure => omega
            exact ⟨ll, Al, nl, a5, Bt, lH hM.out.weak, hKe, PAR, LOC, hLS, br, bu, b2, ah, lH (by have := hLL.out; omega), ah, rfl⟩
          | false =>
            go_wp2_with fail
            go_loopg [] (ts.length - a5) (fun gk wx => ∃ (ll : List ByteArray) (Al : Option Addr) (nl a4 : Nat) (Bt : Int), Hid (Mv w1.heap.size ts W0 0 0 false wx a4 Bt) ∧ Hid (nQ (w1.heap.size + 2) [w8.heap.size, w1.heap.size + 1] W7 wx) ∧ Hid (gD wx W7.heap.size w9.heap.size 1 aR (.slice Ap pl.length np) pl) ∧ Hid (World.ownsRow wx w9.heap.size 9 1 (.slice Al ll.length nl) ll.length (ll.map .string)) ∧ Hid (∀ x ∈ ll, ByteArray.size x ≤ 100000) ∧ Blk wx w8.heap.size 181 (dG s Ap pl.length np Al ll.length nl 0 aC 0 0 none 0 0 t.line) ∧ Blk wx (w1.heap.size + 1) 122 (aQ A1 u.records.length n1 A2 u.globals.length n2 A3 u.procedures.length n3) ∧ Blk wx w.heap.size 122 (aQ none 0 0 none 0 0 none 0 0) ∧ a3 ≤ a4 ∧ Hid (ll.length ≤ a4 - a3) ∧ W10.heap.size ≤ wx.heap.size ∧ gk = ts.length - a4)
            case atStart => exact ⟨ll, Al, nl, a5, Bt, lH hM.out.weak, hKe, PAR, LOC, hLS, br, bu, b2, ah, lH (by have := hLL.out; omega), ah, rfl⟩
            clear hM hKe PAR LOC hLS br bu b2 hLL Ng HB2 hWS TE Wh GZ ha4 X5
            obtain ⟨ll, Al, nl, a4, Bt, hM, hKe, PAR, LOC, hLS, br, bu, b2, X5, hLL, hWS, rfl⟩ := hrel
            have ha4 := hM.out.top
            go_wp2_with fail
            refine (dP _ hM.out.ps HTT.out).mono ?_
            rintro e w11 ⟨b, a5, rfl, hmv, hbz, -, -⟩
            have HBZ := lH hbz
            replace hM := lH (hM.out.step hmv)
            replace bu := bu.grown hmv.gr aK
            replace b2 := b2.grown hmv.gr aK
            replace br := br.grown hmv.gr aK
            replace hKe := lH (hKe.out.box hmv.gr ah)
            have hLT := PAR.out
            replace PAR := lH (PAR.out.box hmv.gr ah ah)
            replace LOC := lH (qZ LOC.out hmv.gr ah)
            have Ng := lH hmv.on
            have HB2 := lH (hmv.no)
            have TE := hmv.le
            have Wh := hmv.top
            have GZ := hmv.size
            clear hmv hLT hbz
            cases b with
            | true =>
              have hz4 := HBZ.out fB
              have h54 := Ng.out fB hz4
              go_upto_region 20 with fail
              have cT := br.cell
              refine jm 6 (fun w' => ∀ i, w'.cell? (aj w8.heap.size i) = (dG s Ap pl.length np Al ll.length nl 0 aC 0 0 none 0 0 t.line : Array Value)[i]?) 5 ?_
              replace bu := bu.drew
              replace b2 := b2.drew
              replace br := br.drew
              replace hM := lH (hM.out.below ((Same.refl w11).drew.below _))
              replace hKe := lH (hKe.out.later ((Same.refl w11).drew.below _))
              replace PAR := lH (PAR.out.same (Same.refl w11).drew)
              replace LOC := lH ((Same.refl w11).drew.own LOC.out)
              have wN : w11.heap.size ≤ w11.drew.heap.size := nR _
              generalize w11.drew = Wd at *
              clear cT
              have cT := br.cell
              refine tkB 0 cT ?_
              refine tkB 1 cT ?_
              refine rdA 2 (fun K hK => ?_)
              go_simp
              go_at_call 119
              refine (tH hM.out.ps HTT.out).mono ?_
              rintro e w12 ⟨l, A, n, a6, EA, rfl, hmv, hll, hsz, hown⟩
              replace hM := lH (hM.out.step hmv)
              replace bu := bu.grown hmv.gr aK
              replace b2 := b2.grown hmv.gr aK
              replace br := br.grown hmv.gr aK
              replace hKe := lH (hKe.out.box hmv.gr ah)
              replace PAR := lH (PAR.out.box hmv.gr ah ah)
              have zl := qZ LOC.out hmv.gr ah
              have hl12 := hmv.le
              have afr := hmv.top
              have Um := hmv.size
              have HSL := lH hsz
              have hrd := Rds.dU hown
              clear hmv hsz hown cT LOC
              have cT := br.cell
              try go_wp2_with fail
              refine fM hK cT ?_
              clear hK K
              have AL := lH zl.lt
              have hone : ∀ x ∈ l.map Value.string, x.oneCell' = true := fun x hx => by obtain ⟨y, -, rfl⟩ := List.mem_map.1 hx; rfl
              have hlb : l.length ≤ 20000 := ah
              have afs : ll.length ≤ 20000 := by have := hLL.out; omega
              refine rdA 3 (fun K hK => ?_)
              refine kE rfl (.tmp 63) (.tmp 64) 26 rfl w9.heap.size 9 _ 1 16 iK Tryz.underlying26 rfl aA _ ll.length _ rfl zl _ _ _ l.length _ rfl hrd hone jG ah ah ?_
              intro v' w13 ho hgr hat
              obtain ⟨Al', nl', rfl, -⟩ := (Rds.dU ho).shape
              replace hM := lH (hM.out.own hLP hgr (fun x hx => by have := (AL.out x hx).1; omega))
              replace bu := bu.grown hgr Gy
              replace b2 := b2.grown hgr Gy
              replace br := br.grown hgr Gy
              replace hKe := lH (hKe.out.fresh hgr (fun x hx => by have := (AL.out x hx).1; omega))
              replace PAR := lH (PAR.out.fresh hgr ah (fun x hx => (AL.out x hx).1))
              have LOC := lH ho
              have aft := hgr.size
              clear ho hgr hat zl hrd hone AL cT
              have cT := br.cell
              refine fM hK cT ?_
              clear hK K
              refine tkB 4 cT ?_
              refine rdA 5 (fun K hK => ?_)
              have fT := br.frozen
              have lT := br.lt
              go_simp
              refine rE hK ?_
              clear hK K
              refine bY aI ?_ _
              clear cT fT lT
              replace hM := lH (hM.out.far hLP (q := ⟨w8.heap.size, 2, none⟩) qR (.slice Al' (ll.length + l.length) nl'))
              replace br := br.aF 2 (.slice Al' (ll.length + l.length) nl')
              replace bu := bu.far (p := ⟨w8.heap.size, 2, none⟩) qT (.slice Al' (ll.length + l.length) nl')
              replace b2 := b2.far (p := ⟨w8.heap.size, 2, none⟩) qU (.slice Al' (ll.length + l.length) nl')
              replace hKe := lH (hKe.out.set (q := ⟨w8.heap.size, 2, none⟩) (.inl av) (.slice Al' (ll.length + l.length) nl'))
              replace PAR := lH (PAR.out.gQ (p := ⟨w8.heap.size, 2, none⟩) (.inl jS) (.slice Al' (ll.length + l.length) nl'))
              replace LOC := lH (wF LOC.out (q := ⟨w8.heap.size, 2, none⟩) jS (.slice Al' (ll.length + l.length) nl'))
              have hzz : w13.heap.size ≤ (w13.setCell (aj w8.heap.size 2) (.slice Al' (ll.length + l.length) nl')).heap.size := by simp [World.setCell]
              generalize w13.setCell (aj w8.heap.size 2) (.slice Al' (ll.length + l.length) nl') = W14 at *
              have Un : (ll ++ l).length = ll.length + l.length := List.length_append
              go_wp2_with fail
              go_loopg [] (ts.length - a6) (fun gk wx => ∃ (ll : List ByteArray) (Al : Option Addr) (nl a4 : Nat) (Bt : Int), Hid (Mv w1.heap.size ts W0 0 0 false wx a4 Bt) ∧ Hid (nQ (w1.heap.size + 2) [w8.heap.size, w1.heap.size + 1] W7 wx) ∧ Hid (gD wx W7.heap.size w9.heap.size 1 aR (.slice Ap pl.length np) pl) ∧ Hid (World.ownsRow wx w9.heap.size 9 1 (.slice Al ll.length nl) ll.length (ll.map .string)) ∧ Hid (∀ x ∈ ll, ByteArray.size x ≤ 100000) ∧ Blk wx w8.heap.size 181 (dG s Ap pl.length np Al ll.length nl 0 aC 0 0 none 0 0 t.line) ∧ Blk wx (w1.heap.size + 1) 122 (aQ A1 u.records.length n1 A2 u.globals.length n2 A3 u.procedures.length n3) ∧ Blk wx w.heap.size 122 (aQ none 0 0 none 0 0 none 0 0) ∧ a6 ≤ a4 ∧ Hid (ll.length ≤ a4 - a3) ∧ W10.heap.size ≤ wx.heap.size ∧ gk = ts.length - a4)
              case atStart => exact ⟨ll ++ l, Al', nl', a6, EA, lH hM.out.weak, hKe, PAR, lH (by have h := LOC.out; rw [Un, List.map_append]; exact h), lH (Ic hLS.out HSL.out), (by rw [Un]; exact br), bu, b2, nR _, lH (by rw [Un]; have := hLL.out; omega), ah, rfl⟩
              clear hM hKe PAR LOC hLS br bu b2 hLL Ng HB2 HBZ hWS TE Wh GZ ha4 Un
              obtain ⟨ll', Al, nl, a7, uD, hM, hKe, PAR, LOC, hLS, br, bu, b2, afu, hLL, hWS, rfl⟩ := hrel
              have ha7 := hM.out.top
              go_wp2_with fail
              refine (dP _ hM.out.ps HTT.out).mono ?_
              rintro e w15 ⟨b, a8, rfl, hmv, hbz, -, -⟩
              have HBZ := lH hbz
              replace hM := lH (hM.out.step hmv)
              replace bu := bu.grown hmv.gr aK
              replace b2 := b2.grown hmv.gr aK
              replace br := br.grown hmv.gr aK
              replace hKe := lH (hKe.out.box hmv.gr ah)
              replace PAR := lH (PAR.out.box hmv.gr ah ah)
              replace LOC := lH (qZ LOC.out hmv.gr ah)
              have Ng := lH hmv.on
              have XA := hmv.le
              have XB := hmv.top
              have TF := hmv.size
              clear hmv hbz
              cases b with
              | true =>
                go_wp2_with fail
                have hz7 := HBZ.out fB
                have h87 := Ng.out fB hz7
                exact OB
              | false =>
                go_wp2_with fail
                exact OB
            | false =>
              go_upto_region 22 with fail
              obtain ⟨cr, lr, fr⟩ := br.all
              go_upto_region 23 with fail
              clear cr fr lr
              replace hM := lH hM.out.weak
              have afv : True := trivial
              replace hM := lH (hM.out.far hLP (q := ⟨w8.heap.size, 3, none⟩) qR (.int i64 14))
              replace br := br.aF 3 (.int i64 14)
              replace bu := bu.far (p := ⟨w8.heap.size, 3, none⟩) qT (.int i64 14)
              replace b2 := b2.far (p := ⟨w8.heap.size, 3, none⟩) qU (.int i64 14)
              replace hKe := lH (hKe.out.set (q := ⟨w8.heap.size, 3, none⟩) (.inl av) (.int i64 14))
              replace PAR := lH (PAR.out.gQ (p := ⟨w8.heap.size, 3, none⟩) (.inl jS) (.int i64 14))
              replace LOC := lH (wF LOC.out (q := ⟨w8.heap.size, 3, none⟩) jS (.int i64 14))
              replace hM := lH (hM.out.far hLP (q := ⟨w8.heap.size, 4, none⟩) qR (.string aC))
              replace br := br.aF 4 (.string aC)
              replace bu := bu.far (p := ⟨w8.heap.size, 4, none⟩) qT (.string aC)
              replace b2 := b2.far (p := ⟨w8.heap.size, 4, none⟩) qU (.string aC)
              replace hKe := lH (hKe.out.set (q := ⟨w8.heap.size, 4, none⟩) (.inl av) (.string aC))
              replace PAR := lH (PAR.out.gQ (p := ⟨w8.heap.size, 4, none⟩) (.inl jS) (.string aC))
              replace LOC := lH (wF LOC.out (q := ⟨w8.heap.size, 4, none⟩) jS (.string aC))
              replace hM := lH (hM.out.far hLP (q := ⟨w8.heap.size, 5, none⟩) qR (.int i64 0))
              replace br := br.aF 5 (.int i64 0)
              replace bu := bu.far (p := ⟨w8.heap.size, 5, none⟩) qT (.int i64 0)
              replace b2 := b2.far (p := ⟨w8.heap.size, 5, none⟩) qU (.int i64 0)
              replace hKe := lH (hKe.out.set (q := ⟨w8.heap.size, 5, none⟩) (.inl av) (.int i64 0))
              replace PAR := lH (PAR.out.gQ (p := ⟨w8.heap.size, 5, none⟩) (.inl jS) (.int i64 0))
              replace LOC := lH (wF LOC.out (q := ⟨w8.heap.size, 5, none⟩) jS (.int i64 0))
              replace hM := lH (hM.out.far hLP (q := ⟨w8.heap.size, 6, none⟩) qR (.int i64 t.line))
              replace br := br.aF 6 (.int i64 t.line)
              replace bu := bu.far (p := ⟨w8.heap.size, 6, none⟩) qT (.int i64 t.line)
              replace b2 := b2.far (p := ⟨w8.heap.size, 6, none⟩) qU (.int i64 t.line)
              replace hKe := lH (hKe.out.set (q := ⟨w8.heap.size, 6, none⟩) (.inl av) (.int i64 t.line))
              replace PAR := lH (PAR.out.gQ (p := ⟨w8.heap.size, 6, none⟩) (.inl jS) (.int i64 t.line))
              replace LOC := lH (wF LOC.out (q := ⟨w8.heap.size, 6, none⟩) jS (.int i64 t.line))
              replace hM := lH (hM.out.far hLP (q := ⟨w8.heap.size, 7, none⟩) qR (.slice none 0 0))
              replace br := br.aF 7 (.slice none 0 0)
              replace bu := bu.far (p := ⟨w8.heap.size, 7, none⟩) qT (.slice none 0 0)
              replace b2 := b2.far (p := ⟨w8.heap.size, 7, none⟩) qU (.slice none 0 0)
              replace hKe := lH (hKe.out.set (q := ⟨w8.heap.size, 7, none⟩) (.inl av) (.slice none 0 0))
              replace PAR := lH (PAR.out.gQ (p := ⟨w8.heap.size, 7, none⟩) (.inl jS) (.slice none 0 0))
              replace LOC := lH (wF LOC.out (q := ⟨w8.heap.size, 7, none⟩) jS (.slice none 0 0))
              have hzq : w11.heap.size ≤ (((((w11.setCell (aj w8.heap.size 3) (.int i64 14)).setCell (aj w8.heap.size 4) (.string aC)).setCell (aj w8.heap.size 5) (.int i64 0)).setCell (aj w8.heap.size 6) (.int i64 t.line)).setCell (aj w8.heap.size 7) (.slice none 0 0)).heap.size := by simp [World.setCell]
              generalize ((((w11.setCell (aj w8.heap.size 3) (.int i64 14)).setCell (aj w8.heap.size 4) (.string aC)).setCell (aj w8.heap.size 5) (.int i64 0)).setCell (aj w8.heap.size 6) (.int i64 t.line)).setCell (aj w8.heap.size 7) (.slice none 0 0) = W12 at *
              have aek := lH PAR.out
              have hLC := LOC.out
              have X6 := lH (gD.texts hLC (nR _))
              clear hLC LOC aek
              have X7 : Blk W12 w8.heap.size 181 (dG s Ap pl.length np Al ll.length nl 14 aC 0 t.line none 0 0 t.line) := br
              clear br
              go_wp2_with fail
              refine (Qz _ hM.out.ps HTT.out).mono ?_
              rintro e w13 ⟨kl, Ak, nk, a7, uD, rfl, hmv, hkl, hok, hown⟩
              replace hM := lH (hM.out.step hmv)
              have Wi := X7.grown hmv.gr aK
              replace bu := bu.grown hmv.gr aK
              replace b2 := b2.grown hmv.gr aK
              replace hKe := lH (hKe.out.box hmv.gr ah)
              replace PAR := lH (PAR.out.box hmv.gr ah ah)
              have LOC := lH (X6.out.box hmv.gr (nR _) ah)
              have KID := lH hown
              have afw := hmv.le
              have afx := hmv.top
              have afy := hmv.size
              have ael := lH hok
              clear hmv hok hown X6 X7
              obtain ⟨cr, lr, fr⟩ := Wi.all
              go_upto_region 24 with fail
              clear cr fr lr
              replace hM := lH (hM.out.far hLP (q := ⟨w8.heap.size, 7, none⟩) qR (.slice Ak kl.length nk))
              have X8 := Wi.aF 7 (.slice Ak kl.length nk)
              replace bu := bu.far (p := ⟨w8.heap.size, 7, none⟩) qT (.slice Ak kl.length nk)
              replace b2 := b2.far (p := ⟨w8.heap.size, 7, none⟩) qU (.slice Ak kl.length nk)
              replace hKe := lH (hKe.out.set (q := ⟨w8.heap.size, 7, none⟩) (.inl av) (.slice Ak kl.length nk))
              replace PAR := lH (PAR.out.gQ (p := ⟨w8.heap.size, 7, none⟩) (.inl jS) (.slice Ak kl.length nk))
              replace LOC := lH (LOC.out.gQ (p := ⟨w8.heap.size, 7, none⟩) (.inl jS) (.slice Ak kl.length nk))
              replace KID := lH (KID.out.gQ (p := ⟨w8.heap.size, 7, none⟩) (.inl jS) (.slice Ak kl.length nk))
              have hzr : w13.heap.size ≤ (w13.setCell (aj w8.heap.size 7) (.slice Ak kl.length nk)).heap.size := by simp [World.setCell]
              generalize w13.setCell (aj w8.heap.size 7) (.slice Ak kl.length nk) = W14 at *
              clear Wi
              have hel : Hid (eu W14 W7.heap.size W14.heap.size (iU.aG ⟨s, pl, ll, .mk 14 aC 0 t.line kl, t.line⟩) [.string s, .slice Ap pl.length np, .slice Al ll.length nl, .int i64 14, .string aC, .int i64 0, .int i64 t.line, .slice Ak kl.length nk, .int i64 t.line]) := eu.oq (eu.uG PAR.out (eu.uG LOC.out (eu.iF (eu.oq (eu.iF (eu.iF (eu.uG KID.out (eu.iF eu.eO) ah hzr))))) ah ah) ah ah)
              obtain ⟨vs3, vo⟩ := hTr.out.mP
              have AW := lH hTr.out.away
              have LA := dR vo fun g hg => hKe.out.1 g (AW.out g (.inr (.inr hg))).1 (AW.out g (.inr (.inr hg))).2.1 (AW.out g (.inr (.inr hg))).2.2
              have HOW := lH vo
              clear vo PAR LOC KID
              have cr := X8.cell
              have cu := bu.cell
              go_wp2_with (first | (at_builtin; refine dO rfl _ _ 120 aM 181 _ 9 136 Sl Tryz.underlying120 aM aA aA (w1.heap.size + 2) _ _ _ aM LA _ 1 _ aM aM eZ ah ah ?_) | fail)
              rintro v' w18 ho hgr hat
              obtain ⟨A3', n3', rfl, -⟩ := (Rds.dU ho).shape
              have aem := lH (hTr.out.XG hKe.out ah aJ hel.out HOW.out ho hgr Gv)
              have aen := lH (hM.out.own hLP hgr (fun x hx => by have := (AW.out x (.inr (.inr hx))).1; omega))
              have X9 := bu.grown hgr (fun e => (AW.out _ (.inr (.inr e.symm))).2.1 av)
              have aeo := b2.grown hgr (fun e => by have := (AW.out _ (.inr (.inr e.symm))).1; omega)
              have afz := hgr.size
              clear ho hgr hat LA HOW AW cr cu hM X8 bu b2 hTr hKe hel
              obtain ⟨cu, lu, fu⟩ := X9.all
              go_wp2_with fail
              go_meet
              exact ⟨rfl, { u with procedures := u.procedures ++ [⟨s, pl, ll, .mk 14 aC 0 t.line kl, t.line⟩] }, A1, A2, A3', n1, n2, n3', a7, uD, lH (by have h := (aem.out.set (q := ⟨w1.heap.size + 1, 2, none⟩) (.inl av) (.slice A3' (u.procedures.length + 1) n3')).more (Y := [w1.heap.size + 1]) (fun x hx => .inl (List.mem_cons_of_mem _ hx)); simpa using h), lH (by simpa using (aen.out.far hLP (q := ⟨w1.heap.size + 1, 2, none⟩) Gw (.slice A3' (u.procedures.length + 1) n3')).weak), by simpa using X9.aF 2 (.slice A3' (u.procedures.length + 1) n3'), aeo.far (p := ⟨w1.heap.size + 1, 2, none⟩) Gx _, lH ⟨hOK.out.1, hOK.out.2.1, FV hOK.out.2.2 ⟨HSS.out, HSZ.out, hLS.out, nY 14 aC 0 t.line kl (nZ _) ⟨ah, hln.2⟩ aA l8 ah aA ael.out, by show 0 ≤ t.line; omega, hln.2⟩⟩, ah, lH (fun _ => by omega)⟩
        | false =>
          obtain rfl : a0 = a1 := (hn1 fB).symm
          have hM : Hid (Mv w1.heap.size ts W0 0 0 false w7 a0 0) := by simpa using hM7
          clear hM7 HON hn1
          go_wp2_with fail
          refine (jJ hM.out.ps HTT.out).mono ?_
          rintro e w8 ⟨D6, rfl, hmv, h8⟩
          have hM8 := lH (hM.out.step hmv)
          replace bu := bu.grown hmv.gr aK
          replace b2 := b2.grown hmv.gr aK
          replace hTr := lH (hTr.out.box hmv.gr ah)
          have H8 := lH h8
          clear hmv h8
          go_wp2_with fail
          go_meet
          exact ⟨rfl, u, A1, A2, A3, n1, n2, n3, a0, D6, hTr, lH hM8.out.weak, bu, b2, hOK, nR _, lH (fun e => absurd e H8.out)⟩
   clear hTr hM5 bu b2 hOK HON hl5 ht5 hn1
   obtain ⟨rfl, u, A1, A2, A3, n1, n2, n3, a2, j5, hTr, hM, bu, b2, hOK, hl2, hon⟩ := hcut
   have p2 := hM.out.ps.j5
   have cu := bu.cell
   have ht2 := hM.out.top
   by_cases h0 : j5 = 0
   ·subst h0
    have h02 := hon.out rfl
    have CV := lH (oz u A1 A2 A3 n1 n2 n3 wc 0 wc.heap.size (Sj hTr.out.data) (nR _) (fun q hq => (hOK.out.2.2 q hq).2.2.2.1))
    go_wp2_with fail
    refine CV.out.mono ?_
    rintro e w9 ⟨b, rfl, hb9, hsm⟩
    have HSM := lH hsm
    replace hM := lH (hM.out.below hb9)
    replace bu := bu.later hb9
    replace b2 := b2.later hb9
    replace hTr := lH (hTr.out.later hb9)
    clear hsm hb9 p2 cu CV
    cases b with
    | true =>
      go_wp2_with fail
      go_roundg (2 * (ts.length - a2) + 1)
      case measure => omega
      exact ⟨u, A1, A2, A3, n1, n2, n3, a2, 0, 1, hTr, hM, bu, b2, hOK, lH (fun _ => ⟨HSM.out fB, rfl⟩), lH rfl⟩
    | false =>
      have f2 := hM.out.ps.frz 2
      have lp2 := hM.out.ps.lt
      have p2 := hM.out.ps.j5
      go_wp2_with fail
      have hne : t.line ≠ 0 := ah
      go_roundg (2 * (ts.length - a2) + 0)
      case measure => omega
      exact ⟨u, A1, A2, A3, n1, n2, n3, a2, t.line, 0, lH (hTr.out.set (q := ⟨w1.heap.size, 2, none⟩) (.inr (by show w1.heap.size < _; omega)) _), lH ((hM.out.zY hne).weak), bu.far (p := ⟨w1.heap.size, 2, none⟩) (by show w1.heap.size + 1 ≠ w1.heap.size; omega) _, b2.far (p := ⟨w1.heap.size, 2, none⟩) (by show w.heap.size ≠ w1.heap.size; omega) _, hOK, lH (fun e => absurd e hne), lH rfl⟩
   have c0 : (j5 == 0) = false := by simp [h0]
   have H0 := lH h0
   clear h0
   go_wp2_with fail
   go_roundg (2 * (ts.length - a2) + 0)
   case measure => omega
   exact ⟨u, A1, A2, A3, n1, n2, n3, a2, j5, 0, hTr, hM, bu, b2, hOK, lH (fun e => absurd e H0.out), lH rfl⟩
end
end Go.Proofs.YthbcamfejgghhaaGreatDoor
