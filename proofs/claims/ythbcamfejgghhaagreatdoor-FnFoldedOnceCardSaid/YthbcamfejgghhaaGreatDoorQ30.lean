/- The xO switch, a way a kind: kinds 9 to 19. A aeb tree folds to itself, and a valid tree stays valid. Plain lemmas, no program. -/
import Derived.Test.YthbcamfejgghhaaGreatDoorQ22
import Derived.Test.YthbcamfejgghhaaGreatDoorQ29
set_option maxRecDepth 100000
set_option maxHeartbeats 64000000
set_option linter.unusedVariables false
set_option linter.unusedSimpArgs false
namespace Go.Proofs.YthbcamfejgghhaaGreatDoor
open Go.IntKind (i64)
section
open Go Go.RowKit
theorem VW (u : fE) (A1 A2 A3 : Option Addr) (n1 n2 n3 lo hi p : Nat) (lc : List ByteArray) (Al : Option Addr) (nl : Nat) (c : aH) (A : Option Addr) (n : Nat) (w wx : World) (next nx : Int) (l : List ak) (A' : Option Addr) (n' : Nat) (f s : ak) (Af As : Option Addr) (nf ns gs gf go gt g1 g2 : Nat) (hp : p < w.heap.size) (hn1 : next ≤ nx) (hn2 : nx ≤ next + c.nodes) (HU : Hid (dZ w lo hi fE.aG (.agg (aQ A1 u.records.length n1 A2 u.globals.length n2 A3 u.procedures.length n3)) u)) (HL : Hid (aW w lo hi 1 aR (.slice Al lc.length nl) lc)) (hhp : hi ≤ p) (HOK : Hid c.Ok) (HK : Hid (Qn w p c A n next (gT A1 u.records.length n1 A2 u.globals.length n2 A3 u.procedures.length n3 Al lc.length nl nx) wx l (.slice A' l.length n') f s Af As nf ns gs gf go gt g1 g2)) (s9 : Value) (a : Act) (hF : Dt (.pointer (some (aj p 0))) (.pointer (some (aj w.heap.size 0))) (.pointer (some (aj (w.heap.size + 1) 0))) (.pointer (some (aj (w.heap.size + 1 + 1) 0))) (.pointer (some (aj (w.heap.size + 1 + 1 + 1) 0))) (.pointer (some (aj (w.heap.size + 4) 0))) (.slice A' l.length n') s9 (.pointer (some (aj gs 0))) (.pointer (some (aj gf 0))) (.pointer (some (aj go 0))) (.pointer (some (aj gt 0))) a) (k1 : (c.kind == 1) = false) (k2 : (c.kind == 2) = false) (k3 : (c.kind == 3) = false) (k4 : (c.kind == 4) = false) (k5 : (c.kind == 5) = false) (k6 : (c.kind == 6) = false) (k7 : (c.kind == 7) = false) (k8 : (c.kind == 8) = false) (hC : (c.kind == 9) = false → (c.kind == 10) = false → (c.kind == 11) = false → (c.kind == 12) = false → (c.kind == 13) = false → (c.kind == 14) = false → (c.kind == 15) = false → (c.kind == 16) = false → (c.kind == 17) = false → (c.kind == 18) = false → (c.kind == 19) = false → Code.wp Tryz.prog (lD 19) (bodyPost Tryz.prog Tryz.f130 (wP p (jf A1 u.records.length n1 A2 u.globals.length n2 A3 u.procedures.length n3 Al lc.length nl) next c w)) a wx) : Code.wp Tryz.prog (lD 19) (bodyPost Tryz.prog Tryz.f130 (wP p (jf A1 u.records.length n1 A2 u.globals.length n2 A3 u.procedures.length n3 Al lc.length nl) next c w)) a wx := by
 have HC := lH hC
 clear hC
 cases hF
 conv => arg 2; whnf
 have HT : Hid (kG w p c A n next (Array.push (jf A1 u.records.length n1 A2 u.globals.length n2 A3 u.procedures.length n3 Al lc.length nl) (.int i64 nx)) wx) := HK.out.T
 have c0 := HK.out.T.b0.cell
 have c1 := HK.out.T.b1.cell
 have f1 := HK.out.T.b1.frozen
 have l1 := HK.out.T.b1.lt
 have hBk : 2000000 + eT l ≤ 2000000 * c.nodes := by have h1 := c.eG; have h2 := HK.out.bk; omega
 have hfs := HK.out.fs
 have hln : l.length ≤ c.kids.length := by have := HK.out.len; omega
 have hkk := HOK.out.len
 have hkl : 2000000 + 1000000 * c.kids.length + eT l ≤ 4000000 * c.nodes := by have h1 := c.eG; have h2 := HK.out.bk; have h3 := tN c.kids; omega
 have htx := HOK.out.text
 have ht0 : ByteArray.size aC ≤ 0 := nR _
 rcases bE (c.kind == 9) with k9 | k9
 ·as_aux_lemma =>
   rcases bE ((l.length : Int) == 2) with h9 | h9
   ·as_aux_lemma =>
     have lgs := HK.out.ls
     have lgf := HK.out.lf
     have lgo := HK.out.lo
     have lgt := HK.out.lt
     have lge := HK.out.le
     obtain ⟨vs, hG⟩ := HK.out.K
     have HG := lH hG
     have jD := hG.own
     clear hG
     go_wp2_with (first | (refine q9 rfl ?_) | (at_builtin; refine dO rfl _ _ 41 aM 43 _ 6 72 ow Tryz.underlying41 aM aA aA (w.heap.size + 5) _ _ _ aM jD (aB 1 0 1 c.line aC none 0 0) 1 _ aM aM eZ ah ah ?_) | fail)
     intro v' w5 kD hgr5 hat
     obtain ⟨A3', n3', rfl, -⟩ := (Rds.dU kD).shape
     have G5 := HG.out.push (c := (ak.mk 1 0 1 c.line ⟨#[]⟩ [])) (p := p) (World.grownBy.refl wx _) ah ah (kF.leaf 1 0 1 c.line ⟨#[]⟩) kD hgr5 Gs
     have HV := lH (HT.out.own hgr5 hp (fun g e => (jD.lt g e).1))
     have R := G5.row.top.fit av
     clear kD hgr5 hat jD G5 c0 c1 f1 l1
     have c0 := HV.out.b0.cell
     have c1 := HV.out.b1.cell
     have f1 := HV.out.b1.frozen
     have l1 := HV.out.b1.lt
     go_wp2_with fail
     refine (iY _ _ _ _ _ _).mono ?_
     rintro e w6 ⟨rfl, hb⟩
     have HU := lH (HV.out.later hp hb)
     replace R := R.below hb (nR _)
     clear hb c0 c1 f1 l1
     have c1 := HU.out.b1.cell
     have f1 := HU.out.b1.frozen
     have l1 := HU.out.b1.lt
     go_wp2_with fail
     have E := fun x0 x1 x2 x3 r => HU.out.end_ (x0 := x0) (x1 := x1) (x2 := x2) (x3 := x3) (rest := r) hp (dA.node (l := l ++ [ak.mk 1 0 1 c.line aC []]) R 11 72 0 c.line aC) ah hn1 hn2 OG
     exact Jf
   obtain ⟨vs, hG⟩ := HK.out.K
   have R := hG.row
   clear hG
   go_wp2_with fail
   refine (iY _ _ _ _ _ _).mono ?_
   rintro e w1 ⟨rfl, hb⟩
   have HU := lH (HT.out.later hp hb)
   replace R := R.later hb
   clear hb c0 c1 f1 l1
   have c1 := HU.out.b1.cell
   have f1 := HU.out.b1.frozen
   have l1 := HU.out.b1.lt
   go_wp2_with fail
   have E := fun x0 x1 x2 x3 r => HU.out.end_ (x0 := x0) (x1 := x1) (x2 := x2) (x3 := x3) (rest := r) hp (dA.node R.top 11 72 0 c.line aC) ah hn1 hn2 fJ
   exact fI
 rcases bE (c.kind == 10) with k10 | k10
 ·as_aux_lemma =>
   obtain ⟨vs, hG⟩ := HK.out.K
   have R := hG.row
   clear hG
   go_wp2_with fail
   have E := fun x0 x1 x2 x3 r => HT.out.end_ (x0 := x0) (x1 := x1) (x2 := x2) (x3 := x3) (rest := r) hp (dA.node R.top 12 0 0 c.line aC) ah hn1 hn2 fJ
   exact fI
 rcases bE (c.kind == 11) with k11 | k11
 ·exact JL
 rcases bE (c.kind == 12) with k12 | k12
 ·exact JL
 rcases bE (c.kind == 13) with k13 | k13
 ·as_aux_lemma =>
   have lgs := HK.out.ls
   have lgf := HK.out.lf
   have lgo := HK.out.lo
   have lgt := HK.out.lt
   have lge := HK.out.le
   have cf := HK.out.bf.cell
   have R : dA (wx.alloc (.cells (fZ f.kind f.op f.number f.line f.text Af f.kids.length nf 2 0 0 c.line c.text none 0 0) 43)) (w.heap.size + 5) (wx.heap.size + 1) [.row 6 2 (flat ak.aG [f, (ak.mk 2 0 0 c.line c.text [])])] [.slice (some (aj wx.heap.size 0)) 2 2] := dA.lit (hi := wx.heap.size) (e := 43) (dA.cons (HK.out.hF.wide (nR _) ah) (dA.one (dA.leaf 2 0 0 c.line c.text))) rfl aA ah ah
   have HV := lH (HT.out.later hp (wy := wx.alloc (.cells (fZ f.kind f.op f.number f.line f.text Af f.kids.length nf 2 0 0 c.line c.text none 0 0) 43)) (bA _ _))
   go_wp2_with (first | (refine pF rfl rfl ?_) | fail)
   refine (iY _ _ _ _ _ _).mono ?_
   rintro e w2 ⟨rfl, hb⟩
   have HU := lH (HV.out.later hp hb)
   replace R := (R.below hb av).f.top
   clear hb c0 c1 f1 l1
   have c1 := HU.out.b1.cell
   have f1 := HU.out.b1.frozen
   have l1 := HU.out.b1.lt
   go_wp2_with fail
   have E := fun x0 x1 x2 x3 r => HU.out.end_ (x0 := x0) (x1 := x1) (x2 := x2) (x3 := x3) (rest := r) hp (dA.node (l := [f, (ak.mk 2 0 0 c.line c.text [])]) R 11 79 0 c.line aC) ah hn1 hn2 fJ
   exact fI
 rcases bE (c.kind == 14) with k14 | k14
 ·as_aux_lemma =>
   rcases bE ((l.length : Int) == 0) with h14 | h14
   ·as_aux_lemma =>
     have cn := HK.out.T.b2.cell
     go_wp2_with fail
     have E := fun x0 x1 x2 x3 r => HT.out.end_ (x0 := x0) (x1 := x1) (x2 := x2) (x3 := x3) (rest := r) hp (dA.leaf (lo := w.heap.size + 2) (hi := 0) (4) 0 (0) c.line aC) ah hn1 hn2 fJ
     exact fI
   obtain ⟨vs, hG⟩ := HK.out.K
   have R := hG.row
   clear hG
   go_wp2_with fail
   have E := fun x0 x1 x2 x3 r => HT.out.end_ (x0 := x0) (x1 := x1) (x2 := x2) (x3 := x3) (rest := r) hp (dA.node R.top 16 0 0 c.line aC) ah hn1 hn2 fJ
   exact fI
 rcases bE (c.kind == 15) with k15 | k15
 ·as_aux_lemma =>
   rcases bE ((l.length : Int) == 2) with h15 | h15
   ·as_aux_lemma =>
     have lgs := HK.out.ls
     have lgf := HK.out.lf
     have lgo := HK.out.lo
     have lgt := HK.out.lt
     have lge := HK.out.le
     have co := HK.out.T.b3.cell
     obtain ⟨vs, hG⟩ := HK.out.K
     have HG := lH hG
     have jD := hG.own
     clear hG
     go_wp2_with (first | (refine q9 rfl ?_) | (at_builtin; refine dO rfl _ _ 41 aM 43 _ 6 72 ow Tryz.underlying41 aM aA aA (w.heap.size + 5) _ _ _ aM jD (aB 28 0 0 c.line aC none 0 0) 1 _ aM aM eZ ah ah ?_) | fail)
     intro v' w5 kD hgr5 hat
     obtain ⟨A3', n3', rfl, -⟩ := (Rds.dU kD).shape
     have G5 := HG.out.push (c := (ak.mk 28 0 0 c.line ⟨#[]⟩ [])) (p := p) (World.grownBy.refl wx _) ah ah (kF.leaf 28 0 0 c.line ⟨#[]⟩) kD hgr5 Gs
     have HV := lH (HT.out.own hgr5 hp (fun g e => (jD.lt g e).1))
     have R := G5.row.top.fit av
     clear kD hgr5 hat jD G5 c0 c1 f1 l1
     have c0 := HV.out.b0.cell
     have c1 := HV.out.b1.cell
     have f1 := HV.out.b1.frozen
     have l1 := HV.out.b1.lt
     go_wp2_with fail
     have E := fun x0 x1 x2 x3 r => HV.out.end_ (x0 := x0) (x1 := x1) (x2 := x2) (x3 := x3) (rest := r) hp (dA.node (l := l ++ [ak.mk 28 0 0 c.line aC []]) R 17 0 0 c.line aC) ah hn1 hn2 OG
     exact Jf
   obtain ⟨vs, hG⟩ := HK.out.K
   have R := hG.row
   clear hG
   go_wp2_with fail
   have E := fun x0 x1 x2 x3 r => HT.out.end_ (x0 := x0) (x1 := x1) (x2 := x2) (x3 := x3) (rest := r) hp (dA.node R.top 17 0 0 c.line aC) ah hn1 hn2 fJ
   exact fI
 rcases bE (c.kind == 16) with k16 | k16
 ·as_aux_lemma =>
   have lgs := HK.out.ls
   have lgf := HK.out.lf
   have lgo := HK.out.lo
   have lgt := HK.out.lt
   have lge := HK.out.le
   have co := HK.out.bt.cell
   have fo := HK.out.bt.frozen
   have lo := HK.out.bt.lt
   go_upto_region 74 with fail
   have HU := lH (HT.out.far hp (q := ⟨gt, 0, none⟩) vT (.int i64 18))
   have bo := HK.out.bt.aF 0 (.int i64 18)
   have R := HK.out.hT.set (q := ⟨gt, 0, none⟩) (.inr (nR _)) (.int i64 18)
   clear co fo lo c0 c1 f1 l1
   generalize wx.setCell (aj gt 0) (.int i64 18) = W1 at *
   have co := bo.cell
   have c1 := HU.out.b1.cell
   have f1 := HU.out.b1.frozen
   have l1 := HU.out.b1.lt
   go_wp2_with fail
   have E := fun x0 x1 x2 x3 r => HU.out.end_ (x0 := x0) (x1 := x1) (x2 := x2) (x3 := x3) (rest := r) hp (dA.node (l := [f, s]) R 18 0 0 c.line aC) ah hn1 hn2 fJ
   exact fI
 rcases bE (c.kind == 17) with k17 | k17
 ·as_aux_lemma =>
   have lgs := HK.out.ls
   have lgf := HK.out.lf
   have lgo := HK.out.lo
   have lgt := HK.out.lt
   have lge := HK.out.le
   have cf := HK.out.bf.cell
   have co := HK.out.T.b3.cell
   have cn := HK.out.T.b2.cell
   have R3 : dA (wx.alloc (.cells (gH f.kind f.op f.number f.line f.text Af f.kids.length nf 28 0 0 c.line aC none 0 0 4 0 0 c.line aC none 0 0) 43)) (w.heap.size + 5) (wx.heap.size + 1) [.row 6 3 (flat ak.aG [f, (ak.mk 28 0 0 c.line aC []), (ak.mk 4 0 0 c.line aC [])])] [.slice (some (aj wx.heap.size 0)) 3 3] := dA.lit (hi := wx.heap.size) (e := 43) (dA.cons (HK.out.hF.wide (nR _) ah) (dA.cons (dA.leaf 28 0 0 c.line aC) (dA.one (dA.leaf 4 0 0 c.line aC)))) rfl aA ah ah
   go_upto_region 77 with (first | (refine uT rfl rfl rfl ?_) | fail)
   have hbw : Below wx.heap.size wx ((wx.alloc (.cells (gH f.kind f.op f.number f.line f.text Af f.kids.length nf 28 0 0 c.line aC none 0 0 4 0 0 c.line aC none 0 0) 43)).alloc (.cells (aB 17 0 0 c.line aC (some (aj wx.heap.size 0)) 3 3) 43)) := (bA _ _).alloc av _
   have HV := lH (HT.out.later hp hbw)
   have bt := Blk.newAt (wx.alloc (.cells (gH f.kind f.op f.number f.line f.text Af f.kids.length nf 28 0 0 c.line aC none 0 0 4 0 0 c.line aC none 0 0) 43)) 43 (aB 17 0 0 c.line aC (some (aj wx.heap.size 0)) 3 3) (wx.heap.size + 1) av
   replace R3 := R3.below ((bR _ _).alloc (nR _) (.cells (aB 17 0 0 c.line aC (some (aj wx.heap.size 0)) 3 3) 43)) av
   have hS := HK.out.hS.below hbw ah
   have bs := HK.out.bs.later hbw
   have hz2 : wx.heap.size + 2 ≤ ((wx.alloc (.cells (gH f.kind f.op f.number f.line f.text Af f.kids.length nf 28 0 0 c.line aC none 0 0 4 0 0 c.line aC none 0 0) 43)).alloc (.cells (aB 17 0 0 c.line aC (some (aj wx.heap.size 0)) 3 3) 43)).heap.size := av
   clear cf co cn c0 c1 f1 l1 hbw
   generalize (wx.alloc (.cells (gH f.kind f.op f.number f.line f.text Af f.kids.length nf 28 0 0 c.line aC none 0 0 4 0 0 c.line aC none 0 0) 43)).alloc (.cells (aB 17 0 0 c.line aC (some (aj wx.heap.size 0)) 3 3) 43) = W2 at *
   have ct := bt.cell
   have cs := bs.cell
   have c0 := HV.out.b0.cell
   have R : dA (W2.alloc (.cells (fZ 17 0 0 c.line aC (some (aj wx.heap.size 0)) 3 3 s.kind s.op s.number s.line s.text As s.kids.length ns) 43)) (w.heap.size + 5) (W2.heap.size + 1) [.row 6 2 (flat ak.aG [(ak.mk 17 0 0 c.line aC [f, (ak.mk 28 0 0 c.line aC []), (ak.mk 4 0 0 c.line aC [])]), s])] [.slice (some (aj W2.heap.size 0)) 2 2] := dA.lit (hi := W2.heap.size) (e := 43) (dA.cons (dA.node (l := [f, (ak.mk 28 0 0 c.line aC []), (ak.mk 4 0 0 c.line aC [])]) (R3.wide (nR _) ah) 17 0 0 c.line aC) (dA.one (hS.wide (nR _) ah))) rfl aA ah ah
   have HU := lH (HV.out.later hp (wy := W2.alloc (.cells (fZ 17 0 0 c.line aC (some (aj wx.heap.size 0)) 3 3 s.kind s.op s.number s.line s.text As s.kids.length ns) 43)) (bA _ _))
   have c1 := HU.out.b1.cell
   have f1 := HU.out.b1.frozen
   go_wp2_with (first | (refine pF rfl rfl ?_) | fail)
   have E := fun x0 x1 x2 x3 r => HU.out.end_ (x0 := x0) (x1 := x1) (x2 := x2) (x3 := x3) (rest := r) hp (dA.node (l := [(ak.mk 17 0 0 c.line aC [f, (ak.mk 28 0 0 c.line aC []), (ak.mk 4 0 0 c.line aC [])]), s]) R 18 0 0 c.line aC) ah hn1 hn2 fJ
   exact fI
 rcases bE (c.kind == 18) with k18 | k18
 ·as_aux_lemma =>
   have lgs := HK.out.ls
   have lgf := HK.out.lf
   have lgo := HK.out.lo
   have lgt := HK.out.lt
   have lge := HK.out.le
   have co := HK.out.bt.cell
   have fo := HK.out.bt.frozen
   have lo := HK.out.bt.lt
   go_upto_region 80 with fail
   have HU := lH (HT.out.far hp (q := ⟨gt, 0, none⟩) vT (.int i64 19))
   have bo := HK.out.bt.aF 0 (.int i64 19)
   have R := HK.out.hT.set (q := ⟨gt, 0, none⟩) (.inr (nR _)) (.int i64 19)
   clear co fo lo c0 c1 f1 l1
   generalize wx.setCell (aj gt 0) (.int i64 19) = W1 at *
   have co := bo.cell
   have c1 := HU.out.b1.cell
   have f1 := HU.out.b1.frozen
   have l1 := HU.out.b1.lt
   go_wp2_with fail
   have E := fun x0 x1 x2 x3 r => HU.out.end_ (x0 := x0) (x1 := x1) (x2 := x2) (x3 := x3) (rest := r) hp (dA.node (l := [f, s]) R 19 0 0 c.line aC) ah hn1 hn2 fJ
   exact fI
 rcases bE (c.kind == 19) with k19 | k19
 ·as_aux_lemma =>
   have lgs := HK.out.ls
   have lgf := HK.out.lf
   have lgo := HK.out.lo
   have lgt := HK.out.lt
   have lge := HK.out.le
   have cn := HK.out.T.b2.cell
   have cf := HK.out.bf.cell
   have R : dA (wx.alloc (.cells (fZ 4 0 0 c.line aC none 0 0 f.kind f.op f.number f.line f.text Af f.kids.length nf) 43)) (w.heap.size + 5) (wx.heap.size + 1) [.row 6 2 (flat ak.aG [(ak.mk 4 0 0 c.line aC []), f])] [.slice (some (aj wx.heap.size 0)) 2 2] := dA.lit (hi := wx.heap.size) (e := 43) (dA.cons (dA.leaf 4 0 0 c.line aC) (dA.one (HK.out.hF.wide (nR _) ah))) rfl aA ah ah
   have HU := lH (HT.out.later hp (wy := wx.alloc (.cells (fZ 4 0 0 c.line aC none 0 0 f.kind f.op f.number f.line f.text Af f.kids.length nf) 43)) (bA _ _))
   clear c1 f1 l1
   have c1 := HU.out.b1.cell
   have f1 := HU.out.b1.frozen
   go_wp2_with (first | (refine pF rfl rfl ?_) | fail)
   have E := fun x0 x1 x2 x3 r => HU.out.end_ (x0 := x0) (x1 := x1) (x2 := x2) (x3 := x3) (rest := r) hp (dA.node (l := [(ak.mk 4 0 0 c.line aC []), f]) R 18 0 0 c.line aC) ah hn1 hn2 fJ
   exact fI
 exact HC.out k9 k10 k11 k12 k13 k14 k15 k16 k17 k18 k19
end
section
open Go.RowKit
theorem Lm (c : cB) : kQ (dN c) = true := by
 have h0 : ∀ x ∈ eP c 128, x < 128 := fun x hx => by
  unfold eP at hx
  exact List.mem_range.1 (List.mem_filter.1 hx).1
 have ha : ∀ x ∈ numsOf (dN c), x < 256 := fun x hx => by
  obtain ⟨i, hi, e⟩ := (xG _ x).1 hx
  rw [← e]; unfold cZ; exact UInt8.toNat_lt _
 have h1 : numsOf (dN c) = eP c 128 := KH ha (fun x hx => by have := h0 x hx; omega) (by rw [Dc]; rfl)
 have hr := rF c 128
 rw [← h1] at hr h0
 have get : ∀ j, (hj : j < (dN c).size) → ∃ h : j < (numsOf (dN c)).length, (numsOf (dN c))[j] = cZ (dN c) j := fun j hj => by
  have h : j < (numsOf (dN c)).length := by rw [kR]; exact hj
  have g := mF (dN c) j
  rw [if_pos hj, gE h] at g
  exact ⟨h, Option.some.inj g⟩
 refine xE fun j hj => ?_
 obtain ⟨h2, e2⟩ := get j hj
 unfold kC
 have h3 : cZ (dN c) j < 128 := e2 ▸ h0 _ (List.getElem_mem h2)
 rw [dT (show cZ (dN c) j ≤ 127 by omega)]
 by_cases hj0 : j = 0
 ·simp [hj0]
 obtain ⟨h4, e4⟩ := get (j - 1) ah
 have := List.pairwise_iff_getElem.1 hr (j - 1) j h4 h2 ah
 rw [e2, e4] at this
 simp [this]
theorem Qw (c : ak) : c.with c.kids = c := by cases c; rfl
theorem oC (c : ak) (l : List ak) : (c.with l).kids = l := rfl
theorem qd (n : Nat) : ∀ (l : List ak) (i : Nat), ∀ x ∈ fF n i l, x ∈ l
 | [], i, x, hx => by simp [fF] at hx
 | y :: l, i, x, hx => by
   rw [fF] at hx
   split at hx
   ·rcases mC hx with rfl | hx
    ·exact List.mem_cons_self
    exact List.mem_cons_of_mem _ (qd n l _ x hx)
   exact List.mem_cons_of_mem _ (qd n l _ x hx)
theorem AA (n : Nat) : ∀ (l : List ak) (i : Nat), (fF n i l).length ≤ l.length
 | [], i => by simp [fF]
 | y :: l, i => by
   have := AA n l (i + 1)
   rw [fF]
   split <;> simp <;> omega
theorem FQ (n : Nat) : ∀ (l : List ak) (i : Nat), n = i + l.length → 0 < l.length → 0 < (fF n i l).length
 | [], i, _, h => by simp at h
 | y :: l, i, hn, _ => by
   rw [fF]
   split
   ·simp
   rename_i hk
   simp only [List.length_cons] at hn
   rcases Nat.eq_zero_or_pos l.length with h0 | h0
   ·exact absurd (by unfold rR; rw [dT ah]; rfl) hk
   exact FQ n l (i + 1) ah h0
theorem uV (n : Nat) : ∀ (l : List ak) (i j n' : Nat), n = i + l.length → n' = j + (fF n i l).length → fF n' j (fF n i l) = fF n i l
 | [], i, j, n', _, _ => by simp [fF]
 | y :: l, i, j, n', hn, hn' => by
   simp only [List.length_cons] at hn
   rw [fF] at hn' ⊢
   split at hn'
   ·rename_i hk
    rw [if_pos hk]
    simp only [List.length_cons] at hn'
    have hk' : rR n' j y = true := by
     unfold rR at hk ⊢
     rw [Bool.or_eq_true] at hk ⊢
     rcases hk with hk | hk
     ·have h0 : l.length = 0 := by have := of_decide_eq_true hk; omega
      have := AA n l (i + 1)
      exact .inl (dT ah)
     exact .inr hk
    rw [fF, if_pos hk', uV n l (i + 1) (j + 1) n' ah ah]
   rename_i hk
   rw [if_neg hk]
   exact uV n l (i + 1) j n' ah hn'
theorem qG (c : ak) (hl : ∀ x ∈ c.kids, zq x) : eH c = c ∨ ((c.kind = 13 ∨ c.kind = 16 ∨ c.kind = 17) ∧ eH c ∈ c.kids) ∨ (∃ v : aY, v.Ok ∧ eH c = jF c.line v) ∨ eH c = jM 28 0 c.line aC ∨
 (c.kind = 16 ∧ eH c = c.with (fF c.kids.length 0 c.kids) ∧ ∀ x, fF c.kids.length 0 c.kids ≠ [x]) := by
 unfold eH
 split
 ·unfold lG
  split
  ·split
   ·exact .inr (.inr (.inr (.inl rfl)))
   split
   ·exact .inr (.inr (.inl ⟨_, R5 hl, rfl⟩))
   exact .inl rfl
  exact .inl rfl
 split
 ·next hk =>
  unfold tQ
  split
  ·next a b h =>
   split
   ·exact .inr (.inl ⟨.inl hk, by rw [h]; simp⟩)
   split
   ·exact .inr (.inl ⟨.inl hk, by rw [h]; simp⟩)
   exact .inl rfl
  exact .inl rfl
 split
 ·next hk =>
  unfold iL
  split
  ·next x h => exact .inr (.inl ⟨.inr (.inl hk), qd _ _ _ _ pV⟩)
  next h => exact .inr (.inr (.inr (.inr ⟨hk, rfl, h⟩)))
 split
 ·next hk =>
  unfold xN
  split
  ·next a b d h =>
   split
   ·exact .inr (.inl ⟨.inr (.inr hk), by rw [h]; simp⟩)
   split
   ·exact .inr (.inl ⟨.inr (.inr hk), by rw [h]; simp⟩)
   exact .inl rfl
  exact .inl rfl
 exact .inl rfl
theorem FR (k n l : Int) (t : ByteArray) (h : k = 1 ∨ k = 2 ∨ k = 3 ∨ k = 4 ∨ k = 28) : aX (jM k n l t) = jM k n l t := by
 rw [pE]
 show eH (jM k n l t) = _
 unfold eH
 have : (jM k n l t).kind = k := rfl
 rw [this, if_neg ah, if_neg ah, if_neg ah, if_neg ah]
theorem Lp (l : Int) (v : aY) : aX (jF l v) = jF l v := by
 cases v <;> exact FR _ _ _ _ ah
theorem Qx {l : List ak} (h : ∀ x ∈ l, aX x = x) : l.map aX = l := by
 induction l with
 | nil => rfl
 | cons a l ih => rw [List.map_cons, h a List.mem_cons_self, ih fun x hx => h x (List.mem_cons_of_mem _ hx)]
theorem xR {c : ak} (h : ∀ x ∈ c.kids, aX x = x) : aX c = eH c := by rw [pE, Qx h, Qw]
theorem DZ {c : ak} (hl : ∀ x ∈ c.kids, zq x) (h : ∀ x ∈ c.kids, aX x = x) : aX (eH c) = eH c := by
 rcases qG c hl with e | ⟨-, e⟩ | ⟨v, -, e⟩ | e | ⟨hk, e, hn⟩
 ·rw [e, xR h, e]
 ·exact h _ e
 ·rw [e]; exact Lp _ _
 ·rw [e]; exact FR _ _ _ _ ah
 rw [e]
 have hm : ∀ x ∈ (c.with (fF c.kids.length 0 c.kids)).kids, aX x = x := fun x hx => h x (qd _ _ _ x hx)
 rw [xR hm]
 have hkd : (c.with (fF c.kids.length 0 c.kids)).kind = 16 := hk
 unfold eH
 rw [hkd, if_neg aA, if_neg aA, if_pos rfl]
 unfold iL
 rw [oC, uV _ _ 0 0 _ ah ah]
 split
 ·next x hx => exact absurd hx (hn x)
 rfl
theorem M6 {c : ak} (h : kg c) : aX (aX c) = aX c := by
 refine ak.ind (P := fun c => kg c → aX (aX c) = aX c) (fun c ih h => ?_) c h
 rw [pE c]
 refine DZ (c := c.with (c.kids.map aX)) (fun x hx => ?_) fun x hx => ?_
 ·obtain ⟨y, hy, rfl⟩ := List.mem_map.1 hx
  exact wE (h.kids y hy)
 obtain ⟨y, hy, rfl⟩ := List.mem_map.1 hx
 exact ih y hy (h.kids y hy)
theorem qH {d : WdT} {k n l : Int} {t : ByteArray} {lp cr : Bool} (hk : k = 1 ∨ k = 2 ∨ k = 3 ∨ k = 4 ∨ k = 28) (hl : 0 ≤ l) (hn : if k = 1 then -999999999999 ≤ n ∧ n ≤ 999999999999 else n = 0) (ht : j4 (jM k n l t) = true) : dW d (jM k n l t) lp cr = true := by
 refine (fV _ _ _ _).2 ⟨?_, fun j x hx => by simp [jM, ak.kids] at hx⟩
 have e1 : iT (jM k n l t) = true := by
  have h1 : dw k 0 = 0 := (rX ah).1
  have h2 : dx k 0 = 0 := (rX ah).2
  have g : iT (jM k n l t) = (decide (1 ≤ k) && decide (k ≤ 28) && decide (0 ≤ l) && decide (dw k 0 ≤ ((0 : Nat) : Int)) && decide (((0 : Nat) : Int) ≤ dx k 0) && (decide (k = 11) || decide ((0 : Int) = 0))) := rfl
  rw [g, h1, h2, dT (show (1 : Int) ≤ k by omega), dT (show k ≤ 28 by omega), dT hl]
  simp
 have e2 : fD d k n = true := by
  unfold fD
  split
  ·rename_i h1
   rw [if_pos h1] at hn
   simp only [inB, Bool.and_eq_true, decide_eq_true_eq]
   exact hn
  rename_i h1
  rw [if_neg h1] at hn
  rw [if_neg ah, if_neg ah, if_neg ah, if_neg ah, if_neg ah, if_neg ah]
  exact dT hn
 have e3 : gF (jM k n l t) lp cr = true := by
  have h1 : ¬ ((jM k n l t).kind = 20 ∨ (jM k n l t).kind = 21) := by show ¬ (k = 20 ∨ k = 21); omega
  have h2 : ¬ (23 ≤ (jM k n l t).kind ∧ (jM k n l t).kind ≤ 25) := by show ¬ (23 ≤ k ∧ k ≤ 25); omega
  unfold gF
  rw [dF h1, dF h2]
  rfl
 have e4 : bL (jM k n l t) = true := by
  have h1 : ¬ (jM k n l t).op = 79 := by show ¬ (0 : Int) = 79; decide
  have h2 : ¬ (jM k n l t).op = 81 := by show ¬ (0 : Int) = 81; decide
  unfold bL
  rw [dF h1, dF h2]
  rfl
 unfold iI
 rw [e1, show fD d (jM k n l t).kind (jM k n l t).number = true from e2, ht, e3, e4]
 rfl
theorem Hz {d : WdT} {l : Int} {v : aY} {lp cr : Bool} (hv : v.Ok) (hl : 0 ≤ l) : dW d (jF l v) lp cr = true := by
 cases v with
 | null => exact qH ah hl av aM
 | int n => exact qH ah hl (by rw [if_pos rfl]; exact hv) aM
 | text s => exact qH ah hl av (dT hv)
 | set c => exact qH ah hl av (Lm c)
theorem M7 {d : WdT} {c : ak} {lp cr : Bool} (h : dW d c lp cr = true) (hl : ∀ x ∈ c.kids, zq x) : dW d (eH c) lp cr = true := by
 obtain ⟨hn, hk⟩ := (fV d c lp cr).1 h
 have U0 : 0 ≤ c.line := by
  unfold iI iT at hn
  simp only [Bool.and_eq_true, decide_eq_true_eq] at hn
  omega
 rcases qG c hl with e | ⟨hkd, e⟩ | ⟨v, hv, e⟩ | e | ⟨hkd, e, hne⟩
 ·rw [e]; exact h
 ·obtain ⟨j, hj⟩ := List.getElem?_of_mem e
  have := hk j _ hj
  rw [show fH c.kind j lp = lp by unfold fH; rw [if_neg ah, if_neg ah], dF (show ¬ c.kind = 26 by omega), Bool.or_false] at this
  exact this
 ·rw [e]; exact Hz hv U0
 ·rw [e]; exact qH ah U0 av aM
 rw [e]
 have hin : ∀ j, fH 16 j lp = lp := fun j => by unfold fH; rw [if_neg ah, if_neg ah]
 refine (fV _ _ _ _).2 ⟨?_, fun j x hx => ?_⟩
 ·unfold iI iT at hn ⊢
  have h1 := AA c.kids.length c.kids 0
  have h2 := FQ c.kids.length c.kids 0 ah
  have e1 : (c.with (fF c.kids.length 0 c.kids)).kids.length = (fF c.kids.length 0 c.kids).length := rfl
  have e2 : dw c.kind c.op = 1 ∧ dx c.kind c.op = 24 := GM hkd
  have e3 : j4 (c.with (fF c.kids.length 0 c.kids)) = j4 c := rfl
  have e4 : gF (c.with (fF c.kids.length 0 c.kids)) lp cr = gF c lp cr := rfl
  simp only [Bool.and_eq_true, decide_eq_true_eq, e2.1, e2.2] at hn
  obtain ⟨⟨⟨⟨⟨⟨⟨⟨⟨g1, g2⟩, g3⟩, g4⟩, g5⟩, g6⟩, g7⟩, g8⟩, g9⟩, g10⟩ := hn
  have hop : c.op = 0 := by
   simp only [Bool.or_eq_true, decide_eq_true_eq] at g6; omega
  have e5 : bL (c.with (fF c.kids.length 0 c.kids)) = true := by
   have o1 : ¬ (c.with (fF c.kids.length 0 c.kids)).op = 79 := by show ¬ c.op = 79; omega
   have o2 : ¬ (c.with (fF c.kids.length 0 c.kids)).op = 81 := by show ¬ c.op = 81; omega
   unfold bL
   rw [dF o1, dF o2]; rfl
  rw [e3, e4, e5, show fD d (c.with (fF c.kids.length 0 c.kids)).kind (c.with (fF c.kids.length 0 c.kids)).number = fD d c.kind c.number from rfl, g7, g8, g9]
  show (decide (1 ≤ c.kind) && decide (c.kind ≤ 28) && decide (0 ≤ c.line) && decide (dw c.kind c.op ≤ ((fF c.kids.length 0 c.kids).length : Int)) && decide (((fF c.kids.length 0 c.kids).length : Int) ≤ dx c.kind c.op) && (decide (c.kind = 11) || decide (c.op = 0)) && true && true && true && true) = true
  rw [e2.1, e2.2]
  simp only [Bool.and_eq_true, decide_eq_true_eq, g6]
  simp only [and_true]
  omega
 have hx' := mG hx
 obtain ⟨i, hi⟩ := List.getElem?_of_mem (qd _ _ _ x hx')
 have := hk i x hi
 show dW d x (fH c.kind j lp) (cr || decide (c.kind = 26)) = true
 rw [hkd, hin] at this ⊢
 exact this
theorem M8 {d : WdT} {c : ak} {lp cr : Bool} (h : dW d c lp cr = true) (hk : c.kind = 2 ∨ c.kind = 5 ∨ c.kind = 6) : aX c = c := by
 obtain ⟨hn, -⟩ := (fV d c lp cr).1 h
 unfold iI iT at hn
 simp only [Bool.and_eq_true, decide_eq_true_eq, (rX (k := c.kind) (op := c.op) ah).2] at hn
 have h0 : c.kids = [] := List.eq_nil_of_length_eq_zero ah
 rw [xR (by rw [h0]; simp)]
 unfold eH
 rw [if_neg ah, if_neg ah, if_neg ah, if_neg ah]
theorem D3 {d : WdT} {l : List ak} {lp cr : Nat → Bool} (h : ∀ (j : Nat) (x : ak), l[j]? = some x → ∃ a b, dW d x a b = true) (i : Nat) (hk : (l.getD i Au).kind = 2 ∨ (l.getD i Au).kind = 5 ∨ (l.getD i Au).kind = 6) : (l.map aX).getD i Au = l.getD i Au := by
 cases hx : l[i]? with
 | none => simp [List.getD, List.getElem?_map, hx]
 | some x =>
   have e : l.getD i Au = x := by simp [List.getD, hx]
   rw [e] at hk ⊢
   obtain ⟨a, b, hv⟩ := h i x hx
   have := M8 hv hk
   simp [List.getD, List.getElem?_map, hx, this]
theorem D4 {d : WdT} (c : ak) : ∀ lp cr, dW d c lp cr = true → dW d (aX c) lp cr = true := by
 refine ak.ind (P := fun c => ∀ lp cr, dW d c lp cr = true → dW d (aX c) lp cr = true) (fun c ih lp cr h => ?_) c
 have hf := DW c lp cr h
 obtain ⟨hn, hk⟩ := (fV d c lp cr).1 h
 rw [pE]
 refine M7 ((fV _ _ _ _).2 ⟨?_, fun j x hx => ?_⟩) fun x hx => ?_
 ·unfold iI at hn ⊢
  simp only [Bool.and_eq_true] at hn ⊢
  obtain ⟨⟨⟨⟨h1, h2⟩, h3⟩, h4⟩, h5⟩ := hn
  refine ⟨⟨⟨⟨?_, h2⟩, h3⟩, h4⟩, ?_⟩
  ·unfold iT at h1 ⊢
   rw [show (c.with (c.kids.map aX)).kids.length = c.kids.length by rw [oC, List.length_map]]
   exact h1
  have hkd : ∀ j x, c.kids[j]? = some x → ∃ a b, dW d x a b = true := fun j x hx => ⟨_, _, hk j x hx⟩
  unfold bL at h5 ⊢
  rw [oC]
  simp only [Bool.and_eq_true, Bool.not_eq_true', Bool.and_eq_false_iff] at h5 ⊢
  refine ⟨?_, ?_⟩
  ·rcases h5.1 with h | h
   ·exact .inl h
   right
   have h6 : (c.kids.getD 1 Au).kind = 2 := by
    simp only [Bool.not_eq_false', Bool.and_eq_true, decide_eq_true_eq] at h; exact h.1
   rw [D3 (lp := fun _ => false) (cr := fun _ => false) hkd 1 (.inl h6)]
   exact h
  rcases h5.2 with h | h
  ·exact .inl h
  right
  have h6 : (c.kids.getD 0 Au).kind = 5 ∨ (c.kids.getD 0 Au).kind = 6 := by
   simp only [Bool.not_eq_false', decide_eq_true_eq] at h; exact h
  rw [D3 (lp := fun _ => false) (cr := fun _ => false) hkd 0 (.inr h6)]
  exact h
 ·rw [oC, List.getElem?_map] at hx
  cases hy : c.kids[j]? with
  | none => rw [hy] at hx; cases hx
  | some y =>
    rw [hy] at hx
    injection hx with hx
    subst hx
    exact ih y (mG hy) _ _ (hk j y hy)
 rw [oC] at hx
 obtain ⟨y, hy, rfl⟩ := List.mem_map.1 hx
 exact wE (hf.kids y hy)
theorem sD {l : List ak} {n : Nat} : gI l ≤ n ↔ ∀ x ∈ l, x.depth ≤ n := by
 induction l with
 | nil => simp [gI]
 | cons a l ih => simp only [gI, List.mem_cons, forall_eq_or_imp, ← ih]; omega
theorem oD (c : ak) : c.depth = gI c.kids + 1 := by cases c; simp only [ak.depth, ak.kids]
theorem D5 (c : ak) (hl : ∀ x ∈ c.kids, zq x) : (eH c).depth ≤ c.depth := by
 have h1 : 1 ≤ c.depth := by rw [oD]; omega
 have aec : ∀ x ∈ c.kids, x.depth ≤ c.depth := fun x hx => by
  have := (sD (n := gI c.kids)).1 (nR _) x hx
  rw [oD c]; omega
 have hlf : ∀ k n l t, (jM k n l t).depth ≤ c.depth := fun k n l t => by rw [oD]; exact h1
 rcases qG c hl with e | ⟨-, e⟩ | ⟨v, -, e⟩ | e | ⟨-, e, -⟩
 ·rw [e]; exact nR _
 ·exact aec _ e
 ·rw [e]; cases v <;> exact hlf _ _ _ _
 ·rw [e]; exact hlf _ _ _ _
 rw [e, oD, oD, oC]
 have := (sD (l := fF c.kids.length 0 c.kids) (n := gI c.kids)).2 fun x hx => (sD (n := gI c.kids)).1 (nR _) x (qd _ _ _ x hx)
 omega
theorem M9 {c : ak} (h : kg c) : (aX c).depth ≤ c.depth := by
 refine ak.ind (P := fun c => kg c → (aX c).depth ≤ c.depth) (fun c ih h => ?_) c h
 rw [pE c]
 refine nT (D5 _ fun x hx => ?_) ?_
 ·obtain ⟨y, hy, rfl⟩ := List.mem_map.1 hx
  exact wE (h.kids y hy)
 rw [oD, oD c, oC]
 have : gI (c.kids.map aX) ≤ gI c.kids := sD.2 fun x hx => by
  obtain ⟨y, hy, rfl⟩ := List.mem_map.1 hx
  exact nT (ih y hy (h.kids y hy)) ((sD (n := gI c.kids)).1 (nR _) y hy)
 omega
theorem FT {p : bg} {r : bO} {rs : List bO} (hlen : rs.length = p.au.length) (h : jv p r = true) : jv ⟨rs, p.records, p.globals, p.main⟩ (jC r) = true ∧ kg r.body := by
 unfold jv at h ⊢
 simp only [Bool.and_eq_true, decide_eq_true_eq] at h
 obtain ⟨⟨⟨⟨⟨⟨h1, h2⟩, h3⟩, h4⟩, h5⟩, h6⟩, h7⟩ := h
 have hf := DW r.body _ _ h7
 refine ⟨?_, hf⟩
 have hd : lQ ⟨rs, p.records, p.globals, p.main⟩ (jC r) = lQ p r := by
  unfold lQ jC
  simp only [hlen]
 rw [hd]
 have h8 := D4 r.body _ _ h7
 have h9 := M9 hf
 simp only [Bool.and_eq_true, decide_eq_true_eq]
 exact ⟨⟨⟨⟨⟨⟨h1, h2⟩, h3⟩, h4⟩, h5⟩, nT h9 h6⟩, h8⟩
theorem qg {p : bg} (h : aS p = true) : qF p = ⟨p.au.map jC, p.records, p.globals, p.main⟩ := by unfold qF; rw [if_pos h]
theorem Lr (l : List bO) : sumOf fK (l.map jC) ≤ sumOf fK l := by
 induction l with
 | nil => exact nR _
 | cons r l ih =>
   have h := xQ r.body
   simp only [List.map_cons, sumOf, fK] at *
   show (aX r.body).nodes + _ ≤ _
   omega
theorem rz {p : bg} (h : aS p = true) : aS (qF p) = true := by
 have h0 := h
 rw [qg h]
 unfold aS at h ⊢
 simp only [Bool.and_eq_true, decide_eq_true_eq, List.all_eq_true] at h ⊢
 obtain ⟨⟨⟨h1, h2⟩, h3⟩, h4⟩ := h
 refine ⟨⟨⟨?_, ?_⟩, fun r hr => ?_⟩, nT (Lr _) h4⟩
 ·unfold jR at h1 ⊢
  simp only [List.length_map]
  exact h1
 ·unfold lW at h2 ⊢
  simp only [List.length_map, List.getElem?_map]
  cases hm : p.au[p.main.toNat]? with
  | none => rw [hm] at h2; exact h2
  | some r => rw [hm] at h2; exact h2
 obtain ⟨x, hx, rfl⟩ := List.mem_map.1 hr
 exact (FT (by rw [List.length_map]) (h3 x hx)).1
theorem Ls {p : bg} (h : aS p = true) : (qF (qF p)).au = (qF p).au := by
 rw [qg (rz h), qg h]
 show (p.au.map jC).map jC = p.au.map jC
 rw [List.map_map]
 refine List.map_congr_left fun r hr => ?_
 have h0 := h
 unfold aS at h0
 simp only [Bool.and_eq_true, List.all_eq_true] at h0
 have hf := (FT (rs := p.au) rfl (h0.1.2 r hr)).2
 show jC (jC r) = jC r
 unfold jC
 show ({ r with body := aX (aX r.body) } : bO) = _
 rw [M6 hf]
end
end Go.Proofs.YthbcamfejgghhaaGreatDoor
