/- The xO switch, a way a kind: kinds 1 to 8. The names that an expression brings in. -/
import Derived.Test.YthbcamfejgghhaaGreatDoorQ22
set_option maxRecDepth 100000
set_option maxHeartbeats 64000000
set_option linter.unusedVariables false
set_option linter.unusedSimpArgs false
namespace Go.Proofs.YthbcamfejgghhaaGreatDoor
open Go.IntKind (i64)
section
open Go Go.RowKit
theorem VE (u : fE) (A1 A2 A3 : Option Addr) (n1 n2 n3 lo hi p : Nat) (lc : List ByteArray) (Al : Option Addr) (nl : Nat) (c : aH) (A : Option Addr) (n : Nat) (w wx : World) (next nx : Int) (l : List ak) (A' : Option Addr) (n' : Nat) (f s : ak) (Af As : Option Addr) (nf ns gs gf go gt g1 g2 : Nat) (hp : p < w.heap.size) (hn1 : next ≤ nx) (hn2 : nx ≤ next + c.nodes) (HU : Hid (dZ w lo hi fE.aG (.agg (aQ A1 u.records.length n1 A2 u.globals.length n2 A3 u.procedures.length n3)) u)) (HL : Hid (aW w lo hi 1 aR (.slice Al lc.length nl) lc)) (hhp : hi ≤ p) (HOK : Hid c.Ok) (HK : Hid (Qn w p c A n next (gT A1 u.records.length n1 A2 u.globals.length n2 A3 u.procedures.length n3 Al lc.length nl nx) wx l (.slice A' l.length n') f s Af As nf ns gs gf go gt g1 g2)) (s9 : Value) (a : Act) (hF : Dt (.pointer (some (aj p 0))) (.pointer (some (aj w.heap.size 0))) (.pointer (some (aj (w.heap.size + 1) 0))) (.pointer (some (aj (w.heap.size + 1 + 1) 0))) (.pointer (some (aj (w.heap.size + 1 + 1 + 1) 0))) (.pointer (some (aj (w.heap.size + 4) 0))) (.slice A' l.length n') s9 (.pointer (some (aj gs 0))) (.pointer (some (aj gf 0))) (.pointer (some (aj go 0))) (.pointer (some (aj gt 0))) a) (hC : (c.kind == 1) = false → (c.kind == 2) = false → (c.kind == 3) = false → (c.kind == 4) = false → (c.kind == 5) = false → (c.kind == 6) = false → (c.kind == 7) = false → (c.kind == 8) = false → Code.wp Tryz.prog (lD 19) (bodyPost Tryz.prog Tryz.f130 (wP p (jf A1 u.records.length n1 A2 u.globals.length n2 A3 u.procedures.length n3 Al lc.length nl) next c w)) a wx) : Code.wp Tryz.prog (lD 19) (bodyPost Tryz.prog Tryz.f130 (wP p (jf A1 u.records.length n1 A2 u.globals.length n2 A3 u.procedures.length n3 Al lc.length nl) next c w)) a wx := by
 have HC := lH hC
 clear hC
 cases hF
 conv => arg 2; whnf
 have HT : Hid (kG w p c A n next (Array.push (jf A1 u.records.length n1 A2 u.globals.length n2 A3 u.procedures.length n3 Al lc.length nl) (.int i64 nx)) wx) := HK.out.T
 have c0 := HK.out.T.b0.cell
 have c1 := HK.out.T.b1.cell
 have f1 := HK.out.T.b1.frozen
 have l1 := HK.out.T.b1.lt
 have hBk : 2000000 + eT l ≤ 2000000 * c.nodes := by have h1 := c.eG; have h2 := HK.out.bk; omega
 have hfs := HK.out.fs
 have hln : l.length ≤ c.kids.length := by have := HK.out.len; omega
 have hkk := HOK.out.len
 have hkl : 2000000 + 1000000 * c.kids.length + eT l ≤ 4000000 * c.nodes := by have h1 := c.eG; have h2 := HK.out.bk; have h3 := tN c.kids; omega
 have htx := HOK.out.text
 have ht0 : ByteArray.size aC ≤ 0 := nR _
 rcases bE (c.kind == 1) with k1 | k1
 ·as_aux_lemma =>
   go_wp2_with fail
   have E := fun x0 x1 x2 x3 r => HT.out.end_ (x0 := x0) (x1 := x1) (x2 := x2) (x3 := x3) (rest := r) hp (dA.leaf (lo := w.heap.size + 2) (hi := 0) (1) 0 (c.number) c.line aC) ah hn1 hn2 fJ
   exact fI
 rcases bE (c.kind == 2) with k2 | k2
 ·exact JV
 rcases bE (c.kind == 3) with k3 | k3
 ·exact JV
 rcases bE (c.kind == 4) with k4 | k4
 ·as_aux_lemma =>
   go_upto_region 26 with fail
   refine jm 14 (fun w' => (∀ i, w'.cell? (aj w.heap.size i) = (ay c.kind c.text c.number c.line A c.kids.length n : Array Value)[i]?) ∧ (∀ i, w'.cell? (aj p i) = (gT A1 u.records.length n1 A2 u.globals.length n2 A3 u.procedures.length n3 Al lc.length nl nx : Array Value)[i]?)) 13 ?_
   have HD := lH (HT.out.later hp ((Same.refl wx).drew.below _))
   clear c0 c1 f1 l1
   generalize wx.drew = Wd at *
   have cT := HD.out.b0.cell
   have cP := HD.out.bp.cell
   have HUd := lH (HU.out.grown HD.out.gr ah qP)
   have HLd := lH (HL.out.grown HD.out.gr ah qP)
   have wN := HD.out.sz
   refine tkB 0 ⟨cT, cP⟩ ?_
   refine tkB 1 ⟨cT, cP⟩ ?_
   refine tkB 2 ⟨cT, cP⟩ ?_
   refine tkB 3 ⟨cT, cP⟩ ?_
   refine tkB 4 ⟨cT, cP⟩ ?_
   refine tkB 5 ⟨cT, cP⟩ ?_
   refine tkB 6 ⟨cT, cP⟩ ?_
   refine tkB 7 ⟨cT, cP⟩ ?_
   refine tkB 8 ⟨cT, cP⟩ ?_
   refine tkB 9 ⟨cT, cP⟩ ?_
   refine tkB 10 ⟨cT, cP⟩ ?_
   refine tkB 11 ⟨cT, cP⟩ ?_
   refine rdA 12 (fun K hK => ?_)
   go_simp
   go_at_call 171
   refine (zi u A1 A2 A3 n1 n2 n3 lo hi lc Al nl _ _ _ HUd.out HLd.out ah).mono ?_
   rintro e w1 ⟨k, m, t, rfl, ht, hb⟩
   have HV := lH (HD.out.later hp hb)
   clear hb cT cP HUd HLd wN
   have cT := HV.out.b0.cell
   have cP := HV.out.bp.cell
   refine fM hK ⟨cT, cP⟩ ?_
   clear hK K
   refine rdA 13 (fun K hK => ?_)
   have c1 := HV.out.b1.cell
   have f1 := HV.out.b1.frozen
   have l1 := HV.out.b1.lt
   go_simp
   refine rE hK ?_
   clear hK K
   refine bY aI ?_ _
   go_wp2_with fail
   have E := fun x0 x1 x2 x3 r => HV.out.end_ (x0 := x0) (x1 := x1) (x2 := x2) (x3 := x3) (rest := r) hp (dA.leaf (lo := w.heap.size + 2) (hi := 0) (k) 0 (m) c.line t) ah hn1 hn2 fJ
   exact fI
 rcases bE (c.kind == 5) with k5 | k5
 ·as_aux_lemma =>
   go_wp2_with fail
   refine (Bw _ _ _).mono ?_
   rintro e w1 ⟨k, m, t, rfl, ht, hb⟩
   have HU := lH (HT.out.later hp hb)
   clear hb c0 c1 f1 l1
   have c1 := HU.out.b1.cell
   have f1 := HU.out.b1.frozen
   have l1 := HU.out.b1.lt
   go_wp2_with fail
   have E := fun x0 x1 x2 x3 r => HU.out.end_ (x0 := x0) (x1 := x1) (x2 := x2) (x3 := x3) (rest := r) hp (dA.leaf (lo := w.heap.size + 2) (hi := 0) (k) 0 (m) c.line t) ah hn1 hn2 fJ
   exact fI
 rcases bE (c.kind == 6) with k6 | k6
 ·as_aux_lemma =>
   obtain ⟨vs, hG⟩ := HK.out.K
   have R := hG.row
   clear hG
   go_wp2_with fail
   refine (iY _ _ _ _ _ _).mono ?_
   rintro e w1 ⟨rfl, hb⟩
   have HU := lH (HT.out.later hp hb)
   replace R := R.later hb
   clear hb c0 c1 f1 l1
   have c1 := HU.out.b1.cell
   have f1 := HU.out.b1.frozen
   have l1 := HU.out.b1.lt
   go_wp2_with fail
   have E := fun x0 x1 x2 x3 r => HU.out.end_ (x0 := x0) (x1 := x1) (x2 := x2) (x3 := x3) (rest := r) hp (dA.node R.top 11 74 0 c.line aC) ah hn1 hn2 fJ
   exact fI
 rcases bE (c.kind == 7) with k7 | k7
 ·as_aux_lemma =>
   rcases bE (c.text.toList == [124]) with VF | VF
   ·as_aux_lemma =>
     have lgs := HK.out.ls
     have lgf := HK.out.lf
     have lgo := HK.out.lo
     have lgt := HK.out.lt
     have lge := HK.out.le
     have co := HK.out.bo.cell
     have fo := HK.out.bo.frozen
     have lo := HK.out.bo.lt
     go_upto_region 34 with fail
     have HU := lH (HT.out.far hp (q := ⟨go, 0, none⟩) yR (.int i64 14))
     have bo := HK.out.bo.aF 0 (.int i64 14)
     have R := HK.out.hO.set (q := ⟨go, 0, none⟩) (.inr (nR _)) (.int i64 14)
     clear co fo lo c0 c1 f1 l1
     generalize wx.setCell (aj go 0) (.int i64 14) = W1 at *
     have co := bo.cell
     have c1 := HU.out.b1.cell
     have f1 := HU.out.b1.frozen
     have l1 := HU.out.b1.lt
     go_wp2_with fail
     have E := fun x0 x1 x2 x3 r => HU.out.end_ (x0 := x0) (x1 := x1) (x2 := x2) (x3 := x3) (rest := r) hp (dA.node (l := [f]) R 14 0 0 c.line aC) ah hn1 hn2 fJ
     exact fI
   rcases bE (c.text.toList == [64]) with s64 | s64
   ·as_aux_lemma =>
     have lgs := HK.out.ls
     have lgf := HK.out.lf
     have lgo := HK.out.lo
     have lgt := HK.out.lt
     have lge := HK.out.le
     have co := HK.out.bo.cell
     have fo := HK.out.bo.frozen
     have lo := HK.out.bo.lt
     go_upto_region 37 with fail
     have HU := lH (HT.out.far hp (q := ⟨go, 0, none⟩) yR (.int i64 27))
     have bo := HK.out.bo.aF 0 (.int i64 27)
     have R := HK.out.hO.set (q := ⟨go, 0, none⟩) (.inr (nR _)) (.int i64 27)
     clear co fo lo c0 c1 f1 l1
     generalize wx.setCell (aj go 0) (.int i64 27) = W1 at *
     have co := bo.cell
     have c1 := HU.out.b1.cell
     have f1 := HU.out.b1.frozen
     have l1 := HU.out.b1.lt
     go_wp2_with fail
     have E := fun x0 x1 x2 x3 r => HU.out.end_ (x0 := x0) (x1 := x1) (x2 := x2) (x3 := x3) (rest := r) hp (dA.node (l := [f]) R 27 0 0 c.line aC) ah hn1 hn2 fJ
     exact fI
   go_upto_region 38 with fail
   obtain ⟨vs, hG⟩ := HK.out.K
   have R := hG.row
   clear hG
   refine jm 8 (fun w' => ∀ i, w'.cell? (aj w.heap.size i) = (ay c.kind c.text c.number c.line A c.kids.length n : Array Value)[i]?) 7 ?_
   have HD := lH (HT.out.later hp ((Same.refl wx).drew.below _))
   replace R := R.later ((Same.refl wx).drew.below _)
   clear c0 c1 f1 l1
   generalize wx.drew = Wd at *
   have cT := HD.out.b0.cell
   refine tkB 0 cT ?_
   refine tkB 1 cT ?_
   refine tkB 3 cT ?_
   refine tkB 4 cT ?_
   refine tkB 5 cT ?_
   refine rdA 2 (fun K hK => ?_)
   go_simp
   go_at_call 174
   refine (Ez _ _).mono ?_
   exact JK
 rcases bE (c.kind == 8) with k8 | k8
 ·as_aux_lemma =>
   rcases bE (c.text.toList == [38]) with s38 | s38
   ·as_aux_lemma =>
     exact JM
   rcases bE (c.text.toList == [63]) with s63 | s63
   ·as_aux_lemma =>
     have lgs := HK.out.ls
     have lgf := HK.out.lf
     have lgo := HK.out.lo
     have lgt := HK.out.lt
     have lge := HK.out.le
     have co := HK.out.bt.cell
     have fo := HK.out.bt.frozen
     have lo := HK.out.bt.lt
     go_upto_region 45 with fail
     have HU := lH (HT.out.far hp (q := ⟨gt, 0, none⟩) vT (.int i64 22))
     have bo := HK.out.bt.aF 0 (.int i64 22)
     have R := HK.out.hT.set (q := ⟨gt, 0, none⟩) (.inr (nR _)) (.int i64 22)
     clear co fo lo c0 c1 f1 l1
     generalize wx.setCell (aj gt 0) (.int i64 22) = W1 at *
     have co := bo.cell
     have c1 := HU.out.b1.cell
     have f1 := HU.out.b1.frozen
     have l1 := HU.out.b1.lt
     go_wp2_with fail
     have E := fun x0 x1 x2 x3 r => HU.out.end_ (x0 := x0) (x1 := x1) (x2 := x2) (x3 := x3) (rest := r) hp (dA.node (l := [f, s]) R 22 0 0 c.line aC) ah hn1 hn2 fJ
     exact fI
   rcases bE (c.text.toList == [124]) with VF | VF
   ·as_aux_lemma =>
     have lgs := HK.out.ls
     have lgf := HK.out.lf
     have lgo := HK.out.lo
     have lgt := HK.out.lt
     have lge := HK.out.le
     have co := HK.out.bt.cell
     have fo := HK.out.bt.frozen
     have lo := HK.out.bt.lt
     go_upto_region 48 with fail
     have HU := lH (HT.out.far hp (q := ⟨gt, 0, none⟩) vT (.int i64 13))
     have bo := HK.out.bt.aF 0 (.int i64 13)
     have R := HK.out.hT.set (q := ⟨gt, 0, none⟩) (.inr (nR _)) (.int i64 13)
     clear co fo lo c0 c1 f1 l1
     generalize wx.setCell (aj gt 0) (.int i64 13) = W1 at *
     have co := bo.cell
     have c1 := HU.out.b1.cell
     have f1 := HU.out.b1.frozen
     have l1 := HU.out.b1.lt
     go_wp2_with fail
     have E := fun x0 x1 x2 x3 r => HU.out.end_ (x0 := x0) (x1 := x1) (x2 := x2) (x3 := x3) (rest := r) hp (dA.node (l := [f, s]) R 13 0 0 c.line aC) ah hn1 hn2 fJ
     exact fI
   rcases bE (c.text.toList == [92]) with s92 | s92
   ·as_aux_lemma =>
     have lgs := HK.out.ls
     have lgf := HK.out.lf
     have lgo := HK.out.lo
     have lgt := HK.out.lt
     have lge := HK.out.le
     have co := HK.out.bt.cell
     have fo := HK.out.bt.frozen
     have lo := HK.out.bt.lt
     go_upto_region 51 with fail
     have HU := lH (HT.out.far hp (q := ⟨gt, 0, none⟩) vT (.int i64 15))
     have bo := HK.out.bt.aF 0 (.int i64 15)
     have R := HK.out.hT.set (q := ⟨gt, 0, none⟩) (.inr (nR _)) (.int i64 15)
     clear co fo lo c0 c1 f1 l1
     generalize wx.setCell (aj gt 0) (.int i64 15) = W1 at *
     have co := bo.cell
     have c1 := HU.out.b1.cell
     have f1 := HU.out.b1.frozen
     have l1 := HU.out.b1.lt
     go_wp2_with fail
     have E := fun x0 x1 x2 x3 r => HU.out.end_ (x0 := x0) (x1 := x1) (x2 := x2) (x3 := x3) (rest := r) hp (dA.node (l := [f, s]) R 15 0 0 c.line aC) ah hn1 hn2 fJ
     exact fI
   go_upto_region 52 with fail
   obtain ⟨vs, hG⟩ := HK.out.K
   have R := hG.row
   clear hG
   refine jm 8 (fun w' => ∀ i, w'.cell? (aj w.heap.size i) = (ay c.kind c.text c.number c.line A c.kids.length n : Array Value)[i]?) 7 ?_
   have HD := lH (HT.out.later hp ((Same.refl wx).drew.below _))
   replace R := R.later ((Same.refl wx).drew.below _)
   clear c0 c1 f1 l1
   generalize wx.drew = Wd at *
   have cT := HD.out.b0.cell
   refine tkB 0 cT ?_
   refine tkB 1 cT ?_
   refine tkB 3 cT ?_
   refine tkB 4 cT ?_
   refine tkB 5 cT ?_
   refine rdA 2 (fun K hK => ?_)
   go_simp
   go_at_call 175
   refine (KX _ _ htx).mono ?_
   exact JK
 exact HC.out k1 k2 k3 k4 k5 k6 k7 k8
end
section
open Go Go.RowKit
def Lg (B : Nat) (l : List ByteArray) (c : aH) (v : Value) (w : World) (e : Ending) (w' : World) : Prop := ∃ (l' : List ByteArray) (A' : Option Addr) (n' : Nat), e = .returned (.slice A' l'.length n') ∧ w'.ownsRow B 9 1 (.slice A' l'.length n') l'.length (l'.map .string) ∧ (∀ s ∈ l', s.size ≤ 100000) ∧ l'.length ≤ l.length + c.nodes ∧ w.grownBy w' v.ownBlock ∧ ((Value.slice A' l'.length n').ownBlock = v.ownBlock ∨ ∃ k, (Value.slice A' l'.length n').ownBlock = some k ∧ w.heap.size ≤ k)
theorem Dv (u : fE) (A1 A2 A3 : Option Addr) (n1 n2 n3 lo hi B : Nat) (c : aH) : ∀ (A : Option Addr) (n : Nat) (w : World) (l : List ByteArray) (Av : Option Addr) (nv : Nat), aW w lo hi 5 aH.aG (.slice A c.kids.length n) c.kids → dZ w lo hi fE.aG (.agg (aQ A1 u.records.length n1 A2 u.globals.length n2 A3 u.procedures.length n3)) u → hi ≤ B → B ≤ w.heap.size → w.ownsRow B 9 1 (.slice Av l.length nv) l.length (l.map .string) → (∀ s ∈ l, s.size ≤ 100000) → c.Ok → l.length + c.nodes ≤ 100000 →
 Calls Tryz.prog 170 #[.agg (aQ A1 u.records.length n1 A2 u.globals.length n2 A3 u.procedures.length n3), .agg (ay c.kind c.text c.number c.line A c.kids.length n), .slice Av l.length nv] w (Lg B l c (.slice Av l.length nv) w) := by
 refine aH.ind (P := fun c => ∀ (A : Option Addr) (n : Nat) (w : World) (l : List ByteArray) (Av : Option Addr) (nv : Nat), aW w lo hi 5 aH.aG (.slice A c.kids.length n) c.kids → dZ w lo hi fE.aG (.agg (aQ A1 u.records.length n1 A2 u.globals.length n2 A3 u.procedures.length n3)) u → hi ≤ B → B ≤ w.heap.size → w.ownsRow B 9 1 (.slice Av l.length nv) l.length (l.map .string) → (∀ s ∈ l, s.size ≤ 100000) → c.Ok → l.length + c.nodes ≤ 100000 →
  Calls Tryz.prog 170 #[.agg (aQ A1 u.records.length n1 A2 u.globals.length n2 A3 u.procedures.length n3), .agg (ay c.kind c.text c.number c.line A c.kids.length n), .slice Av l.length nv] w (Lg B l c (.slice Av l.length nv) w)) ?_ c
 intro c ih A n w l Av nv hk hu hhB hBw hown hsz hok hbd
 have HIH := lH ih
 have HK := lH hk
 have HU := lH hu
 have HOK := lH hok
 have HSZ := lH hsz
 have ad5 := c.eG
 have htx := hok.text
 have hav := fun g hg => hown.lt g hg
 have HAV := lH hav
 obtain ⟨A', n', hv, hc1, hc2⟩ := hk.shape
 injection hv with hv1 hv2 hv3
 subst hv1 hv3
 unfold maxLen at hc2
 have HN := lH ad5
 clear ih hk hu hok hsz hv2 hav
 have bu := (Blk.new w 122 (aQ A1 u.records.length n1 A2 u.globals.length n2 A3 u.procedures.length n3)).alloc (.cells (ay c.kind c.text c.number c.line A c.kids.length n) 179)
 have be := Blk.newAt (w.alloc (.cells (aQ A1 u.records.length n1 A2 u.globals.length n2 A3 u.procedures.length n3) 122)) 179 (ay c.kind c.text c.number c.line A c.kids.length n) (w.heap.size + 1) av
 have hb0 : Below w.heap.size w ((w.alloc (.cells (aQ A1 u.records.length n1 A2 u.globals.length n2 A3 u.procedures.length n3) 122)).alloc (.cells (ay c.kind c.text c.number c.line A c.kids.length n) 179)) := (bA _ _).alloc av _
 have hz0 : w.heap.size + 2 ≤ ((w.alloc (.cells (aQ A1 u.records.length n1 A2 u.globals.length n2 A3 u.procedures.length n3) 122)).alloc (.cells (ay c.kind c.text c.number c.line A c.kids.length n) 179)).heap.size := av
 go_in
 go_upto_region 1 with fail
 generalize (w.alloc (.cells (aQ A1 u.records.length n1 A2 u.globals.length n2 A3 u.procedures.length n3) 122)).alloc (.cells (ay c.kind c.text c.number c.line A c.kids.length n) 179) = W at *
 have jQ := fA hown hb0
 have cu := bu.cell
 have ce := be.cell
 go_cut [17] (fun v wx => ∃ b : Bool, v = .bool b ∧ wx = W ∧ Hid (b = false → True))
 case first =>
  rcases bE (c.kind == 4) with k4 | k4
  ·go_wp2_with fail
   go_meet
   exact ⟨true, rfl, rfl, lH (fun _ => trivial)⟩
  go_wp2_with fail
  go_meet
  exact ⟨_, rfl, rfl, lH (fun _ => trivial)⟩
 obtain ⟨b, rfl, rfl, -⟩ := hcut
 cases b with
 | true =>
   go_wp2_with fail
   refine (tJ u A1 A2 A3 n1 n2 n3 _ lo hi c.text (HU.out.below hb0 ah) (by have := hb0.size; omega)).mono ?_
   rintro e w2 ⟨⟨k, i, rfl, hk0, hk1⟩, hb2⟩
   have hb2' := hb0.trans (hb2.mono hb0.size)
   have jD := fA jQ hb2
   have be2 := be.later hb2
   clear ce cu jQ
   have ce := be2.cell
   go_upto_region 3 with fail
   go_cut [33] (fun v wx => ∃ b : Bool, v = .bool b ∧ wx = w2)
   case first =>
    have HF := lH (iq l c.text (.slice Av l.length nv) w2 B w2.heap.size (aW.rds.2 (Rds.dU jD)))
    by_cases h0 : k = 0
    ·subst h0
     go_wp2_with fail
     refine HF.out.mono ?_
     rintro e w3 ⟨rfl, rfl⟩
     exact yL
    have c0 : (k == 0) = false := by simp [h0]
    clear h0
    go_wp2_with fail
    go_meet
    exact ⟨_, rfl, rfl⟩
   obtain ⟨b, rfl, rfl⟩ := hcut
   cases b with
   | true =>
     have hbase : B ≤ wc.heap.size := nT hBw hb2'.size
     have hroom : l.length ≤ 100000 := ah
     go_wp2_with (first | (at_builtin; refine dO rfl _ _ 26 aM 9 _ 1 16 iK Tryz.underlying26 aM aA aA B _ _ _ aM jD _ 1 _ aM aM eZ ah hbase ?_) | fail)
     rintro v' w5 kD hgr hat
     obtain ⟨A', n', rfl, -⟩ := (Rds.dU kD).shape
     go_wp2_with fail
     go_ret
     refine ⟨l ++ [c.text], A', n', av, by simpa using kD, Dj HSZ.out htx, by have := HN.out; simp; omega, ?_, ?_⟩
     ·exact dJ (iE hb2' _) hgr
     have := hb2'.size
     rcases hat with h | h
     ·left; simpa using h
     right; exact ⟨_, by simpa using h, ah⟩
   | false =>
     go_wp2_with fail
     go_ret
     exact ⟨l, Av, nv, rfl, jD, HSZ.out, ah, iE hb2' _, .inl rfl⟩
 | false =>
   clear cu ce
   go_wp2_with fail
   go_loopw [2, 9] (fun lv k wx => ∃ (j : Nat) (l' : List ByteArray) (A' : Option Addr) (n' : Nat), j ≤ c.kids.length ∧ k = .int i64 j ∧ lv = .slice A' l'.length n' ∧ Hid (World.ownsRow wx B 9 1 (.slice A' l'.length n') l'.length (l'.map .string)) ∧ Hid (∀ s ∈ l', ByteArray.size s ≤ 100000) ∧ Hid (l'.length ≤ l.length + gL (c.kids.take j)) ∧ Hid (w.grownBy wx (Value.slice Av l.length nv).ownBlock) ∧ Hid ((Value.slice A' l'.length n').ownBlock = (Value.slice Av l.length nv).ownBlock ∨ ∃ k, (Value.slice A' l'.length n').ownBlock = some k ∧ w.heap.size ≤ k) ∧ Blk wx w.heap.size 122 (aQ A1 u.records.length n1 A2 u.globals.length n2 A3 u.procedures.length n3) ∧ Blk wx (w.heap.size + 1) 179 (ay c.kind c.text c.number c.line A c.kids.length n) ∧ w.heap.size + 2 ≤ wx.heap.size ∧ Hid (∀ g, (Value.slice A' l'.length n').ownBlock = some g → g ≠ w.heap.size ∧ g ≠ w.heap.size + 1)) (fun _ k _ => c.kids.length - (intOf k).toNat)
   case atStart => exact ⟨0, l, Av, nv, nZ _, rfl, rfl, jQ, HSZ, lH (by simp [gL]), lH (iE hb0 _), lH (.inl rfl), bu, be, hz0, lH (fun g hg => by have := (HAV.out g hg).2; omega)⟩
   clear jQ bu be hb0 hz0
   obtain ⟨j, l', A', n', hj, rfl, rfl, hown, hSZ, hln, hgr, hat, bu, be, hzz, hne⟩ := hrel
   have cu := bu.cell
   have ce := be.cell
   have MY : Below B w wr := uF hgr.out hBw (fun g hg => (HAV.out g hg).1)
   by_cases hlt : j < c.kids.length
   rotate_left
   ·obtain rfl : j = c.kids.length := by omega
    have hl2 := hln.out
    rw [List.take_length] at hl2
    have HL2 : Hid (l'.length ≤ l.length + c.nodes) := (by have := HN.out; omega : l'.length ≤ l.length + c.nodes)
    clear hl2
    go_wp2_with fail
    go_ret
    exact ⟨l', A', n', rfl, hown.out, hSZ.out, HL2.out, hgr.out, hat.out⟩
   obtain ⟨x, hx⟩ : ∃ x, c.kids[j]? = some x := ⟨_, gE hlt⟩
   obtain ⟨g, off, B5, d, rfl, -, hg2, hm, hkr, -, -, t0, t1, t2, t3, t4⟩ := aH.at_ (HK.out.below MY hhB) hx
   have hsn := uP hx
   have hle := uQ c.kids (j + 1)
   have HC := lH (fun W2 (hb : Below wr.heap.size wr W2) => HIH.out x hm B5 d W2 l' A' n' (hkr.below (hb) (nT hhB (nT hBw MY.size))) (HU.out.below (MY.trans (hb.mono (nT hBw MY.size))) hhB) hhB (nT (nT hBw MY.size) hb.size) (fA hown.out hb) hSZ.out (HOK.out.kids x hm) (by have := hln.out; have := HN.out; omega))
   have HSN := lH hsn
   have afd : B ≤ wr.heap.size := nT hBw MY.size
   clear hx hm hkr hsn hle
   go_upto_region 9 with fail
   clear cu ce
   have cT := bu.cell
   have cE := be.cell
   refine pZ (S := fun w' => (∀ i, w'.cell? (aj w.heap.size i) = (aQ A1 u.records.length n1 A2 u.globals.length n2 A3 u.procedures.length n3 : Array Value)[i]?) ∧ (∀ i, w'.cell? (aj (w.heap.size + 1) i) = (ay c.kind c.text c.number c.line (some (aj g off)) c.kids.length n : Array Value)[i]?) ∧ w'.cell? (aj g (off + j * 5)) = some (.int i64 x.kind) ∧ w'.cell? (aj g (off + j * 5 + 1)) = some (.string x.text) ∧ w'.cell? (aj g (off + j * 5 + 2)) = some (.int i64 x.number) ∧ w'.cell? (aj g (off + j * 5 + 3)) = some (.int i64 x.line) ∧ w'.cell? (aj g (off + j * 5 + 4)) = some (.slice B5 x.kids.length d)) (k := 9) aI ?_
   have hbd : Below wr.heap.size wr wr.drew := (Same.refl wr).drew.below _
   have CALL := lH (HC.out _ hbd)
   replace bu := bu.drew
   replace be := be.drew
   have hgd := lH (dJ hgr.out (iE hbd _))
   have wN : wr.heap.size ≤ wr.drew.heap.size := nR _
   replace t0 : wr.drew.cell? _ = _ := t0
   replace t1 : wr.drew.cell? _ = _ := t1
   replace t2 : wr.drew.cell? _ = _ := t2
   replace t3 : wr.drew.cell? _ = _ := t3
   replace t4 : wr.drew.cell? _ = _ := t4
   have lgd : g < wr.drew.heap.size := ah
   clear hgr hbd HC MY
   generalize wr.drew = Wd at *
   clear cT cE
   have cT := bu.cell
   have cE := be.cell
   refine fG 0 (v := ?_) rfl aI aI aI rfl (fun _ _ _ h => h) (Or.inl ⟨aM, ?_⟩) ⟨cT, cE, t0, t1, t2, t3, t4⟩ ?_
   rotate_left
   ·exact sK
   try simp only [Act.put, List.setIfInBounds_toArray, List.set_cons_zero, List.set_cons_succ]
   refine fG 1 (v := ?_) rfl aI aI aI rfl (fun _ _ _ h => h) (Or.inl ⟨aM, ?_⟩) ⟨cT, cE, t0, t1, t2, t3, t4⟩ ?_
   rotate_left
   ·exact sK
   try simp only [Act.put, List.setIfInBounds_toArray, List.set_cons_zero, List.set_cons_succ]
   refine fG 2 (v := ?_) rfl aI aI aI rfl (fun _ _ _ h => h) (Or.inl ⟨aM, ?_⟩) ⟨cT, cE, t0, t1, t2, t3, t4⟩ ?_
   rotate_left
   ·exact sK
   try simp only [Act.put, List.setIfInBounds_toArray, List.set_cons_zero, List.set_cons_succ]
   refine fG 3 (v := ?_) rfl aI aI aI rfl (fun _ _ _ h => h) (Or.inl ⟨aM, ?_⟩) ⟨cT, cE, t0, t1, t2, t3, t4⟩ ?_
   rotate_left
   ·exact sK
   try simp only [Act.put, List.setIfInBounds_toArray, List.set_cons_zero, List.set_cons_succ]
   refine fG 4 (v := ?_) rfl aI aI aI rfl (fun _ _ _ h => h) (Or.inl ⟨aM, ?_⟩) ⟨cT, cE, t0, t1, t2, t3, t4⟩ ?_
   rotate_left
   ·exact sK
   try simp only [Act.put, List.setIfInBounds_toArray, List.set_cons_zero, List.set_cons_succ]
   refine fG 5 (v := ?_) rfl aI aI aI rfl (fun _ _ _ h => h) (Or.inl ⟨aM, ?_⟩) ⟨cT, cE, t0, t1, t2, t3, t4⟩ ?_
   rotate_left
   ·exact sK
   try simp only [Act.put, List.setIfInBounds_toArray, List.set_cons_zero, List.set_cons_succ]
   refine fG 6 (v := ?_) rfl aI aI aI rfl (fun _ _ _ h => h) (Or.inl ⟨aM, ?_⟩) ⟨cT, cE, t0, t1, t2, t3, t4⟩ ?_
   rotate_left
   ·exact sK
   try simp only [Act.put, List.setIfInBounds_toArray, List.set_cons_zero, List.set_cons_succ]
   refine dV [7] aI rfl ?_
   refine bS.aN rfl (fun K hK => ?_) bS.eO
   go_simp
   go_at_call 170
   refine CALL.out.mono ?_
   rintro e w2 ⟨l2, A2', n2', rfl, hown2, hsz2, RP, Ae, VG⟩
   have hvb : ∀ b, (Value.slice A' l'.length n').ownBlock = some b → B ≤ b ∧ b ≠ w.heap.size ∧ b ≠ w.heap.size + 1 := fun b hb => ⟨(hown.out.lt b hb).1, hne.out b hb⟩
   have bu2 := bu.grown Ae (fun e => (hvb _ e.symm).2.1 rfl)
   have be2 := be.grown Ae (fun e => (hvb _ e.symm).2.2 rfl)
   have KG : ∀ i, w2.cell? (aj g i) = Wd.cell? (aj g i) := fun i => World.cell?_of_block (Ae.block g lgd (fun e => by have := (hvb _ e.symm).1; omega))
   replace t0 := (KG _).trans t0
   replace t1 := (KG _).trans t1
   replace t2 := (KG _).trans t2
   replace t3 := (KG _).trans t3
   replace t4 := (KG _).trans t4
   have hs2 := Ae.size
   have HO2 := lH hown2
   have HZ2 := lH hsz2
   have HL2 := lH RP
   have HG2 : Hid (w.grownBy w2 (Value.slice Av l.length nv).ownBlock) := ⟨Ae.os.trans hgd.out.os, Ae.tape.trans hgd.out.tape, Ae.output.trans hgd.out.output, nT hgd.out.size Ae.size, fun i hi hni => (Ae.block i (nL hi hgd.out.size) (fun e => by rcases hat.out with h | ⟨k, h, hk⟩; exact hni (by rw [e, h]); rw [h] at e; injection e with e; omega)).trans (hgd.out.block i hi hni)⟩
   have HA2 : Hid ((Value.slice A2' l2.length n2').ownBlock = (Value.slice Av l.length nv).ownBlock ∨ ∃ k, (Value.slice A2' l2.length n2').ownBlock = some k ∧ w.heap.size ≤ k) := by rcases VG with h | ⟨k, h, hk⟩; exact h ▸ hat.out; exact .inr ⟨k, h, ah⟩
   have ad6 : Hid (∀ b, (Value.slice A2' l2.length n2').ownBlock = some b → b ≠ w.heap.size ∧ b ≠ w.heap.size + 1) := fun b hb => by rcases VG with h | ⟨k, h, hk⟩; exact hne.out b (h ▸ hb); rw [h] at hb; injection hb with hb; omega
   clear hown2 hsz2 RP Ae VG hvb KG cT cE
   have cT := bu2.cell
   have cE := be2.cell
   try go_wp2_with fail
   refine hK.out _ _ (fun _ => ⟨cT, cE, t0, t1, t2, t3, t4⟩) ?_
   clear hK K
   try simp only [Act.put, List.setIfInBounds_toArray, List.set_cons_zero, List.set_cons_succ]
   refine dV [8] aI rfl ?_
   refine bS.aN rfl (fun K hK => ?_) bS.eO
   go_simp
   refine hK.out _ _ (fun _ => ⟨cT, cE, t0, t1, t2, t3, t4⟩) ?_
   clear hK K
   try simp only [Act.put, List.setIfInBounds_toArray, List.set_cons_zero, List.set_cons_succ]
   refine bY aI ?_ _
   go_wp2_with fail
   go_roundw
   case rel => exact ⟨j + 1, l2, A2', n2', hlt, by go_num, rfl, HO2, HZ2, lH (by have h1 := HL2.out; have h2 := hln.out; rw [HSN.out]; omega), HG2, HA2, bu2, be2, ah, ad6⟩
   simp [intOf]; omega
end
end Go.Proofs.YthbcamfejgghhaaGreatDoor
