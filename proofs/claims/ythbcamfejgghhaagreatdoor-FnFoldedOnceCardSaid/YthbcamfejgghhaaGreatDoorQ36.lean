/- The xO switch, a way a kind: kinds 21 to 28. U3 of the program, Wj of the reference: a copy of a row of record types. -/
import Derived.Test.YthbcamfejgghhaaGreatDoorQ22
import Derived.Test.YthbcamfejgghhaaGreatDoorQ34
set_option maxRecDepth 100000
set_option maxHeartbeats 64000000
set_option linter.unusedVariables false
set_option linter.unusedSimpArgs false
namespace Go.Proofs.YthbcamfejgghhaaGreatDoor
open Go.IntKind (i64)
section
open Go Go.RowKit
theorem Wk (u : fE) (A1 A2 A3 : Option Addr) (n1 n2 n3 lo hi p : Nat) (lc : List ByteArray) (Al : Option Addr) (nl : Nat) (c : aH) (A : Option Addr) (n : Nat) (w wx : World) (next nx : Int) (l : List ak) (A' : Option Addr) (n' : Nat) (f s : ak) (Af As : Option Addr) (nf ns gs gf go gt g1 g2 : Nat) (hp : p < w.heap.size) (hn1 : next ≤ nx) (hn2 : nx ≤ next + c.nodes) (HU : Hid (dZ w lo hi fE.aG (.agg (aQ A1 u.records.length n1 A2 u.globals.length n2 A3 u.procedures.length n3)) u)) (HL : Hid (aW w lo hi 1 aR (.slice Al lc.length nl) lc)) (hhp : hi ≤ p) (HOK : Hid c.Ok) (HK : Hid (Qn w p c A n next (gT A1 u.records.length n1 A2 u.globals.length n2 A3 u.procedures.length n3 Al lc.length nl nx) wx l (.slice A' l.length n') f s Af As nf ns gs gf go gt g1 g2)) (s9 : Value) (a : Act) (hF : Dt (.pointer (some (aj p 0))) (.pointer (some (aj w.heap.size 0))) (.pointer (some (aj (w.heap.size + 1) 0))) (.pointer (some (aj (w.heap.size + 1 + 1) 0))) (.pointer (some (aj (w.heap.size + 1 + 1 + 1) 0))) (.pointer (some (aj (w.heap.size + 4) 0))) (.slice A' l.length n') s9 (.pointer (some (aj gs 0))) (.pointer (some (aj gf 0))) (.pointer (some (aj go 0))) (.pointer (some (aj gt 0))) a) (k1 : (c.kind == 1) = false) (k2 : (c.kind == 2) = false) (k3 : (c.kind == 3) = false) (k4 : (c.kind == 4) = false) (k5 : (c.kind == 5) = false) (k6 : (c.kind == 6) = false) (k7 : (c.kind == 7) = false) (k8 : (c.kind == 8) = false) (k9 : (c.kind == 9) = false) (k10 : (c.kind == 10) = false) (k11 : (c.kind == 11) = false) (k12 : (c.kind == 12) = false) (k13 : (c.kind == 13) = false) (k14 : (c.kind == 14) = false) (k15 : (c.kind == 15) = false) (k16 : (c.kind == 16) = false) (k17 : (c.kind == 17) = false) (k18 : (c.kind == 18) = false) (k19 : (c.kind == 19) = false) (k20 : (c.kind == 20) = false) : Code.wp Tryz.prog (lD 19) (bodyPost Tryz.prog Tryz.f130 (wP p (jf A1 u.records.length n1 A2 u.globals.length n2 A3 u.procedures.length n3 Al lc.length nl) next c w)) a wx := by
 cases hF
 conv => arg 2; whnf
 have HT : Hid (kG w p c A n next (Array.push (jf A1 u.records.length n1 A2 u.globals.length n2 A3 u.procedures.length n3 Al lc.length nl) (.int i64 nx)) wx) := HK.out.T
 have c0 := HK.out.T.b0.cell
 have c1 := HK.out.T.b1.cell
 have f1 := HK.out.T.b1.frozen
 have l1 := HK.out.T.b1.lt
 have hBk : 2000000 + eT l ≤ 2000000 * c.nodes := by have h1 := c.eG; have h2 := HK.out.bk; omega
 have hfs := HK.out.fs
 have hln : l.length ≤ c.kids.length := by have := HK.out.len; omega
 have hkk := HOK.out.len
 have hkl : 2000000 + 1000000 * c.kids.length + eT l ≤ 4000000 * c.nodes := by have h1 := c.eG; have h2 := HK.out.bk; have h3 := tN c.kids; omega
 have htx := HOK.out.text
 have ht0 : ByteArray.size aC ≤ 0 := nR _
 rcases bE (c.kind == 21) with k21 | k21
 ·as_aux_lemma =>
   have lgs := HK.out.ls
   have lgf := HK.out.lf
   have lgo := HK.out.lo
   have lgt := HK.out.lt
   have lge := HK.out.le
   have co := HK.out.bo.cell
   have fo := HK.out.bo.frozen
   have lo := HK.out.bo.lt
   go_upto_region 98 with fail
   have HU := lH (HT.out.far hp (q := ⟨go, 0, none⟩) yR (.int i64 23))
   have bo := HK.out.bo.aF 0 (.int i64 23)
   have R := HK.out.hO.set (q := ⟨go, 0, none⟩) (.inr (nR _)) (.int i64 23)
   clear co fo lo c0 c1 f1 l1
   generalize wx.setCell (aj go 0) (.int i64 23) = W1 at *
   have co := bo.cell
   have c1 := HU.out.b1.cell
   have f1 := HU.out.b1.frozen
   have l1 := HU.out.b1.lt
   go_wp2_with fail
   have E := fun x0 x1 x2 x3 r => HU.out.end_ (x0 := x0) (x1 := x1) (x2 := x2) (x3 := x3) (rest := r) hp (dA.node (l := [f]) R 23 0 0 c.line aC) ah hn1 hn2 fJ
   exact fI
 rcases bE (c.kind == 22) with k22 | k22
 ·as_aux_lemma =>
   have lgs := HK.out.ls
   have lgf := HK.out.lf
   have lgo := HK.out.lo
   have lgt := HK.out.lt
   have lge := HK.out.le
   have co := HK.out.bt.cell
   have fo := HK.out.bt.frozen
   have lo := HK.out.bt.lt
   go_upto_region 101 with fail
   have HU := lH (HT.out.far hp (q := ⟨gt, 0, none⟩) vT (.int i64 25))
   have bo := HK.out.bt.aF 0 (.int i64 25)
   have R := HK.out.hT.set (q := ⟨gt, 0, none⟩) (.inr (nR _)) (.int i64 25)
   clear co fo lo c0 c1 f1 l1
   generalize wx.setCell (aj gt 0) (.int i64 25) = W1 at *
   have co := bo.cell
   have c1 := HU.out.b1.cell
   have f1 := HU.out.b1.frozen
   have l1 := HU.out.b1.lt
   go_wp2_with fail
   have E := fun x0 x1 x2 x3 r => HU.out.end_ (x0 := x0) (x1 := x1) (x2 := x2) (x3 := x3) (rest := r) hp (dA.node (l := [f, s]) R 25 0 0 c.line aC) ah hn1 hn2 fJ
   exact fI
 rcases bE (c.kind == 23) with k23 | k23
 ·as_aux_lemma =>
   go_wp2_with fail
   have E := fun x0 x1 x2 x3 r => HT.out.end_ (x0 := x0) (x1 := x1) (x2 := x2) (x3 := x3) (rest := r) hp (dA.leaf (lo := w.heap.size + 2) (hi := 0) (24) 0 (0) c.line aC) ah hn1 hn2 fJ
   exact fI
 rcases bE (c.kind == 24) with k24 | k24
 ·as_aux_lemma =>
   have lgs := HK.out.ls
   have lgf := HK.out.lf
   have lgo := HK.out.lo
   have lgt := HK.out.lt
   have lge := HK.out.le
   have co := HK.out.bo.cell
   have fo := HK.out.bo.frozen
   have lo := HK.out.bo.lt
   go_upto_region 106 with fail
   have HU := lH (HT.out.far hp (q := ⟨go, 0, none⟩) yR (.int i64 20))
   have bo := HK.out.bo.aF 0 (.int i64 20)
   have R := HK.out.hO.set (q := ⟨go, 0, none⟩) (.inr (nR _)) (.int i64 20)
   clear co fo lo c0 c1 f1 l1
   generalize wx.setCell (aj go 0) (.int i64 20) = W1 at *
   have co := bo.cell
   have c1 := HU.out.b1.cell
   have f1 := HU.out.b1.frozen
   have l1 := HU.out.b1.lt
   go_wp2_with fail
   have E := fun x0 x1 x2 x3 r => HU.out.end_ (x0 := x0) (x1 := x1) (x2 := x2) (x3 := x3) (rest := r) hp (dA.node (l := [f]) R 20 0 0 c.line aC) ah hn1 hn2 fJ
   exact fI
 rcases bE (c.kind == 25) with k25 | k25
 ·as_aux_lemma =>
   go_wp2_with fail
   have E := fun x0 x1 x2 x3 r => HT.out.end_ (x0 := x0) (x1 := x1) (x2 := x2) (x3 := x3) (rest := r) hp (dA.leaf (lo := w.heap.size + 2) (hi := 0) (21) 0 (0) c.line aC) ah hn1 hn2 fJ
   exact fI
 rcases bE (c.kind == 26) with k26 | k26
 ·as_aux_lemma =>
   have lgs := HK.out.ls
   have lgf := HK.out.lf
   have lgo := HK.out.lo
   have lgt := HK.out.lt
   have lge := HK.out.le
   have co := HK.out.bo.cell
   have fo := HK.out.bo.frozen
   have lo := HK.out.bo.lt
   go_upto_region 111 with fail
   have HU := lH (HT.out.far hp (q := ⟨go, 0, none⟩) yR (.int i64 26))
   have bo := HK.out.bo.aF 0 (.int i64 26)
   have R := HK.out.hO.set (q := ⟨go, 0, none⟩) (.inr (nR _)) (.int i64 26)
   clear co fo lo c0 c1 f1 l1
   generalize wx.setCell (aj go 0) (.int i64 26) = W1 at *
   have co := bo.cell
   have c1 := HU.out.b1.cell
   have f1 := HU.out.b1.frozen
   have l1 := HU.out.b1.lt
   go_wp2_with fail
   have E := fun x0 x1 x2 x3 r => HU.out.end_ (x0 := x0) (x1 := x1) (x2 := x2) (x3 := x3) (rest := r) hp (dA.node (l := [f]) R 26 0 0 c.line aC) ah hn1 hn2 fJ
   exact fI
 rcases bE (c.kind == 27) with k27 | k27
 ·as_aux_lemma =>
   have lgs := HK.out.ls
   have lgf := HK.out.lf
   have lgo := HK.out.lo
   have lgt := HK.out.lt
   have lge := HK.out.le
   have cf := HK.out.bf.cell
   have co := HK.out.T.b3.cell
   have cn := HK.out.T.b2.cell
   have R : dA (wx.alloc (.cells (gH f.kind f.op f.number f.line f.text Af f.kids.length nf 28 0 0 c.line aC none 0 0 4 0 0 c.line aC none 0 0) 43)) (w.heap.size + 5) (wx.heap.size + 1) [.row 6 3 (flat ak.aG [f, (ak.mk 28 0 0 c.line aC []), (ak.mk 4 0 0 c.line aC [])])] [.slice (some (aj wx.heap.size 0)) 3 3] := dA.lit (hi := wx.heap.size) (e := 43) (dA.cons (HK.out.hF.wide (nR _) ah) (dA.cons (dA.leaf 28 0 0 c.line aC) (dA.one (dA.leaf 4 0 0 c.line aC)))) rfl aA ah ah
   have HU := lH (HT.out.later hp (wy := wx.alloc (.cells (gH f.kind f.op f.number f.line f.text Af f.kids.length nf 28 0 0 c.line aC none 0 0 4 0 0 c.line aC none 0 0) 43)) (bA _ _))
   clear c1 f1 l1
   have c1 := HU.out.b1.cell
   have f1 := HU.out.b1.frozen
   go_wp2_with (first | (refine uT rfl rfl rfl ?_) | fail)
   have E := fun x0 x1 x2 x3 r => HU.out.end_ (x0 := x0) (x1 := x1) (x2 := x2) (x3 := x3) (rest := r) hp (dA.node (l := [f, (ak.mk 28 0 0 c.line aC []), (ak.mk 4 0 0 c.line aC [])]) R 17 0 0 c.line aC) ah hn1 hn2 fJ
   exact fI
 rcases bE (c.kind == 28) with k28 | k28
 ·as_aux_lemma =>
   go_upto_region 115 with fail
   refine jm 18 (fun w' => (∀ i, w'.cell? (aj w.heap.size i) = (ay c.kind c.text c.number c.line A c.kids.length n : Array Value)[i]?) ∧ (∀ i, w'.cell? (aj p i) = (gT A1 u.records.length n1 A2 u.globals.length n2 A3 u.procedures.length n3 Al lc.length nl nx : Array Value)[i]?)) 17 ?_
   have HD := lH (HT.out.later hp ((Same.refl wx).drew.below _))
   clear c0 c1 f1 l1
   generalize wx.drew = Wd at *
   have cT := HD.out.b0.cell
   have cP := HD.out.bp.cell
   have HUd := lH (HU.out.grown HD.out.gr ah qP)
   have HLd := lH (HL.out.grown HD.out.gr ah qP)
   have wN := HD.out.sz
   refine tkB 0 ⟨cT, cP⟩ ?_
   refine tkB 1 ⟨cT, cP⟩ ?_
   refine tkB 2 ⟨cT, cP⟩ ?_
   refine tkB 3 ⟨cT, cP⟩ ?_
   refine tkB 4 ⟨cT, cP⟩ ?_
   refine tkB 5 ⟨cT, cP⟩ ?_
   refine tkB 6 ⟨cT, cP⟩ ?_
   refine tkB 7 ⟨cT, cP⟩ ?_
   refine tkB 8 ⟨cT, cP⟩ ?_
   refine tkB 9 ⟨cT, cP⟩ ?_
   refine tkB 10 ⟨cT, cP⟩ ?_
   refine tkB 11 ⟨cT, cP⟩ ?_
   refine tkB 12 ⟨cT, cP⟩ ?_
   refine tkB 13 ⟨cT, cP⟩ ?_
   refine rdA 14 (fun K hK => ?_)
   go_simp
   go_at_call 171
   refine (zi u A1 A2 A3 n1 n2 n3 lo hi lc Al nl _ _ _ HUd.out HLd.out ah).mono ?_
   rintro e w1 ⟨k, m, t, rfl, ht, hb⟩
   have HV := lH (HD.out.later hp hb)
   clear hb cT cP HUd HLd wN
   have cT := HV.out.b0.cell
   have cP := HV.out.bp.cell
   refine fM hK ⟨cT, cP⟩ ?_
   clear hK K
   have hz1 := HV.out.sz
   refine rdA 15 (fun K hK => ?_)
   rw [if_pos aM]
   refine qc rfl ?_
   have R : dA (w1.alloc (.cells (aB k 0 m c.line t none 0 0) 43)) (w.heap.size + 5) (w1.heap.size + 1) [.row 6 1 (flat ak.aG [ak.mk k 0 m c.line t []])] [.slice (some (aj w1.heap.size 0)) 1 1] := dA.lit (hi := w1.heap.size) (e := 43) (dA.one (dA.leaf k 0 m c.line t)) rfl aA ah ah
   have HX := lH (HV.out.later hp (wy := w1.alloc (.cells (aB k 0 m c.line t none 0 0) 43)) (bA _ _))
   clear cT cP
   have cT := HX.out.b0.cell
   have cP := HX.out.bp.cell
   refine fM hK ⟨cT, cP⟩ ?_
   clear hK K
   refine rdA 16 (fun K hK => ?_)
   go_simp
   go_at_call 173
   refine (iY _ _ _ _ _ _).mono ?_
   rintro e w2 ⟨rfl, hb⟩
   have HU := lH (HX.out.later hp hb)
   replace R := (R.below hb av).f
   clear hb cT cP
   have cT := HU.out.b0.cell
   have cP := HU.out.bp.cell
   refine fM hK ⟨cT, cP⟩ ?_
   clear hK K
   refine rdA 17 (fun K hK => ?_)
   have c1 := HU.out.b1.cell
   have f1 := HU.out.b1.frozen
   have l1 := HU.out.b1.lt
   go_simp
   refine rE hK ?_
   clear hK K
   refine bY aI ?_ _
   go_wp2_with fail
   have E := fun x0 x1 x2 x3 r => HU.out.end_ (x0 := x0) (x1 := x1) (x2 := x2) (x3 := x3) (rest := r) hp (dA.node (l := [ak.mk k 0 m c.line t []]) R.top 11 81 0 c.line aC) ah hn1 hn2 fJ
   exact fI
 exact JM
end
section
open Go.RowKit
theorem Nh {P : Program} {w W : World} {ops : Array Oper} {o : Oper} {a : Act} {K : Act → World → Prop} {Q : Exit → Act → World → Prop} {E : Prop} (p : Nat) (hp : p = w.heap.size) (hgd : o.guard = none) (s x : Operand) (t : TypeId)
 (ho : o.op = .call { callee := .builtin .append, args := #[s, x], argTypes := #[t, t] })
 (e : TypeId) (z : Value) (size bytes : Nat) (hinfo : (P.info? e).map (fun i => (i.zero, i.size, i.bytes)) = some (some z, size, bytes)) (ht : P.underlying t = some (.slice e)) (hzs : z.cells.size = size) (hsz : 0 < size)
 (hs : a.eval s = .slice (some (aj p 0)) 0 0) (hW : Same (w.alloc (.cells #[] e)) W)
 (lo hi' : Nat) (u : Value) (m : Nat) (news : List Value) (hx : a.eval x = u) (hr : Rds W lo hi' size u m news) (h1 : ∀ u ∈ news, u.oneCell' = true)
 (h63 : m ≤ maxLen) (hbytes : m * bytes ≤ 140737488355328)
 (h : ∀ v' w', w'.ownsRow w.heap.size e size v' m news → Below w.heap.size w w' → K (a.put o.dst v') w') :
 if Region.wanted o (yielded ops a.tmps) = true then Oper.wp P o a W K Q else E := by
 have hw : Region.wanted o (yielded ops a.tmps) = true := by simp [Region.wanted, hgd]
 rw [if_pos hw]
 subst hp
 obtain ⟨i0, hi0, hz0, hz1, hz2⟩ := info_parts hinfo
 have hWs : W.heap.size = w.heap.size + 1 := by rw [hW.size]; simp
 have hown := hW.own (World.ownsRow_made (base := w.heap.size) (e := e) (size := size) w #[] 0 (nR _) (nZ _) av)
 refine lK W s x t ho w.heap.size e i0 z size bytes ht hi0 hz0 hz1 hz2 hzs hsz _ 0 [] hs hown lo hi' u m news hx hr h1 ah (by rw [Nat.zero_add]; exact hbytes) ah ?_
 intro v' w' g1 g2 g3
 exact h v' w' (by simpa using g1) ((((bR w.heap.size w).alloc (nR _) _).trans (hW.below _)).grown g2 ah (fun g hg => by simp [Value.ownBlock] at hg; omega))
theorem zx {P : Program} {w W : World} {ops : Array Oper} {o : Oper} {a : Act} {K : Act → World → Prop} {Q : Exit → Act → World → Prop} {E : Prop} (p : Nat) (hp : p = w.heap.size) (hgd : o.guard = none) (s x : Operand) (t : TypeId)
 (ho : o.op = .call { callee := .builtin .append, args := #[s, x], argTypes := #[t, t] })
 (e : TypeId) (z : Value) (size bytes : Nat) (hinfo : (P.info? e).map (fun i => (i.zero, i.size, i.bytes)) = some (some z, size, bytes)) (ht : P.underlying t = some (.slice e)) (hzs : z.cells.size = size) (hsz : 0 < size) (hby : 0 < bytes)
 (base : Nat) (v : Value) (n : Nat) (xs : List Value) (hs : a.eval s = v) (hown : w.ownsRow base e size v n xs)
 (cs : Array Value) (c : Nat) (t' : TypeId) (hx : a.eval x = .slice (some (aj p 0)) 1 c) (hW : Same (w.alloc (.cells cs t')) W) (hl : cs.size = size) (h1 : ∀ u ∈ cs.toList, u.oneCell' = true)
 (hroom : (n + 1) * bytes ≤ 140737488355328) (hbase : base ≤ w.heap.size)
 (h : ∀ v' w', w'.ownsRow base e size v' (n + 1) (xs ++ cs.toList) → w.grownBy w' v.ownBlock → (v'.ownBlock = v.ownBlock ∨ v'.ownBlock = some (w.heap.size + 1)) → K (a.put o.dst v') w') :
 if Region.wanted o (yielded ops a.tmps) = true then Oper.wp P o a W K Q else E := by
 subst hp
 exact rV hgd s x t ho e z size bytes hinfo ht hzs hsz hby base v n xs hs hown cs c t' hx hW hl h1 hroom hbase h
def nK (w wr : World) (l : List ep) (k : Nat) (v : Value) (vs : List Value) : Prop :=
 ∃ F, wr.ownsRow w.heap.size 78 3 v k vs ∧ aO wr (flat ep.aG (l.take k)) F vs ∧ F.Nodup ∧ (∀ g ∈ F, w.heap.size ≤ g) ∧ (∀ g, v.ownBlock = some g → g ∉ F) ∧ Below w.heap.size w wr
section
variable {w wr w1 w2 : World} {l : List ep} {k : Nat} {v v' v1 : Value} {vs : List Value} {c : ep}
theorem nK.bel (h : nK w wr l k v vs) : Below w.heap.size w wr := by obtain ⟨F, -, -, -, -, -, h⟩ := h; exact h
theorem nK.own (h : nK w wr l k v vs) : wr.ownsRow w.heap.size 78 3 v k vs := by obtain ⟨F, h, -⟩ := h; exact h
theorem nK.later (h : nK w wr l k v vs) (hb : Below wr.heap.size wr w1) : nK w w1 l k v vs := by
 obtain ⟨F, h1, h2, h3, h4, h5, h6⟩ := h
 exact ⟨F, fA h1 hb, h2.fr (Fr.of_below (F := []) hb) (fun _ _ => by simp), h3, h4, h5, h6.trans (hb.mono h6.size)⟩
theorem nK.push (h : nK w wr l k v vs) (hc : l[k]? = some c) (hb : Below wr.heap.size wr w1) (hf : w1.ownsRow wr.heap.size 9 1 v1 c.fields.length (c.fields.map .string))
 (ho' : w2.ownsRow w.heap.size 78 3 v' (k + 1) (vs ++ [.string c.name, v1, .int i64 c.line])) (hg : w1.grownBy w2 v.ownBlock) (hat : v'.ownBlock = v.ownBlock ∨ v'.ownBlock = some (w1.heap.size + 1)) : nK w w2 l (k + 1) v' (vs ++ [.string c.name, v1, .int i64 c.line]) := by
 obtain ⟨F, h1, h2, h3, h4, h5, h6⟩ := h
 have hlt := h2.lt
 have hF : ∀ b ∈ F, b < wr.heap.size := hlt
 have h2' : aO w2 (flat ep.aG (l.take k)) F vs := h2.kept fun g hgF => (hg.block g (nL (hF g hgF) hb.size) (fun e => h5 g e.symm hgF)).trans (hb.block g (hF g hgF))
 have hne : v1.ownBlock = none ∨ v1.ownBlock ≠ v.ownBlock := by
  cases e1 : v1.ownBlock with
  | none => exact .inl rfl
  | some b => exact .inr fun e2 => by have := (hf.lt b e1).1; have := (h1.lt b e2.symm).2; omega
 have hf2 := hf.kept hg hne
 obtain ⟨G, a1, a2, a3⟩ := gD.texts (lo := wr.heap.size) (hi := w2.heap.size) hf2 (nR _)
 have hel : aO w2 c.aG G [.string c.name, v1, .int i64 c.line] := by
  have H : aO w2 [.str c.name, .row 1 c.fields.length (flat aR c.fields), .int i64 c.line] _ [.string c.name, v1, .int i64 c.line] := aO.aN .mkStr (aO.aN a1 (aO.aN .mkInt .eO))
  simpa [ep.aG] using H
 have z1 := h6.size
 have z2 := hb.size
 refine ⟨F ++ G, ho', by rw [zR hc]; exact h2'.app hel, qX (mid := wr.heap.size) h3 a2 hF (fun g hg => (a3 g hg).1), fun g hg => ?_, fun g hv hm => ?_, (h6.trans (hb.mono z1)).grown hg ah (fun g hg => (h1.lt g hg).1)⟩
 ·rcases mA hg with hg | hg
  ·exact h4 g hg
  have := a3 g hg; omega
 rcases mA hm with hm | hm
 ·rcases hat with e | e
  ·exact h5 g (by rw [← e]; exact hv) hm
  rw [e] at hv; injection hv with hv; have := hF g hm; omega
 rcases hat with e | e
 ·have h7 := (h1.lt g (by rw [← e]; exact hv)).2; have := a3 g hm; omega
 rw [e] at hv; injection hv with hv
 have h8 := dK.lt (w := w1) (d := .row 1 c.fields.length (flat aR c.fields)) (F := G) (v := v1) ?_ g hm
 ·omega
 have a0 := gD.texts (lo := wr.heap.size) (hi := w1.heap.size) hf (nR _)
 obtain ⟨G', b1, -, -⟩ := a0
 obtain ⟨e3, u3, F1, o3, rfl, c3⟩ := a1.uG
 obtain ⟨e4, u4, F2, o4, rfl, d3⟩ := b1.uG
 have e1 : F1 = [] := c3.yZ fun d hd => by
  exact BV
 have e2 : F2 = [] := d3.yZ fun d hd => by
  exact BV
 rw [e1]; rw [e2] at b1; exact b1
theorem nK.made (h : nK w wr l l.length v vs) : gD wr w.heap.size wr.heap.size 3 ep.aG v l := by
 obtain ⟨F, h1, h2, h3, h4, h5, h6⟩ := h
 rw [List.take_length] at h2
 refine ⟨_, dK.iV h1 h2, List.nodup_append.2 ⟨?_, h3, fun a ha b hb e => ?_⟩, fun g hg => ?_⟩
 ·cases v.ownBlock <;> simp
 ·subst e; exact h5 a (by simpa using ha) hb
 rcases mA hg with hg | hg
 ·exact h1.lt g jK
 exact ⟨h4 g hg, h2.lt g hg⟩
end
theorem AQ (l : List ep) (v : Value) (w : World) (lo hi : Nat) (h : aW w lo hi 3 ep.aG v l) (hhi : hi ≤ w.heap.size) (hl : l.length + sumOf ep.bI l ≤ 34359738368) :
 Calls Tryz.prog 18 #[v] w (Rx 3 ep.aG l w) := by
 obtain ⟨A, cap, rfl, hc1, hc2⟩ := h.shape
 unfold maxLen at hc2
 have hwa : Below w.heap.size w (w.alloc (.cells #[] 78)) := bA _ _
 have jQ := World.ownsRow_made (base := w.heap.size) (e := 78) (size := 3) w #[] 0 (nR _) jG rfl
 have hR0 : nK w (w.alloc (.cells #[] 78)) l 0 (.slice (some (aj w.heap.size 0)) 0 0) [] := ⟨[], jQ, by simp only [List.take_zero, fC]; exact .eO, List.nodup_nil, av, av, hwa⟩
 go_in
 go_wp2_with fail
 go_loopw [3, 9] (fun ov i wr => ∃ (k : Nat) (vs : List Value), k ≤ l.length ∧ i = .int i64 k ∧ nK w wr l k ov vs) (fun _ i _ => l.length - (intOf i).toNat)
 case atStart => exact ⟨0, [], nZ _, rfl, hR0⟩
 clear hR0 jQ hwa
 obtain ⟨k, vs, hk, rfl, hR⟩ := hrel
 obtain ⟨wo, rfl⟩ := nW wr
 have hw := hR.bel
 by_cases hlt : k < l.length
 ·obtain ⟨c, hc⟩ : ∃ c, l[k]? = some c := ⟨_, gE hlt⟩
  obtain ⟨g, off, Af, nf, rfl, hg1, hg2, hmem, hcr, q0, q1, q2⟩ := ep.at_ (h.below hw hhi) hc
  have hfl := ep.rows hcr
  have hbm := p9 (b := ep.bI) hmem
  have hbb : c.fields.length ≤ c.bI := by unfold ep.bI; omega
  have hbc : c.fields.length ≤ 34359738368 := ah
  have hown := hR.own
  have hiw : hi ≤ wo.heap.size := nT hhi hw.size
  have bw : Below wo.heap.size wo (wo.alloc (.cells (dS c.name Af c.fields.length nf c.line) 78)) := bA _ _
  have hrf := aW.rds.1 ((hfl.alloc hiw (.cells (dS c.name Af c.fields.length nf c.line) 78)).alloc aJ (.cells #[] 9))
  have hone : ∀ u ∈ c.fields.map Value.string, u.oneCell' = true := by intro u hu; obtain ⟨s, -, rfl⟩ := List.mem_map.1 hu; rfl
  have hRF := lH (And.intro hrf hone)
  have bx := Blk.new wo 78 (dS c.name Af c.fields.length nf c.line)
  have zl := hown.alloc (.cells (dS c.name Af c.fields.length nf c.line) 78)
  have hm1 : c.fields.length ≤ maxLen := by unfold maxLen; omega
  have hm2 : c.fields.length * 16 ≤ 140737488355328 := ah
  have hm3 : (k + 1) * 48 ≤ 140737488355328 := ah
  have hz : w.heap.size ≤ wo.heap.size := hw.size
  have HRR := lH hR
  have HC := lH hc
  have HOW := lH hown
  clear hcr hfl hbm hbb hmem hc hrf hone hR hown
  go_wp2_with fail
  have ca := bx.drew.cell
  go_region_held3 (fun w' => ∀ i, w'.cell? (aj wo.heap.size i) = (dS c.name Af c.fields.length nf c.line : Array Value)[i]?)
   (first | exact ca | exact (bx.alloc _).cell | exact (bx.later hbA).cell | exact ((bx.later hbA).alloc _).cell | exact ((bx.later hbA).grown hgrow (fun e => Nat.lt_irrefl _ ((HOW.out.lt _ e.symm).2))).cell)
   (first
    | (refine Nh (w := wo.alloc (.cells (dS c.name Af c.fields.length nf c.line) 78)) (wo.heap.size + 1) av rfl (.tmp 16) (.tmp 18) 26 rfl 9 _ 1 16 AJ Tryz.underlying26 rfl aA rfl ⟨rfl, rfl, rfl, rfl⟩ lo hi _ c.fields.length (c.fields.map .string) rfl (hRF.out.1.same ⟨rfl, rfl, rfl, rfl⟩) hRF.out.2 hm1 hm2 ?_; intro v1 w2 Pw hbA; obtain ⟨A1, n1, rfl, -, -, -⟩ := (Rds.dU Pw).shape)
    | (refine zx (w := w2) w2.heap.size rfl rfl (.tmp 13) (.tmp 23) 25 rfl 78 _ 3 48 QA Tryz.underlying25 rfl aA aA w.heap.size _ _ _ rfl (fA zl hbA) (dS c.name A1 c.fields.length n1 c.line) 1 78 rfl ⟨rfl, rfl, rfl, rfl⟩ rfl eZ hm3 (nT (nT hz bw.size) hbA.size) ?_; intro v' w3 hown3 hgrow hat))
  have hbW := bw.trans (hbA.mono bw.size)
  have HP := lH (HRR.out.push HC.out hbW (qx Pw (fun g hg => nT av (Pw.lt g hg).1)) hown3 hgrow (by rcases hat with e | e; exact .inl e; exact .inr e))
  clear hbW hown3 hgrow hat Pw hbA ca zl bx bw q0 q1 q2
  go_wp2_with fail
  go_roundw
  case rel => exact ⟨k + 1, _, ah, by go_num, HP.out⟩
  simp [intOf]; omega
 obtain rfl : k = l.length := by omega
 go_wp2_with fail
 go_ret
 exact ⟨_, rfl, hR.made, hw⟩
end
end Go.Proofs.YthbcamfejgghhaaGreatDoor
