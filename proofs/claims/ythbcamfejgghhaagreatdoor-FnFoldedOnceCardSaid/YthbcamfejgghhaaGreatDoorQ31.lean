/- What the oZ functions do alike. The oZ YV expressions. The oZ case expressions. -/
import Derived.Test.YthbcamfejgghhaaGreatDoorQ19
set_option maxRecDepth 100000
set_option maxHeartbeats 8000000
set_option linter.unusedVariables false
set_option linter.unusedSimpArgs false
namespace Go.Proofs.YthbcamfejgghhaaGreatDoor
open Go.IntKind (i64)
section
open Go Go.RowKit
section
variable {P : Program} {ops : Array Oper} {Q : Exit → Act → World → Prop} {k : Nat}
theorem VX (N : Nat) (k : Nat) {id : Nat} {L : Array Bool} {a : Act} {w : World} {g : Nat} {t : TypeId} {cs : Array Value} (be : Blk w g t cs) (h : iG P .any ops Q (fun w' => ∀ i, w'.cell? (aj g i) = cs[i]?) k N L a w.drew) (hN : ops.size = N := by rfl) (hL : (List.replicate N false).toArray = L := by simp only [List.replicate] <;> rfl)
 (hm : P.follows .mixedOrders = true := by kernel_rfl) : (Code.region id ops true).wp P Q a w := jm N _ k h hN hL hm
end
structure KK (C : Prop) : Prop where
 out : C
theorem Blk.clf {w : World} {g : Nat} {t : TypeId} {cs : Array Value} (h : Blk w g t cs) : (∀ i, w.cell? (aj g i) = cs[i]?) ∧ g < w.heap.size ∧ ∀ i, w.frozen? (aj g i) = false := ⟨h.cell, h.lt, h.frozen⟩
section
variable {p : Nat} {ts : List eX} {w W : World} {a a1 : Nat} {bad gZ : Int} {s : Bool} {g : Nat} {t4 tt te : TypeId} {c4 ct ce ce' : Array Value} {v : Value} {R : World → Prop}
theorem tX {i : Nat} (hM : Hid (Mv p ts w a bad s W a1 gZ)) (lp : p < w.heap.size) (b4 : Blk W w.heap.size t4 c4) (bt : Blk W g tt ct) (be : Blk W (g + 1) te ce) (hg : w.heap.size < g)
 (k : ∀ W', W.heap.size ≤ W'.heap.size → Hid (Mv p ts w a bad s W' a1 gZ) → Blk W' w.heap.size t4 c4 → Blk W' g tt ct → Blk W' (g + 1) te ce' → (∀ i, W'.cell? (aj g i) = ct[i]?) → (∀ i, W'.cell? (aj (g + 1) i) = ce'[i]?) → (∀ i, W'.frozen? (aj (g + 1) i) = false) → g + 1 < W'.heap.size → R W')
 (hc : ce.setIfInBounds i v = ce' := by (try simp only [List.setIfInBounds_toArray, List.set_cons_zero, List.set_cons_succ]) <;> rfl) : R (W.setCell (aj (g + 1) i) v) := by
 subst hc
 have b := bt.far (p := ⟨g + 1, i, none⟩) (by show g ≠ g + 1; omega) v
 have e := be.aF i v
 exact k _ kr (hM.out.far lp (q := ⟨g + 1, i, none⟩) (by show w.heap.size ≤ g + 1; omega) v) (b4.far (p := ⟨g + 1, i, none⟩) (by show w.heap.size ≠ g + 1; omega) v) b e b.cell e.cell e.frozen e.lt
theorem VY {B : Nat} {et : TypeId} {l : List aH} {u : Value} {vs : List Value} (hM : Hid (Mv p ts w a bad s W a1 gZ)) (lp : p < w.heap.size) (b4 : Blk W w.heap.size t4 c4) (be : Blk W g te ce) (G : Hid (dL B [g] et 5 aH.aG W l u vs)) (hg : w.heap.size < g)
 (k : ∀ W', W.heap.size ≤ W'.heap.size → Hid (Mv p ts w a bad s W' a1 gZ) → Blk W' w.heap.size t4 c4 → Blk W' g te ce' → Hid (dL B [g] et 5 aH.aG W' l u vs) → R W')
 (hc : ce.setIfInBounds 4 v = ce' := by (try simp only [List.setIfInBounds_toArray, List.set_cons_zero, List.set_cons_succ]) <;> rfl) : R (W.setCell (aj g 4) v) := by
 subst hc
 exact k _ kr (hM.out.far lp (q := ⟨g, 4, none⟩) (by show w.heap.size ≤ g; omega) v) (b4.far (p := ⟨g, 4, none⟩) (by show w.heap.size ≠ g; omega) v) (be.aF 4 v) (G.out.set (q := ⟨g, 4, none⟩) (.inl av) v)
theorem mD {P : Program} {fn : Func} {Q : Ending → World → Prop} {act : Act} {t : TypeId} {u0 u1 u2 u3 u4 v0 v1 v2 v3 v4 : Value} (b4 : Blk W g t #[u0, u1, u2, u3, u4]) (hr : ∀ W' : World, (∀ i, W'.cell? (aj g i) = #[v0, v1, v2, v3, v4][i]?) → (results fn act.tmps).run P W' = .ok (.agg #[v0, v1, v2, v3, v4]) W') (hd : act.defers = [])
 (hR : Q (.returned (.agg #[v0, v1, v2, v3, v4])) (gU W g v0 v1 v2 v3 v4)) : bodyPost P fn Q .ret act (gU W g v0 v1 v2 v3 v4) :=
 bodyPost_ret (hr _ b4.gU.cell) hd hR
theorem gy {LINE : Int} (K : Int) (TX : ByteArray) (NUM : Int) {l : List aH} {A : Option Addr} {nn : Nat} {X : List Nat} {v0 v1 v2 v3 v4 : Value} (M : Hid (Mv p ts w a 0 s W a1 gZ)) (lp : p < w.heap.size) (ok : (aH.mk K TX NUM LINE l).Ok) (hq : gq W (w.heap.size + 1) X (.mk K TX NUM LINE l) A nn) (hs : s = true := by rfl) :
 KY p ts a 0 True w (.returned (.agg (ay K TX NUM LINE A l.length nn))) (gU W w.heap.size v0 v1 v2 v3 v4) := by
 subst hs
 exact ⟨_, A, nn, _, _, rfl, M.out.gU lp (nR _), fun _ => trivial, ok, (gJ.gU hq (.inr (Nat.lt_succ_self _))).to (Nat.le_succ _) (nR _)⟩
theorem okN {K NUM line : Int} {TX : ByteArray} {l : List aH} (h2 : 0 ≤ line) (h2' : line ≤ 100000) (h : ∀ x ∈ l, aH.Ok x) (h1 : TX.size ≤ 100000 := by exact nZ _) (h3 : -999999999999 ≤ NUM ∧ NUM ≤ 999999999999 := by decide) (h4 : K ≠ 20 := by decide) (h5 : l.length ≤ 100000 := by simp) (h6 : 0 ≤ K ∧ K ≤ 100 := by decide) : (aH.mk K TX NUM line l).Ok := nY _ _ _ _ _ h1 ⟨h2, h2'⟩ h3 (fun e => absurd e h4) h5 h6 h
theorem okL {K NUM line : Int} {TX : ByteArray} (h2 : 0 ≤ line) (h2' : line ≤ 100000) (h1 : TX.size ≤ 100000 := by exact nZ _) (h3 : -999999999999 ≤ NUM ∧ NUM ≤ 999999999999 := by decide) (h4 : K ≠ 20 := by decide) (h6 : 0 ≤ K ∧ K ≤ 100 := by decide) : (aH.mk K TX NUM line []).Ok := okN h2 h2' av h1 h3 h4 av h6
end
theorem xS {C P : Prop} (k : C) (h : KK C → P := by
 intro kk
 have cT := be.cell
 refine VX 9 8 be ?_
 have beD := be.drew
 have b4D := b4.drew
 have hGD := lH hG.out.drew
 have hMD := lH (hM.out.below ((Same.refl W).drew.below _))
 have wN : W.heap.size ≤ W.drew.heap.size := nR _
 generalize W.drew = Wd at *
 clear cT
 have cT := beD.cell
 refine tkB 0 cT ?_
 refine tkB 1 cT ?_
 refine tkB 2 cT ?_
 refine tkB 3 cT ?_
 refine rdA 4 (fun K hK => ?_)
 go_simp
 go_at_call 161
 refine (hL 1 hMD.out.ps HT.out ah ah).mono ?_
 rintro e wK ⟨c5, Ak, nk, a5, uk, rfl, hmv, -, hok, hin⟩
 have hMK := lH (hMD.out.step hmv)
 have beK := beD.grown hmv.gr aK
 have b4K := b4D.grown hmv.gr aK
 have hGK := lH (hGD.out.box hmv.gr ah)
 have hgK := lH hmv.gr
 have hsK := hmv.size
 have R6 := hGK.out.own
 have awK := hGK.out.away
 have ok5 := lH hok
 have hIN := lH hin
 clear hmv hok hin cT hMD beD b4D
 have cT := beK.cell
 have AW := lH awK
 clear awK
 unfold aH.cells
 try go_wp2_with fail
 refine fM hK cT ?_
 clear hK K
 refine rdA 5 (fun K hK => ?_)
 go_simp
 have cT2 := (beK.alloc (.cells (ay c5.kind c5.text c5.number c5.line Ak c5.kids.length nk) 179)).cell
 refine fM hK cT2 ?_
 clear hK K
 refine rdA 6 (fun K hK => ?_)
 refine rV (w := wK) rfl _ _ 177 rfl 179 _ 5 64 mJ Tryz.underlying177 rfl aA aA (w.heap.size + 1) _ _ _ rfl R6 (ay c5.kind c5.text c5.number c5.line Ak c5.kids.length nk) 1 179 rfl (Same.refl _) rfl eZ av ah ?_
 intro v' w5 Na hgr hat
 obtain ⟨A5, n5, rfl, -⟩ := (Rds.dU Na).shape
 have hX : ∀ x ∈ [w2.heap.size + 1], x < Wd.heap.size := aJ
 have G5 := lH (hGD.out.push hgK.out ah ah hX hIN.out Na hgr hat)
 have hM5 := lH (hMK.out.own lp hgr BI)
 have be5 := beK.grown hgr (fun e => (AW.out _ e.symm).2.1 av)
 have b45 := b4K.grown hgr GB
 have hsL := hgr.size
 clear cT cT2 Na R6 hgr hat hX hGK hMK beK b4K hIN hgK AW hGD
 have cT := be5.cell
 refine fM hK cT ?_
 clear hK K
 refine tkB 7 cT ?_
 refine rdA 8 (fun K hK => ?_)
 have fT := be5.frozen
 have lT := be5.lt
 go_simp
 refine rE hK ?_
 refine bY aI ?_ _
 refine VY hM5 lp b45 be5 G5 ah ?_
 clear cT fT lT hM5 be5 b45 G5
 intro W5 hz5
 have hz : W.heap.size ≤ W5.heap.size := ah
 clear hz5 hsL hsK wN
 intro hM b4 be hG
 generalize (Value.slice (some (aj wK.heap.size 0)) 1 1) = vK
 revert c5 Ak nk A5 n5 a5 uk W5 vK
 exact kk.out) : P := h ⟨k⟩
theorem Lt {C P : Prop} (k : C) (h : KK C → P := by
 intro kk
 refine (dP _ hM.out.ps HT.out).mono ?_
 rintro e w8 ⟨b, a8, rfl, hmv, -, -, -⟩
 have hz := hmv.size
 have hM8 := lH (hM.out.step hmv)
 have b48 := b4.grown hmv.gr aK
 have be8 := be.grown hmv.gr aK
 have hG8 := lH (hG.out.box hmv.gr ah)
 clear hmv
 revert b a8 w8
 exact kk.out) : P := h ⟨k⟩
theorem XK {C P : Prop} (k : C) (h : KK C → P := by
 intro kk
 refine (iP _ hM.out.ps HT.out).mono ?_
 rintro e w8 ⟨a8, D6, rfl, hmv, -⟩
 have hz := hmv.size
 have hM8 := lH (hM.out.step hmv)
 have b48 := b4.grown hmv.gr aK
 have be8 := be.grown hmv.gr aK
 have hG8 := lH (hG.out.box hmv.gr ah)
 clear hmv
 revert a8 D6 w8
 exact kk.out) : P := h ⟨k⟩
theorem R7 {C P : Prop} (k : C) (h : KK C → P := by
 intro kk
 refine (jL hM.out.ps HT.out).mono ?_
 rintro e w3 ⟨rfl, hb3⟩
 obtain ⟨t', ht'⟩ : ∃ t', gY ts (a + 1) = t' := ⟨_, rfl⟩
 rw [ht']
 clear ht'
 have hz := hb3.size
 have hM3 := lH (hM.out.below hb3)
 have b43 := b4.later hb3
 have be3 := be.later hb3
 have hG3 := lH (hG.out.later hb3)
 clear hb3
 revert t' w3
 exact kk.out) : P := h ⟨k⟩
theorem VZ {C P : Prop} (k : C) (h : KK C → P := by
 intro kk
 refine (nV _ _ _ _).mono ?_
 rintro e w8 ⟨b, rfl, hb4⟩
 have hz := hb4.size
 have hM8 := lH (hM.out.below hb4)
 have b48 := b4.later hb4
 have be8 := be.later hb4
 have hG8 := lH (hG.out.later hb4)
 clear hb4
 revert b w8
 exact kk.out) : P := h ⟨k⟩
end
section
open Go Go.RowKit
def CaseOk (deep : Int) : Prop := ∀ {p : Nat} {ts : List eX} {a : Nat} {bad : Int} {w : World} (line : Int), 0 ≤ line → line ≤ 100000 → Ps p ts w a bad → wM ts →
 Calls Tryz.prog 233 #[.pointer (some (aj p 0)), line, deep] w (KY p ts a bad True w)
theorem Nb {ts : List eX} {a : Nat} (h : (gY ts a).text.toList ≠ []) : a < ts.length := by
 by_cases ha : a < ts.length
 ·exact ha
 exact absurd (by unfold gY; rw [if_neg ha]; show (ByteArray.mk #[]).toList = []; rw [ByteArray.toList_eq]) h
theorem Ps.Nc {p : Nat} {ts : List eX} {w : World} {a : Nat} {bad : Int} (h : Ps p ts w a bad) (v : Value) : Ps p ts ((w.setCell (aj p 1) v).setCell (aj p 1) (.int i64 a)) a bad := by
 obtain ⟨A, n, h1, h2, h3⟩ := h
 exact ⟨A, n, (h1.aF 1 v).aF 1 _, (h2.gQ (.inr (nR _)) _).gQ (.inr (nR _)) _, h3⟩
theorem Mv.Nc {p : Nat} {ts : List eX} {w w1 : World} {a a1 : Nat} {bad gZ : Int} {s : Bool} (h : Mv p ts w a bad s w1 a1 gZ) (v : Value) : Mv p ts w a bad s ((w1.setCell (aj p 1) v).setCell (aj p 1) (.int i64 a1)) a1 gZ :=
 ⟨⟨dJ (dJ h.gr (jk _ _ _ _)) (jk _ _ _ _), h.ps.Nc v⟩, h.le, h.no, h.on⟩
theorem txs {x l : List UInt8} (h : x = l) {b5 b6 b8 b11 b12 : Bool} (hb : (l == [117, 110, 116, 105, 108]) = b5 ∧ (l == [101, 118, 101, 114, 121]) = b6 ∧ (l == [99, 114, 101, 97, 116, 101]) = b8 ∧ (l == [98, 114, 101, 97, 107]) = b11 ∧ (l == [115, 117, 115, 112, 101, 110, 100]) = b12) : (x == [117, 110, 116, 105, 108]) = b5 ∧ (x == [101, 118, 101, 114, 121]) = b6 ∧ (x == [99, 114, 101, 97, 116, 101]) = b8 ∧ (x == [98, 114, 101, 97, 107]) = b11 ∧ (x == [115, 117, 115, 112, 101, 110, 100]) = b12 := by
 subst h
 exact hb
theorem Tm (deep : Int) (hd0 : 0 ≤ deep) (hd1 : deep ≤ 1000) (hL : lY deep) (hI : vP deep) (hS : IY deep) (hC : CaseOk deep) : GY deep := by
 intro p ts a w h hT
 obtain ⟨t, ht⟩ : ∃ t, gY ts a = t := ⟨_, rfl⟩
 have hz0 := Classical.em ((t.kind == 1) = false ∧ (t.kind == 3) = false ∧ (t.kind == 4) = false ∧ (t.kind == 5) = false ∧ (t.kind == 6) = false ∧ (t.text.toList == [40]) = false ∧ (t.text.toList == [91]) = false ∧ (t.text.toList == [123]) = false ∧ (t.text.toList == [105, 102]) = false ∧ (t.text.toList == [119, 104, 105, 108, 101]) = false ∧ (t.text.toList == [117, 110, 116, 105, 108]) = false ∧ (t.text.toList == [101, 118, 101, 114, 121]) = false ∧ (t.text.toList == [114, 101, 112, 101, 97, 116]) = false ∧ (t.text.toList == [99, 114, 101, 97, 116, 101]) = false ∧ (t.text.toList == [99, 97, 115, 101]) = false ∧ (t.text.toList == [114, 101, 116, 117, 114, 110]) = false ∧ (t.text.toList == [98, 114, 101, 97, 107]) = false ∧ (t.text.toList == [115, 117, 115, 112, 101, 110, 100]) = false ∧ (t.text.toList == [102, 97, 105, 108]) = false ∧ (t.text.toList == [110, 101, 120, 116]) = false ∧ (t.text.toList == [100, 101, 102, 101, 114]) = false)
 replace hz0 : _ ∨ (a < ts.length ∧ ¬ _) := hz0.imp_right fun hz => ⟨Classical.byContradiction fun hA => hz (by
  have e1 : t.kind = 0 := Classical.byContradiction fun h => hA (xM (by rw [ht]; exact h))
  have e2 : t.text.toList = [] := Classical.byContradiction fun h => hA (Nb (by rw [ht]; exact h))
  rw [e1, e2]
  decide), hz⟩
 have HZ := lH hz0
 clear hz0
 have H := lH h
 have HT := lH hT
 have lp := h.lt
 have hl := hT.len
 have ha0 := h.le
 have htk := y8 hT a
 rw [ht] at htk
 obtain ⟨q1, q2, q3⟩ := htk
 have HTT := lH ht
 clear h hT ht
 obtain ⟨b4, hb0⟩ := dQ w 179 (ay 0 ⟨#[]⟩ 0 0 none 0 0)
 go_in
 go_wp2_with fail
 refine (jL (H.out.below hb0) HT.out).mono ?_
 rintro e w2 ⟨rfl, hb⟩
 rw [HTT.out]
 clear HTT
 have hb2 := hb0.trans (hb.mono hb0.size)
 have hw2 : w.heap.size + 1 ≤ w2.heap.size := by have := hb.size; simpa using this
 replace b4 := ((b4.later hb).alloc (.cells (aV t.kind t.text t.line) 171)).alloc (.cells (ay 0 aC 0 t.line none 0 0) 179)
 have bt := (Blk.new w2 171 (aV t.kind t.text t.line)).alloc (.cells (ay 0 aC 0 t.line none 0 0) 179)
 have be := Blk.newAt (w2.alloc (.cells (aV t.kind t.text t.line) 171)) 179 (ay 0 aC 0 t.line none 0 0) (w2.heap.size + 1) av
 have hM := lH (((Mv.start H.out).below hb2).below (((bR _ _).alloc (nR _) (.cells (aV t.kind t.text t.line) 171)).alloc av (.cells (ay 0 aC 0 t.line none 0 0) 179)))
 have Xt : w2.heap.size + 2 ≤ ((w2.alloc (.cells (aV t.kind t.text t.line) 171)).alloc (.cells (ay 0 aC 0 t.line none 0 0) 179)).heap.size := av
 clear hb hb0 hb2 H
 go_upto_region 3 with fail
 generalize (w2.alloc (.cells (aV t.kind t.text t.line) 171)).alloc (.cells (ay 0 aC 0 t.line none 0 0) 179) = W at *
 have p2 := hM.out.ps.j5
 have p1 := hM.out.ps.at1
 have f1 := hM.out.ps.frz 1
 have hwr : IntKind.i64.wrap ((a : Int) + 1) = (a : Int) + 1 := IntWalk.i64_in _ ah
 rcases HZ.out with hz | ⟨hA, hz⟩
 ·obtain ⟨k1, k3, k4, k5, k6, s0, s1, s2, s3, s4, s5, s6, s7, s8, s9, s10, s11, s12, s13, s14, s15⟩ := hz
  have hwm : IntKind.i64.wrap ((a : Int) + 1 - 1) = (a : Int) := by rw [show (a : Int) + 1 - 1 = (a : Int) by omega]; exact IntWalk.i64_in _ ah
  have hwn : IntKind.i64.wrap (a : Int) = (a : Int) := IntWalk.i64_in _ ah
  have ct := bt.cell
  have ce := be.cell
  go_upto_region 89 with fail
  replace hM := lH (hM.out.Nc (.int i64 ((a : Int) + 1)))
  replace be := (be.far (p := ⟨p, 1, none⟩) Gu (.int i64 ((a : Int) + 1))).far (p := ⟨p, 1, none⟩) Gu (.int i64 (a : Int))
  replace b4 := (b4.far (p := ⟨p, 1, none⟩) qQ (.int i64 ((a : Int) + 1))).far (p := ⟨p, 1, none⟩) qQ (.int i64 (a : Int))
  clear ct ce p1 p2 f1 hwr hwm hwn bt
  generalize (W.setCell (aj p 1) (.int i64 ((a : Int) + 1))).setCell (aj p 1) (.int i64 (a : Int)) = W1 at *
  exact JN
 clear HZ
 have HZ := lH hz
 clear hz
 go_upto_region 6 with fail
 replace hM := lH (hM.out.setAt (x := (a : Int) + 1) ah hA)
 replace be := be.far (p := ⟨p, 1, none⟩) Gu (.int i64 ((a : Int) + 1))
 replace b4 := b4.far (p := ⟨p, 1, none⟩) qQ (.int i64 ((a : Int) + 1))
 replace bt := bt.far (p := ⟨p, 1, none⟩) Ce (.int i64 ((a : Int) + 1))
 have hz1 : w2.heap.size + 2 ≤ (W.setCell (aj p 1) (.int i64 ((a : Int) + 1))).heap.size := by simp [World.setCell]; omega
 clear p1 p2 f1 hwr Xt
 generalize W.setCell (aj p 1) (.int i64 ((a : Int) + 1)) = W at *
 have ct := bt.cell
 have ce := be.cell
 rcases bE (t.kind == 1) with k1 | k1
 ·obtain ⟨c4, l4, f4⟩ := b4.clf
  go_wp2_with fail
  refine mD b4 (fun W' cF => ?_) rfl (gy 4 t.text 0 hM lp (okL q2 q3 q1) (.leaf (X := []) _ _ _ _))
  exact fQ
 rcases bE (t.kind == 3) with k3 | k3
 ·go_wp2_with fail
  refine (mH _ _ ah).mono ?_
  rintro e w3 ⟨rfl, rfl⟩
  cases hv : eB t.text with
  | none =>
    simp only [iZ]
    obtain ⟨c4, l4, f4⟩ := b4.clf
    go_wp2_with fail
    refine mD b4 (fun W' cF => ?_) rfl (gy 1 aC 0 hM lp (okL q2 q3) (.leaf (X := []) _ _ _ _))
    exact fQ
  | some v =>
    have hbd := kY hv
    simp only [iZ]
    obtain ⟨c4, l4, f4⟩ := b4.clf
    go_wp2_with fail
    refine mD b4 (fun W' cF => ?_) rfl (gy 1 aC v hM lp (okL q2 q3 (nZ _) ⟨ah, ah⟩) (.leaf (X := []) _ _ _ _))
    exact fQ
 rcases bE (t.kind == 4) with k4 | k4
 ·have e4 : t.kind = 4 := by simpa using k4
  exact JQ
 rcases bE (t.kind == 5) with k5 | k5
 ·have e4 : t.kind = 5 := by simpa using k5
  exact JQ
 rcases bE (t.kind == 6) with k6 | k6
 ·obtain ⟨c4, l4, f4⟩ := b4.clf
  go_wp2_with fail
  refine mD b4 (fun W' cF => ?_) rfl (gy 5 t.text 0 hM lp (okL q2 q3 q1) (.leaf (X := []) _ _ _ _))
  exact fQ
 rcases bE (t.text.toList == [40]) with s0 | s0
 ·go_wp2_with fail
  refine (mK _ hM.out.ps HT.out).mono ?_
  rintro e w3 ⟨b, rfl, hb3, -⟩
  replace hM := lH (hM.out.below hb3)
  replace be := be.later hb3
  replace b4 := b4.later hb3
  have hs3 := hb3.size
  clear hb3 ct ce bt
  cases b with
  | true =>
    exact JN
  | false =>
    go_wp2_with fail
    refine (hI _ hM.out.ps HT.out).mono ?_
    rintro e w6 ⟨l, A6, n6, a6, EA, rfl, hmv, hl6, hok, hown⟩
    have hM6 := lH (hM.out.step hmv)
    replace be := be.grown hmv.gr aK
    replace b4 := b4.grown hmv.gr aK
    have hs6 := hmv.size
    have ht6 := hmv.top
    have R8 : l.length ≤ 100000 := ah
    have HOK := lH hok
    clear hmv hok hl6 hM
    by_cases hlen : l.length = 1
    ·obtain ⟨x, rfl⟩ := List.length_eq_one_iff.1 hlen
     obtain ⟨us, hrd, hou, -⟩ := gD.out hown
     rw [cK, fC, List.append_nil] at hou
     obtain ⟨Ax, nx, rfl, -⟩ := zV.out hou
     obtain ⟨A', c', hv, -, -, -, -, h4⟩ := hrd
     obtain ⟨g, off, rfl, hg1, hg2, hcell⟩ := h4 av
     injection hv with hv1 hv2 hv3
     subst hv1 hv3
     have x0 : w6.cell? (aj g off) = some (.int i64 x.kind) := hcell 0 _ rfl
     have x1 : w6.cell? (aj g (off + 1)) = some (.string x.text) := hcell 1 _ rfl
     have x2 : w6.cell? (aj g (off + 2)) = some (.int i64 x.number) := hcell 2 _ rfl
     have x3 : w6.cell? (aj g (off + 3)) = some (.int i64 x.line) := hcell 3 _ rfl
     have x4 : w6.cell? (aj g (off + 4)) = some (.slice Ax x.kids.length nx) := hcell 4 _ rfl
     have hQ := lH (gJ.of (B := w.heap.size + 1) (X := []) hou ah av)
     clear hown hou hlen hcell h4 hv2
     obtain ⟨c4, l4, f4⟩ := b4.clf
     go_wp2_with fail
     refine mD b4 (fun W' cF => ?_) rfl ⟨x, Ax, nx, _, _, rfl, (by simpa using (hM6.out.gU lp (nR _))), fun _ => trivial, HOK.out x av, (hQ.out.gU (.inr (Nat.lt_succ_self _))).to (Nat.le_succ _) (nR _)⟩
     exact fQ
    have hne : ((l.length : Int) == 1) = false := aJ
    clear hlen
    have hQ6 : Hid (gJ w6 (w.heap.size + 1) [w2.heap.size + 1] [.row 5 l.length (flat aH.aG l)] [.slice A6 l.length n6]) := by obtain ⟨F, g1, g2, g3⟩ := hown; exact ⟨F ++ [], .aN g1 .eO, by simpa using g2, fun g hg => ⟨by have := (g3 g jK).1; omega, fun hx => by have := (g3 g jK).1; have := mS hx; omega⟩⟩
    clear hown
    obtain ⟨c6, l6, f6⟩ := be.clf
    go_upto_region 26 with fail
    replace hM6 := lH (hM6.out.far lp (q := ⟨w2.heap.size + 1, 0, none⟩) qN (.int i64 29))
    replace b4 := b4.far (p := ⟨w2.heap.size + 1, 0, none⟩) yT (.int i64 29)
    replace hQ6 := lH (hQ6.out.set (q := ⟨w2.heap.size + 1, 0, none⟩) (.inl av) (.int i64 29))
    replace be := be.aF 0 (.int i64 29)
    clear c6 f6 l6
    generalize w6.setCell (aj (w2.heap.size + 1) 0) (.int i64 29) = W7 at *
    obtain ⟨c6, l6, f6⟩ := be.clf
    go_upto_region 27 with fail
    replace hM6 := lH (hM6.out.far lp (q := ⟨w2.heap.size + 1, 4, none⟩) qN (.slice A6 l.length n6))
    replace b4 := b4.far (p := ⟨w2.heap.size + 1, 4, none⟩) yT (.slice A6 l.length n6)
    replace hQ6 := lH (hQ6.out.set (q := ⟨w2.heap.size + 1, 4, none⟩) (.inl av) (.slice A6 l.length n6))
    replace be := be.aF 4 (.slice A6 l.length n6)
    clear c6 f6 l6
    generalize W7.setCell (aj (w2.heap.size + 1) 4) (.slice A6 l.length n6) = W8 at *
    have ce := be.cell
    obtain ⟨c4, l4, f4⟩ := b4.clf
    go_wp2_with fail
    refine mD b4 (fun W' cF => ?_) rfl (gy 29 aC 0 hM6 lp (okN q2 q3 HOK.out (nZ _) aA aA R8) (.node hQ6.out _ _ _ _))
    exact fQ
 rcases bE (t.text.toList == [91]) with s1 | s1
 ·obtain ⟨-, le, fe⟩ := be.clf
  go_upto_region 29 with fail
  go_upto_region 30 with fail
  refine tX hM lp b4 bt be hw2 ?_
  clear hM b4 bt be ct ce fe le
  intro W hz hM b4 bt be ct ce fe le
  clear ct bt ce fe le
  go_wp2_with fail
  refine (hI _ hM.out.ps HT.out).mono ?_
  rintro e w6 ⟨l, A6, n6, a6, EA, rfl, hmv, hl6, hok, hown⟩
  have hM6 := lH (hM.out.step hmv)
  replace be := be.grown hmv.gr aK
  replace b4 := b4.grown hmv.gr aK
  have hQ6 : Hid (gJ w6 (w.heap.size + 1) [w2.heap.size + 1] [.row 5 l.length (flat aH.aG l)] [.slice A6 l.length n6]) := by obtain ⟨F, g1, g2, g3⟩ := hown; exact ⟨F ++ [], .aN g1 .eO, by simpa using g2, fun g hg => ⟨by have := (g3 g jK).1; omega, fun hx => by have := (g3 g jK).1; have := mS hx; omega⟩⟩
  have hs6 := hmv.size
  have ht6 := hmv.top
  have R8 : l.length ≤ 100000 := ah
  have HOK := lH hok
  clear hmv hown hok hl6
  obtain ⟨c6, l6, f6⟩ := be.clf
  go_upto_region 31 with fail
  replace hM6 := lH (hM6.out.far lp (q := ⟨w2.heap.size + 1, 4, none⟩) qN (.slice A6 l.length n6))
  replace b4 := b4.far (p := ⟨w2.heap.size + 1, 4, none⟩) yT (.slice A6 l.length n6)
  replace hQ6 := lH (hQ6.out.set (q := ⟨w2.heap.size + 1, 4, none⟩) (.inl av) (.slice A6 l.length n6))
  replace be := be.aF 4 (.slice A6 l.length n6)
  clear c6 f6 l6
  generalize w6.setCell (aj (w2.heap.size + 1) 4) (.slice A6 l.length n6) = W7 at *
  have ce := be.cell
  obtain ⟨c4, l4, f4⟩ := b4.clf
  go_wp2_with fail
  refine mD b4 (fun W' cF => ?_) rfl (gy 6 aC 0 hM6 lp (okN q2 q3 HOK.out (nZ _) aA aA R8) (.node hQ6.out _ _ _ _))
  exact fQ
 rcases bE (t.text.toList == [123]) with s2 | s2
 ·obtain ⟨-, le, fe⟩ := be.clf
  go_upto_region 33 with fail
  go_upto_region 34 with fail
  refine tX hM lp b4 bt be hw2 ?_
  clear hM b4 bt be ct ce fe le
  intro W hz hM b4 bt be ct ce fe le
  clear ct bt ce fe le
  go_wp2_with fail
  refine (hS _ hM.out.ps HT.out).mono ?_
  rintro e w6 ⟨l, A6, n6, a6, EA, rfl, hmv, hl6, hok, hown⟩
  have hM6 := lH (hM.out.step hmv)
  replace be := be.grown hmv.gr aK
  replace b4 := b4.grown hmv.gr aK
  have hQ6 : Hid (gJ w6 (w.heap.size + 1) [w2.heap.size + 1] [.row 5 l.length (flat aH.aG l)] [.slice A6 l.length n6]) := by obtain ⟨F, g1, g2, g3⟩ := hown; exact ⟨F ++ [], .aN g1 .eO, by simpa using g2, fun g hg => ⟨by have := (g3 g jK).1; omega, fun hx => by have := (g3 g jK).1; have := mS hx; omega⟩⟩
  have hs6 := hmv.size
  have ht6 := hmv.top
  have R8 : l.length ≤ 100000 := ah
  have HOK := lH hok
  clear hmv hown hok hl6
  obtain ⟨c6, l6, f6⟩ := be.clf
  go_upto_region 35 with fail
  replace hM6 := lH (hM6.out.far lp (q := ⟨w2.heap.size + 1, 4, none⟩) qN (.slice A6 l.length n6))
  replace b4 := b4.far (p := ⟨w2.heap.size + 1, 4, none⟩) yT (.slice A6 l.length n6)
  replace hQ6 := lH (hQ6.out.set (q := ⟨w2.heap.size + 1, 4, none⟩) (.inl av) (.slice A6 l.length n6))
  replace be := be.aF 4 (.slice A6 l.length n6)
  clear c6 f6 l6
  generalize w6.setCell (aj (w2.heap.size + 1) 4) (.slice A6 l.length n6) = W7 at *
  have ce := be.cell
  obtain ⟨c4, l4, f4⟩ := b4.clf
  go_wp2_with fail
  refine mD b4 (fun W' cF => ?_) rfl (gy 14 aC 0 hM6 lp (okN q2 q3 HOK.out (nZ _) aA aA R8) (.node hQ6.out _ _ _ _))
  exact fQ
 rcases bE (t.text.toList == [105, 102]) with s3 | s3
 ·obtain ⟨-, le, fe⟩ := be.clf
  go_upto_region 37 with fail
  go_upto_region 38 with fail
  refine tX hM lp b4 bt be hw2 ?_
  clear hM b4 bt be ct ce fe le
  intro W hz hM b4 bt be ct ce fe le
  have hG : Hid (dL (w.heap.size + 1) [w2.heap.size + 1] 179 5 aH.aG W ([] : List aH) (.slice none 0 0) []) := dL.none_
  clear ct bt ce fe le
  refine xS ?_
  clear hM b4 be hG
  intro c5 Ak nk a5 uk ok5 A5 n5 W hz hM b4 be hG vK
  go_wp2_with fail
  refine XK ?_
  clear hM b4 be hG
  intro W a6 EA hz hM b4 be hG
  go_upto_region 40 with fail
  refine xS ?_
  clear hM b4 be hG
  intro c7 Ak nk a7 uD ok7 A7 n7 W hz hM b4 be hG vK
  go_wp2_with fail
  refine Lt ?_
  clear hM b4 be hG
  intro W b a8 hz hM b4 be hG
  cases b with
  | true =>
    go_upto_region 42 with fail
    refine xS ?_
    clear hM b4 be hG
    intro c9 Ak nk a9 Xr ok9 A9 n9 W hz hM b4 be hG vK
    have ce := be.cell
    obtain ⟨c4, l4, f4⟩ := b4.clf
    go_wp2_with fail
    refine mD b4 (fun W' cF => ?_) rfl (gy 15 aC 0 hM lp (okN q2 q3 (ok3 ok5.out ok7.out ok9.out)) (gq.node (l := [c5, c7, c9]) hG.out.row _ _ _ _))
    exact fQ
  | false =>
    have ce := be.cell
    obtain ⟨c4, l4, f4⟩ := b4.clf
    go_wp2_with fail
    refine mD b4 (fun W' cF => ?_) rfl (gy 15 aC 0 hM lp (okN q2 q3 (ok2 ok5.out ok7.out)) (gq.node (l := [c5, c7]) hG.out.row _ _ _ _))
    exact fQ
 rcases bE (t.text.toList == [119, 104, 105, 108, 101]) with s4 | s4
 ·obtain ⟨-, le, fe⟩ := be.clf
  obtain ⟨s5, s6, s8, s11, s12⟩ := txs (b5 := false) (b6 := false) (b8 := false) (b11 := false) (b12 := false) (eq_of_beq s4) aA
  go_upto_region 48 with fail
  refine tX hM lp b4 bt be hw2 ?_
  clear hM b4 bt be ct ce fe le
  intro W hz hM b4 bt be ct ce fe le
  go_upto_region 52 with fail
  have hG : Hid (dL (w.heap.size + 1) [w2.heap.size + 1] 179 5 aH.aG W ([] : List aH) (.slice none 0 0) []) := dL.none_
  clear ct bt ce fe le
  refine xS ?_
  clear hM b4 be hG
  intro c5 Ak nk a5 uk ok5 A5 n5 W hz hM b4 be hG vK
  go_wp2_with fail
  refine Lt ?_
  clear hM b4 be hG
  intro W b a6 hz hM b4 be hG
  cases b with
  | true =>
    go_upto_region 54 with fail
    refine xS ?_
    clear hM b4 be hG
    intro c7 Ak nk a7 uD ok7 A7 n7 W hz hM b4 be hG vK
    have ce := be.cell
    obtain ⟨c4, l4, f4⟩ := b4.clf
    go_wp2_with fail
    refine mD b4 (fun W' cF => ?_) rfl (gy 16 aC 0 hM lp (okN q2 q3 (ok2 ok5.out ok7.out)) (gq.node (l := [c5, c7]) hG.out.row _ _ _ _))
    exact fQ
  | false =>
    have ce := be.cell
    obtain ⟨c4, l4, f4⟩ := b4.clf
    go_wp2_with fail
    refine mD b4 (fun W' cF => ?_) rfl (gy 16 aC 0 hM lp (okN q2 q3 (ok1 ok5.out)) (gq.node (l := [c5]) hG.out.row _ _ _ _))
    exact fQ
 rcases bE (t.text.toList == [117, 110, 116, 105, 108]) with s5 | s5
 ·obtain ⟨-, le, fe⟩ := be.clf
  obtain ⟨s5, s6, s8, s11, s12⟩ := txs (b5 := true) (b6 := false) (b8 := false) (b11 := false) (b12 := false) (eq_of_beq s5) aA
  go_upto_region 48 with fail
  refine tX hM lp b4 bt be hw2 ?_
  clear hM b4 bt be ct ce fe le
  intro W hz hM b4 bt be ct ce fe le
  go_upto_region 50 with fail
  refine tX hM lp b4 bt be hw2 ?_
  clear hM b4 bt be ct ce fe le
  intro W hz hM b4 bt be ct ce fe le
  go_upto_region 52 with fail
  have hG : Hid (dL (w.heap.size + 1) [w2.heap.size + 1] 179 5 aH.aG W ([] : List aH) (.slice none 0 0) []) := dL.none_
  clear ct bt ce fe le
  refine xS ?_
  clear hM b4 be hG
  intro c5 Ak nk a5 uk ok5 A5 n5 W hz hM b4 be hG vK
  go_wp2_with fail
  refine Lt ?_
  clear hM b4 be hG
  intro W b a6 hz hM b4 be hG
  cases b with
  | true =>
    go_upto_region 54 with fail
    refine xS ?_
    clear hM b4 be hG
    intro c7 Ak nk a7 uD ok7 A7 n7 W hz hM b4 be hG vK
    have ce := be.cell
    obtain ⟨c4, l4, f4⟩ := b4.clf
    go_wp2_with fail
    refine mD b4 (fun W' cF => ?_) rfl (gy 17 aC 0 hM lp (okN q2 q3 (ok2 ok5.out ok7.out)) (gq.node (l := [c5, c7]) hG.out.row _ _ _ _))
    exact fQ
  | false =>
    have ce := be.cell
    obtain ⟨c4, l4, f4⟩ := b4.clf
    go_wp2_with fail
    refine mD b4 (fun W' cF => ?_) rfl (gy 17 aC 0 hM lp (okN q2 q3 (ok1 ok5.out)) (gq.node (l := [c5]) hG.out.row _ _ _ _))
    exact fQ
 rcases bE (t.text.toList == [101, 118, 101, 114, 121]) with s6 | s6
 ·obtain ⟨-, le, fe⟩ := be.clf
  obtain ⟨s5, s6, s8, s11, s12⟩ := txs (b5 := false) (b6 := true) (b8 := false) (b11 := false) (b12 := false) (eq_of_beq s6) aA
  go_upto_region 48 with fail
  refine tX hM lp b4 bt be hw2 ?_
  clear hM b4 bt be ct ce fe le
  intro W hz hM b4 bt be ct ce fe le
  go_upto_region 52 with fail
  refine tX hM lp b4 bt be hw2 ?_
  clear hM b4 bt be ct ce fe le
  intro W hz hM b4 bt be ct ce fe le
  have hG : Hid (dL (w.heap.size + 1) [w2.heap.size + 1] 179 5 aH.aG W ([] : List aH) (.slice none 0 0) []) := dL.none_
  clear ct bt ce fe le
  refine xS ?_
  clear hM b4 be hG
  intro c5 Ak nk a5 uk ok5 A5 n5 W hz hM b4 be hG vK
  go_wp2_with fail
  refine Lt ?_
  clear hM b4 be hG
  intro W b a6 hz hM b4 be hG
  cases b with
  | true =>
    go_upto_region 54 with fail
    refine xS ?_
    clear hM b4 be hG
    intro c7 Ak nk a7 uD ok7 A7 n7 W hz hM b4 be hG vK
    have ce := be.cell
    obtain ⟨c4, l4, f4⟩ := b4.clf
    go_wp2_with fail
    refine mD b4 (fun W' cF => ?_) rfl (gy 18 aC 0 hM lp (okN q2 q3 (ok2 ok5.out ok7.out)) (gq.node (l := [c5, c7]) hG.out.row _ _ _ _))
    exact fQ
  | false =>
    have ce := be.cell
    obtain ⟨c4, l4, f4⟩ := b4.clf
    go_wp2_with fail
    refine mD b4 (fun W' cF => ?_) rfl (gy 18 aC 0 hM lp (okN q2 q3 (ok1 ok5.out)) (gq.node (l := [c5]) hG.out.row _ _ _ _))
    exact fQ
 rcases bE (t.text.toList == [114, 101, 112, 101, 97, 116]) with s7 | s7
 ·obtain ⟨-, le, fe⟩ := be.clf
  obtain ⟨s5, s6, s8, s11, s12⟩ := txs (b5 := false) (b6 := false) (b8 := false) (b11 := false) (b12 := false) (eq_of_beq s7) aA
  go_upto_region 59 with fail
  refine tX hM lp b4 bt be hw2 ?_
  clear hM b4 bt be ct ce fe le
  intro W hz hM b4 bt be ct ce fe le
  go_upto_region 61 with fail
  have hG : Hid (dL (w.heap.size + 1) [w2.heap.size + 1] 179 5 aH.aG W ([] : List aH) (.slice none 0 0) []) := dL.none_
  clear ct bt ce fe le
  refine xS ?_
  clear hM b4 be hG
  intro c5 Ak nk a5 uk ok5 A5 n5 W hz hM b4 be hG vK
  have ce := be.cell
  obtain ⟨c4, l4, f4⟩ := b4.clf
  go_wp2_with fail
  refine mD b4 (fun W' cF => ?_) rfl (gy 19 aC 0 hM lp (okN q2 q3 (ok1 ok5.out)) (gq.node (l := [c5]) hG.out.row _ _ _ _))
  exact fQ
 rcases bE (t.text.toList == [99, 114, 101, 97, 116, 101]) with s8 | s8
 ·obtain ⟨-, le, fe⟩ := be.clf
  obtain ⟨s5, s6, s8, s11, s12⟩ := txs (b5 := false) (b6 := false) (b8 := true) (b11 := false) (b12 := false) (eq_of_beq s8) aA
  go_upto_region 59 with fail
  refine tX hM lp b4 bt be hw2 ?_
  clear hM b4 bt be ct ce fe le
  intro W hz hM b4 bt be ct ce fe le
  go_upto_region 61 with fail
  refine tX hM lp b4 bt be hw2 ?_
  clear hM b4 bt be ct ce fe le
  intro W hz hM b4 bt be ct ce fe le
  have hG : Hid (dL (w.heap.size + 1) [w2.heap.size + 1] 179 5 aH.aG W ([] : List aH) (.slice none 0 0) []) := dL.none_
  clear ct bt ce fe le
  refine xS ?_
  clear hM b4 be hG
  intro c5 Ak nk a5 uk ok5 A5 n5 W hz hM b4 be hG vK
  have ce := be.cell
  obtain ⟨c4, l4, f4⟩ := b4.clf
  go_wp2_with fail
  refine mD b4 (fun W' cF => ?_) rfl (gy 26 aC 0 hM lp (okN q2 q3 (ok1 ok5.out)) (gq.node (l := [c5]) hG.out.row _ _ _ _))
  exact fQ
 rcases bE (t.text.toList == [99, 97, 115, 101]) with s9 | s9
 ·obtain ⟨s5, s6, s8, s11, s12⟩ := txs (b5 := false) (b6 := false) (b8 := false) (b11 := false) (b12 := false) (eq_of_beq s9) aA
  go_wp2_with fail
  refine (hC t.line q2 q3 hM.out.ps HT.out).mono ?_
  rintro e w3 ⟨c, Ac, nc, a3, mI, rfl, hmv, -, hok, hin⟩
  have hM3 := lH (hM.out.step hmv)
  have b43 := b4.grown hmv.gr aK
  have hQ3 := lH (gJ.of (B := w.heap.size + 1) (X := []) hin ah av)
  have hOK := lH hok
  clear hmv hin hok
  unfold aH.cells
  replace b4 := b43
  clear b43
  obtain ⟨c4, l4, f4⟩ := b4.clf
  go_wp2_with fail
  refine mD b4 (fun W' cF => ?_) rfl ⟨c, Ac, nc, _, _, rfl, (by simpa using (hM3.out.gU lp (nR _))), fun _ => trivial, hOK.out, (hQ3.out.gU (.inr (Nat.lt_succ_self _))).to (Nat.le_succ _) (nR _)⟩
  exact fQ
 rcases bE (t.text.toList == [114, 101, 116, 117, 114, 110]) with s10 | s10
 ·obtain ⟨-, le, fe⟩ := be.clf
  obtain ⟨s5, s6, s8, s11, s12⟩ := txs (b5 := false) (b6 := false) (b8 := false) (b11 := false) (b12 := false) (eq_of_beq s10) aA
  go_upto_region 69 with fail
  refine tX hM lp b4 bt be hw2 ?_
  clear hM b4 bt be ct ce fe le
  intro W hz hM b4 bt be ct ce fe le
  go_upto_region 73 with fail
  have hG : Hid (dL (w.heap.size + 1) [w2.heap.size + 1] 179 5 aH.aG W ([] : List aH) (.slice none 0 0) []) := dL.none_
  clear ct bt ce fe le
  go_wp2_with fail
  refine R7 ?_
  clear hM b4 be hG
  intro W t' hz hM b4 be hG
  go_wp2_with fail
  refine VZ ?_
  clear hM b4 be hG
  intro W b hz hM b4 be hG
  cases b with
  | true =>
    go_upto_region 74 with fail
    refine xS ?_
    clear hM b4 be hG
    intro c5 Ak nk a5 uk ok5 A5 n5 W hz hM b4 be hG vK
    have ce := be.cell
    obtain ⟨c4, l4, f4⟩ := b4.clf
    go_wp2_with fail
    refine mD b4 (fun W' cF => ?_) rfl (gy 21 aC 0 hM lp (okN q2 q3 (ok1 ok5.out)) (gq.node (l := [c5]) hG.out.row _ _ _ _))
    exact fQ
  | false =>
    have ce := be.cell
    obtain ⟨c4, l4, f4⟩ := b4.clf
    go_wp2_with fail
    refine mD b4 (fun W' cF => ?_) rfl (gy 21 aC 0 hM lp (okN q2 q3 av) (gq.node (l := []) hG.out.row _ _ _ _))
    exact fQ
 rcases bE (t.text.toList == [98, 114, 101, 97, 107]) with s11 | s11
 ·obtain ⟨-, le, fe⟩ := be.clf
  obtain ⟨s5, s6, s8, s11, s12⟩ := txs (b5 := false) (b6 := false) (b8 := false) (b11 := true) (b12 := false) (eq_of_beq s11) aA
  go_upto_region 69 with fail
  refine tX hM lp b4 bt be hw2 ?_
  clear hM b4 bt be ct ce fe le
  intro W hz hM b4 bt be ct ce fe le
  go_upto_region 71 with fail
  refine tX hM lp b4 bt be hw2 ?_
  clear hM b4 bt be ct ce fe le
  intro W hz hM b4 bt be ct ce fe le
  go_upto_region 73 with fail
  have hG : Hid (dL (w.heap.size + 1) [w2.heap.size + 1] 179 5 aH.aG W ([] : List aH) (.slice none 0 0) []) := dL.none_
  clear ct bt ce fe le
  go_wp2_with fail
  refine R7 ?_
  clear hM b4 be hG
  intro W t' hz hM b4 be hG
  go_wp2_with fail
  refine VZ ?_
  clear hM b4 be hG
  intro W b hz hM b4 be hG
  cases b with
  | true =>
    go_upto_region 74 with fail
    refine xS ?_
    clear hM b4 be hG
    intro c5 Ak nk a5 uk ok5 A5 n5 W hz hM b4 be hG vK
    have ce := be.cell
    obtain ⟨c4, l4, f4⟩ := b4.clf
    go_wp2_with fail
    refine mD b4 (fun W' cF => ?_) rfl (gy 24 aC 0 hM lp (okN q2 q3 (ok1 ok5.out)) (gq.node (l := [c5]) hG.out.row _ _ _ _))
    exact fQ
  | false =>
    have ce := be.cell
    obtain ⟨c4, l4, f4⟩ := b4.clf
    go_wp2_with fail
    refine mD b4 (fun W' cF => ?_) rfl (gy 24 aC 0 hM lp (okN q2 q3 av) (gq.node (l := []) hG.out.row _ _ _ _))
    exact fQ
 rcases bE (t.text.toList == [115, 117, 115, 112, 101, 110, 100]) with s12 | s12
 ·obtain ⟨-, le, fe⟩ := be.clf
  obtain ⟨s5, s6, s8, s11, s12⟩ := txs (b5 := false) (b6 := false) (b8 := false) (b11 := false) (b12 := true) (eq_of_beq s12) aA
  go_upto_region 69 with fail
  refine tX hM lp b4 bt be hw2 ?_
  clear hM b4 bt be ct ce fe le
  intro W hz hM b4 bt be ct ce fe le
  go_upto_region 73 with fail
  refine tX hM lp b4 bt be hw2 ?_
  clear hM b4 bt be ct ce fe le
  intro W hz hM b4 bt be ct ce fe le
  have hG : Hid (dL (w.heap.size + 1) [w2.heap.size + 1] 179 5 aH.aG W ([] : List aH) (.slice none 0 0) []) := dL.none_
  clear ct bt ce fe le
  go_wp2_with fail
  refine R7 ?_
  clear hM b4 be hG
  intro W t' hz hM b4 be hG
  go_wp2_with fail
  refine VZ ?_
  clear hM b4 be hG
  intro W b hz hM b4 be hG
  cases b with
  | true =>
    go_upto_region 74 with fail
    refine xS ?_
    clear hM b4 be hG
    intro c5 Ak nk a5 uk ok5 A5 n5 W hz hM b4 be hG vK
    have ce := be.cell
    go_wp2_with fail
    refine Lt ?_
    clear hM b4 be hG
    intro W b a6 hz hM b4 be hG
    cases b with
    | true =>
      clear ce
      go_upto_region 76 with fail
      refine xS ?_
      clear hM b4 be hG
      intro c7 Ak nk a7 uD ok7 A7 n7 W hz hM b4 be hG vK
      have ce := be.cell
      obtain ⟨c4, l4, f4⟩ := b4.clf
      go_wp2_with fail
      refine mD b4 (fun W' cF => ?_) rfl (gy 22 aC 0 hM lp (okN q2 q3 (ok2 ok5.out ok7.out)) (gq.node (l := [c5, c7]) hG.out.row _ _ _ _))
      exact fQ
    | false =>
      clear ce
      have ce := be.cell
      obtain ⟨c4, l4, f4⟩ := b4.clf
      go_wp2_with fail
      refine mD b4 (fun W' cF => ?_) rfl (gy 22 aC 0 hM lp (okN q2 q3 (ok1 ok5.out)) (gq.node (l := [c5]) hG.out.row _ _ _ _))
      exact fQ
  | false =>
    have ce := be.cell
    obtain ⟨c4, l4, f4⟩ := b4.clf
    go_wp2_with fail
    refine mD b4 (fun W' cF => ?_) rfl (gy 22 aC 0 hM lp (okN q2 q3 av) (gq.node (l := []) hG.out.row _ _ _ _))
    exact fQ
 rcases bE (t.text.toList == [102, 97, 105, 108]) with s13 | s13
 ·obtain ⟨-, le, fe⟩ := be.clf
  go_upto_region 80 with fail
  refine tX hM lp b4 bt be hw2 ?_
  clear hM b4 bt be ct ce fe le
  intro W hz hM b4 bt be ct ce fe le
  have ce := be.cell
  obtain ⟨c4, l4, f4⟩ := b4.clf
  go_wp2_with fail
  refine mD b4 (fun W' cF => ?_) rfl (gy 23 aC 0 hM lp (okL q2 q3) (.leaf (X := []) _ _ _ _))
  exact fQ
 rcases bE (t.text.toList == [110, 101, 120, 116]) with s14 | s14
 ·obtain ⟨-, le, fe⟩ := be.clf
  go_upto_region 83 with fail
  refine tX hM lp b4 bt be hw2 ?_
  clear hM b4 bt be ct ce fe le
  intro W hz hM b4 bt be ct ce fe le
  have ce := be.cell
  obtain ⟨c4, l4, f4⟩ := b4.clf
  go_wp2_with fail
  refine mD b4 (fun W' cF => ?_) rfl (gy 25 aC 0 hM lp (okL q2 q3) (.leaf (X := []) _ _ _ _))
  exact fQ
 rcases bE (t.text.toList == [100, 101, 102, 101, 114]) with s15 | s15
 ·obtain ⟨-, le, fe⟩ := be.clf
  go_upto_region 85 with fail
  go_upto_region 86 with fail
  refine tX hM lp b4 bt be hw2 ?_
  clear hM b4 bt be ct ce fe le
  intro W hz hM b4 bt be ct ce fe le
  clear ct bt ce fe le
  go_wp2_with fail
  refine (mM hM.out.ps HT.out).mono ?_
  rintro e w6 ⟨s, a6, EA, rfl, hs, hmv, -⟩
  have hss := hs
  replace hM := lH (hM.out.step hmv)
  replace be := be.grown hmv.gr aK
  replace b4 := b4.grown hmv.gr aK
  have hs6 := hmv.size
  clear hs hmv
  obtain ⟨c6, l6, f6⟩ := be.clf
  go_upto_region 87 with fail
  replace hM := lH (hM.out.far lp (q := ⟨w2.heap.size + 1, 1, none⟩) qN (.string s))
  replace b4 := b4.far (p := ⟨w2.heap.size + 1, 1, none⟩) yT (.string s)
  replace be := be.aF 1 (.string s)
  clear c6 f6 l6
  generalize w6.setCell (aj (w2.heap.size + 1) 1) (.string s) = W7 at *
  have ce := be.cell
  obtain ⟨c4, l4, f4⟩ := b4.clf
  go_wp2_with fail
  refine mD b4 (fun W' cF => ?_) rfl (gy 28 s 0 hM lp (okL q2 q3 hss) (.leaf (X := []) _ _ _ _))
  exact fQ
 exact absurd ⟨k1, k3, k4, k5, k6, s0, s1, s2, s3, s4, s5, s6, s7, s8, s9, s10, s11, s12, s13, s14, s15⟩ HZ.out
end
section
open Go Go.RowKit
theorem yx {P : Program} {w : World} {ops : Array Oper} {rest : List Oper} {o : Oper} {a : Act} {Q : Exit → Act → World → Prop} (hgd : o.guard = none) (s x : Operand) (t : TypeId)
 (ho : o.op = .call { callee := .builtin .append, args := #[s, x], argTypes := #[t, t] })
 (base : Nat) (e : TypeId) (z : Value) (size bytes : Nat) (hinfo : (P.info? e).map (fun i => (i.zero, i.size, i.bytes)) = some (some z, size, bytes)) (ht : P.underlying t = some (.slice e)) (hzs : z.cells.size = size) (hsz : 0 < size)
 (v : Value) (n : Nat) (xs : List Value) (hs : a.eval s = v) (hown : w.ownsRow base e size v n xs)
 (lo hi' : Nat) (u : Value) (m : Nat) (news : List Value) (hx : a.eval x = u) (hr : Rds w lo hi' size u m news) (h1 : ∀ u ∈ news, u.oneCell' = true)
 (h63 : n + m ≤ maxLen) (hbytes : (n + m) * bytes ≤ 140737488355328) (hbase : base ≤ w.heap.size)
 (h : ∀ v' w', w'.ownsRow base e size v' (n + m) (xs ++ news) → w.grownBy w' v.ownBlock → (v'.ownBlock = v.ownBlock ∨ v'.ownBlock = some w.heap.size) → wpList P ops Q rest (a.put o.dst v') w') : wpList P ops Q (o :: rest) a w := by
 obtain ⟨i0, hi0, hz0, hz1, hz2⟩ := info_parts hinfo
 exact nu w hgd s x t ho base e i0 z size bytes ht hi0 hz0 hz1 hz2 hzs hsz v n xs hs hown lo hi' u m news hx hr h1 h63 hbytes hbase h
theorem Tk (deep : Int) (hd0 : 0 ≤ deep) (hd1 : deep ≤ 1000) (hL : lY deep) : CaseOk deep := by
 intro p ts a bad w line hn0 hn1 h hT
 have H := lH h
 have HT := lH hT
 have lp := h.lt
 have hl := hT.len
 have ha0 := h.le
 clear h hT
 obtain ⟨b4, hb0⟩ := dQ w 179 (ay 0 ⟨#[]⟩ 0 0 none 0 0)
 have hM := lH ((Mv.start H.out).below hb0)
 clear hb0
 go_in
 go_wp2_with fail
 refine (hL 1 hM.out.ps HT.out ah ah).mono ?_
 rintro e w2 ⟨c, Ac, nc, a1, gZ, rfl, hmv, -, hok, hin⟩
 have hs2 : w.heap.size + 1 ≤ w2.heap.size := by have := hmv.size; simpa using this
 have hG0 : dL (w.heap.size + 1) [w2.heap.size + 1] 179 5 aH.aG (w2.alloc (.cells (ay c.kind c.text c.number c.line Ac c.kids.length nc) 179)) [c] (.slice (some (aj w2.heap.size 0)) 1 1) _ := (dL.lit (e := 179) (l := [c]) (K := 5) (X := []) (gq.one (gJ.of (B := w.heap.size + 1) (X := []) hin av av)) rfl ah av vU).more (fun x hx => .inr (.inl (by rw [mS hx]; simp)))
 have hD := lH (Duo.start (hG0.alloc (.cells (ay 20 aC 0 line (some (aj w2.heap.size 0)) 1 1) 179)) aJ (fun x hx => by rw [mS hx]; simp))
 have hb3 : Below w2.heap.size w2 (((w2.alloc (.cells (ay c.kind c.text c.number c.line Ac c.kids.length nc) 179)).alloc (.cells (ay 20 aC 0 line (some (aj w2.heap.size 0)) 1 1) 179)).alloc (.cells #[] 179)) := (((bA _ _).alloc av _).alloc aJ _)
 have hM2 := lH ((hM.out.step hmv).below hb3)
 replace b4 := (b4.grown hmv.gr aK).later hb3
 have be := (Blk.newAt (w2.alloc (.cells (ay c.kind c.text c.number c.line Ac c.kids.length nc) 179)) 179 (ay 20 aC 0 line (some (aj w2.heap.size 0)) 1 1) (w2.heap.size + 1) av).alloc (.cells #[] 179)
 have XL := lH hok
 have HON := lH hmv.on
 have hsz : w2.heap.size + 3 ≤ (((w2.alloc (.cells (ay c.kind c.text c.number c.line Ac c.kids.length nc) 179)).alloc (.cells (ay 20 aC 0 line (some (aj w2.heap.size 0)) 1 1) 179)).alloc (.cells #[] 179)).heap.size := av
 have hnb : (w2.alloc (.cells (ay c.kind c.text c.number c.line Ac c.kids.length nc) 179)).heap.size + 1 = w2.heap.size + 2 := av
 have afe := hmv.le
 clear hmv hok hin hG0 hb3 hM
 unfold aH.cells
 go_upto_region 3 with fail
 generalize hWW : ((w2.alloc (.cells (ay c.kind c.text c.number c.line Ac c.kids.length nc) 179)).alloc (.cells (ay 20 aC 0 line (some (aj w2.heap.size 0)) 1 1) 179)).alloc (.cells #[] 179) = W at *
 have hD' : Hid (Duo (w.heap.size + 1) [w2.heap.size + 1] 179 W [c] (.slice (some (aj w2.heap.size 0)) 1 1) (c.cells Ac nc) [] (.slice (some (aj (w2.heap.size + 2) 0)) 0 0) []) := by have h := hD.out; rw [show ((w2.alloc (.cells (ay c.kind c.text c.number c.line Ac c.kids.length nc) 179)).alloc (.cells (ay 20 aC 0 line (some (aj w2.heap.size 0)) 1 1) 179)).heap.size = w2.heap.size + 2 by simp] at h; exact h
 clear hD hWW hnb
 go_wp2_with fail
 refine (iP _ hM2.out.ps HT.out).mono ?_
 rintro e w3 ⟨a2, j5, rfl, hmv, -⟩
 have hM3 := lH (hM2.out.step hmv)
 replace be := be.grown hmv.gr aK
 replace b4 := b4.grown hmv.gr aK
 replace hD' := lH (hD'.out.box hmv.gr ah)
 have aff := hmv.le
 have HNO := lH hmv.no
 have hsA := hmv.size
 clear hmv hM2
 go_wp2_with fail
 refine (iP _ hM3.out.ps HT.out).mono ?_
 rintro e w4 ⟨a3, mI, rfl, hmv, -⟩
 have hM4 := lH (hM3.out.step hmv)
 replace be := be.grown hmv.gr aK
 replace b4 := b4.grown hmv.gr aK
 replace hD' := lH (hD'.out.box hmv.gr ah)
 have afg := hmv.le
 have XM := lH hmv.no
 have hsB := hmv.size
 clear hmv hM3
 go_wp2_with fail
 go_loopg [8] (2 * (ts.length - a3) + 1) (fun gk v wx => ∃ (l r : List aH) (vs us : List Value) (A Ar : Option Addr) (n nr a1 : Nat) (gZ : Int) (bb : Nat), v = .slice Ar r.length nr ∧ Hid (Duo (w.heap.size + 1) [w2.heap.size + 1] 179 wx l (.slice A l.length n) vs r (.slice Ar r.length nr) us) ∧ Hid (Mv p ts w a bad true wx a1 gZ) ∧ Hid (∀ x ∈ l, aH.Ok x) ∧ Hid (∀ x ∈ r, aH.Ok x) ∧ r.length ≤ 1 ∧ 1 ≤ l.length ∧ Blk wx (w2.heap.size + 1) 179 (ay 20 aC 0 line A l.length n) ∧ Blk wx w.heap.size 179 (ay 0 aC 0 0 none 0 0) ∧ Hid (gZ = 0 → l.length ≤ a1 - a ∧ bb = 1) ∧ Hid (l.length ≤ a1 - a + 2) ∧ Hid (gk = 2 * (ts.length - a1) + bb))
 case atStart => exact ⟨[c], [], _, [], _, _, 1, 0, a3, mI, 1, rfl, hD', lH (by simpa using hM4.out), lH (ok1 XL.out), lH av, av, av, be, b4, lH (fun h3 => ⟨by have := HON.out fB (HNO.out (XM.out h3)); simp; omega, rfl⟩), lH av, lH rfl⟩
 clear hD' hM4 XL be b4 HON HNO XM
 obtain ⟨l, r, vs, us, A, Ar, n, nr, a1, gZ, bb, rfl, hD, hM, hO, hOr, hr1, hl1, be, b4, hpr, hl2, hgk⟩ := hrel
 have p2 := hM.out.ps.j5
 have ha1 := hM.out.top
 have hsx := be.lt
 by_cases hz : gZ = 0
 rotate_left
 ·have cz : (gZ == 0) = false := by simp [hz]
  have hL2 : l.length ≤ 20000 := by have := hl2.out; omega
  clear hz
  exact Q7
 subst hz
 obtain ⟨hpr, rfl⟩ := hpr.out rfl
 have hgk := hgk.out
 subst hgk
 go_wp2_with fail
 clear p2
 go_loopg [] (ts.length - a1) (fun gk wx => ∃ (a2 : Nat), Hid (Duo (w.heap.size + 1) [w2.heap.size + 1] 179 wx l (.slice A l.length n) vs r (.slice Ar r.length nr) us) ∧ Hid (Mv p ts w a bad true wx a2 0) ∧ Blk wx (w2.heap.size + 1) 179 (ay 20 aC 0 line A l.length n) ∧ Blk wx w.heap.size 179 (ay 0 aC 0 0 none 0 0) ∧ a1 ≤ a2 ∧ gk = ts.length - a2)
 case atStart => exact ⟨a1, hD, hM, be, b4, nR _, rfl⟩
 clear hD hM be b4
 obtain ⟨a2, hD, hM, be, b4, afh, rfl⟩ := hrel
 have ha2 := hM.out.top
 have hsx := be.lt
 go_wp2_with fail
 refine (dP _ hM.out.ps HT.out).mono ?_
 rintro e w5 ⟨b, a3, rfl, hmv, -, hn3, -⟩
 have hM5 := lH (hM.out.step hmv)
 replace be := be.grown hmv.gr aK
 replace b4 := b4.grown hmv.gr aK
 replace hD := lH (hD.out.box hmv.gr ah)
 have HN3 := lH hn3
 have aed := lH hmv.on
 have hl3 := hmv.le
 have ht3 := hmv.top
 clear hmv hn3 hM
 cases b with
 | true =>
   go_wp2_with fail
   have h3 := aed.out trivial trivial
   go_roundg (ts.length - a3)
   case measure => omega
   exact ⟨a3, hD, lH (by simpa using hM5.out), be, b4, ah, rfl⟩
 | false =>
   go_wp2_with fail
   refine (dP _ hM5.out.ps HT.out).mono ?_
   rintro e w6 ⟨b, a4, rfl, hmv, -, hn4, -⟩
   have hM6 := lH (hM5.out.step hmv)
   replace be := be.grown hmv.gr aK
   replace b4 := b4.grown hmv.gr aK
   replace hD := lH (hD.out.box hmv.gr ah)
   have hl4 := hmv.le
   have ht4 := hmv.top
   clear hmv hn4 hM5
   have hM : Hid (Mv p ts w a bad true w6 a4 0) := by simpa using hM6
   clear hM6
   cases b with
   | true =>
     have hL2 : l.length ≤ 20000 := ah
     exact Q7
   | false =>
     go_upto_region 8 with fail
     go_cut [37] (fun v wx => ∃ (b : Bool) (a5 : Nat), v = .bool b ∧ Hid (Duo (w.heap.size + 1) [w2.heap.size + 1] 179 wx l (.slice A l.length n) vs r (.slice Ar r.length nr) us) ∧ Hid (Mv p ts w a bad true wx a5 0) ∧ Blk wx (w2.heap.size + 1) 179 (ay 20 aC 0 line A l.length n) ∧ Blk wx w.heap.size 179 (ay 0 aC 0 0 none 0 0) ∧ a4 ≤ a5 ∧ Hid (b = true → r = []))
     case first =>
      by_cases hr0 : r = []
      ·subst hr0
       go_wp2_with fail
       refine (dP _ hM.out.ps HT.out).mono ?_
       rintro e w7 ⟨b, a5, rfl, hmv, -, -, -⟩
       have hM7 := lH (hM.out.step hmv)
       replace be := be.grown hmv.gr aK
       replace b4 := b4.grown hmv.gr aK
       replace hD := lH (hD.out.box hmv.gr ah)
       have hl5 := hmv.le
       clear hmv hM
       go_wp2_with fail
       go_meet
       exact ⟨b, a5, rfl, hD, lH (by simpa using hM7.out), be, b4, ah, lH av⟩
      have hr2 : ((r.length : Int) == 0) = false := by simp [hr0]
      clear hr0
      go_wp2_with fail
      go_meet
      exact ⟨false, a4, rfl, hD, hM, be, b4, nR _, lH (fun h => by cases h)⟩
     obtain ⟨b, a5, rfl, hD, hM, be, b4, afi, hrn⟩ := hcut
     have hsx := be.lt
     have ht5 := hM.out.top
     cases b with
     | true =>
       obtain rfl := hrn.out fB
       go_wp2_with fail
       refine (iP _ hM.out.ps HT.out).mono ?_
       rintro e w8 ⟨a6, EA, rfl, hmv, -⟩
       have hM8 := lH (hM.out.step hmv)
       replace be := be.grown hmv.gr aK
       replace b4 := b4.grown hmv.gr aK
       replace hD := lH (hD.out.box hmv.gr ah)
       have hl6 := hmv.le
       have V2 := lH hmv.on
       clear hmv hM
       go_wp2_with fail
       refine (hL 1 hM8.out.ps HT.out ah ah).mono ?_
       rintro e w9 ⟨d, Ad, nd, a7, uD, rfl, hmv, -, hok, hin⟩
       have hM9 := lH (hM8.out.step hmv)
       have be9 := be.grown hmv.gr aK
       have b49 := b4.grown hmv.gr aK
       have hD9 := hD.out.box hmv.gr ah
       have F7 := hD9.F7
       have AWR := lH hD9.XC
       have hgK := lH hmv.gr
       have hIN := lH hin
       have AB := lH hok
       have hl7 := hmv.le
       have hs9 := hmv.size
       have V3 := lH hmv.no
       have ht7 := hmv.top
       have hsw := be.lt
       clear hmv hok hin hM8 hD9
       unfold aH.cells
       go_wp2_with (first | (at_builtin; refine dO rfl _ _ 177 aM 179 _ 5 64 mJ Tryz.underlying177 aM aA aA (w.heap.size + 1) _ 0 _ aM F7 _ 1 _ aM aM eZ ah ah ?_) | fail)
       rintro v' w10 XN hgr hat
       have hnil : us = [] := List.eq_nil_of_length_eq_zero (by have := hD.out.F7.1; simpa using this)
       subst hnil
       have zl : w10.ownsRow (w.heap.size + 1) 179 5 v' 1 (d.cells Ad nd) := XN
       obtain ⟨A', n', rfl, -⟩ := (Rds.dU zl).shape
       have xU := lH (hD.out.XD hgK.out ah ah aJ hIN.out zl hgr hat)
       have yA := lH (hM9.out.own lp hgr (fun x hx => by have := (AWR.out x hx).1; omega))
       replace be := be9.grown hgr (fun e => (AWR.out _ e.symm).2.1 av)
       replace b4 := b49.grown hgr (fun e => by have := (AWR.out _ e.symm).1; omega)
       have HP : Hid (uD = 0 → l.length ≤ a7 - a ∧ a1 < a7) := fun h => by have := V2.out fB (V3.out h); omega
       have HL : Hid (l.length ≤ a7 - a + 2) := (by omega : l.length ≤ a7 - a + 2)
       have r1 : ([d] : List aH).length ≤ 1 := av
       have l1 := hl1
       have hOR : Hid (∀ x ∈ [d], aH.Ok x) := ok1 AB.out
       clear zl XN F7 hgr hat hgK hIN hM9 AWR hD
       go_wp2_with fail
       refine (mK _ yA.out.ps HT.out).mono ?_
       rintro e w20 ⟨b, rfl, hb, -⟩
       have PX := lH (yA.out.below hb)
       replace be := be.later hb
       replace b4 := b4.later hb
       replace xU := lH (xU.out.later hb)
       clear hb
       cases b with
       | true =>
         go_wp2_with fail
         by_cases h0 : uD = 0
         ·have h6 := HP.out h0
          go_roundg (2 * (ts.length - a7) + 1)
          case measure => omega
          exact ⟨l, [d], _, _, A, A', n, n', a7, uD, 1, av, by simpa using xU, lH Cg, hO, hOR, r1, l1, oO, b4, lH (fun _ => ⟨h6.1, rfl⟩), HL, lH rfl⟩
         go_roundg (2 * (ts.length - a7) + 0)
         case measure => omega
         exact ⟨l, [d], _, _, A, A', n, n', a7, uD, 0, av, by simpa using xU, lH Cg, hO, hOR, r1, l1, oO, b4, lH (fun e => absurd e h0), HL, lH rfl⟩
       | false =>
         go_wp2_with fail
         refine (mK _ PX.out.ps HT.out).mono ?_
         rintro e w21 ⟨b, rfl, hb, -⟩
         have PY := lH (PX.out.below hb)
         replace be := be.later hb
         replace b4 := b4.later hb
         replace xU := lH (xU.out.later hb)
         clear hb
         cases b with
         | true =>
           go_wp2_with fail
           by_cases h0 : uD = 0
           ·have h6 := HP.out h0
            go_roundg (2 * (ts.length - a7) + 1)
            case measure => omega
            exact ⟨l, [d], _, _, A, A', n, n', a7, uD, 1, av, by simpa using xU, lH Ch, hO, hOR, r1, l1, oO, b4, lH (fun _ => ⟨h6.1, rfl⟩), HL, lH rfl⟩
           go_roundg (2 * (ts.length - a7) + 0)
           case measure => omega
           exact ⟨l, [d], _, _, A, A', n, n', a7, uD, 0, av, by simpa using xU, lH Ch, hO, hOR, r1, l1, oO, b4, lH (fun e => absurd e h0), HL, lH rfl⟩
         | false =>
           go_wp2_with fail
           refine (jJ PY.out.ps HT.out).mono ?_
           rintro e w22 ⟨R9, rfl, hmv, h0⟩
           have V4 := lH (PY.out.step hmv)
           replace be := be.grown hmv.gr aK
           replace b4 := b4.grown hmv.gr aK
           replace xU := lH (xU.out.box hmv.gr ah)
           have H0 := lH h0
           clear hmv h0
           go_wp2_with fail
           go_roundg (2 * (ts.length - a7) + 0)
           case measure => omega
           exact ⟨l, [d], _, _, A, A', n, n', a7, R9, 0, av, by simpa using xU, lH (by simpa using V4.out), hO, hOR, r1, l1, oO, b4, lH (fun e => absurd e H0.out), HL, lH rfl⟩
     | false =>
       go_wp2_with fail
       refine (hL 1 hM.out.ps HT.out ah ah).mono ?_
       rintro e w8 ⟨m, Am, nm, a6, EA, rfl, hmv, -, XO, XQ⟩
       have hM8 := lH ((hM.out.step hmv).below ((bR _ _).alloc (nR _) (.cells (ay m.kind m.text m.number m.line Am m.kids.length nm) 179)))
       have be8 := (be.grown hmv.gr aK).alloc (.cells (ay m.kind m.text m.number m.line Am m.kids.length nm) 179)
       have b48 := (b4.grown hmv.gr aK).alloc (.cells (ay m.kind m.text m.number m.line Am m.kids.length nm) 179)
       have bm8 := Blk.new w8 179 (ay m.kind m.text m.number m.line Am m.kids.length nm)
       have g1 := lH hmv.gr
       have in1 := lH XQ
       have V2 := lH hmv.on
       have hl6 := hmv.le
       have hs8 := hmv.size
       have aee := lH XO
       have Ui : w8.grownBy (w8.alloc (.cells (ay m.kind m.text m.number m.line Am m.kids.length nm) 179)) (some p) := World.grownBy_alloc _ _ _
       clear hmv XO XQ
       unfold aH.cells
       go_wp2_with fail
       refine (iP _ hM8.out.ps HT.out).mono ?_
       rintro e w9 ⟨a7, uD, rfl, hmv, -⟩
       have hM9 := lH (hM8.out.step hmv)
       have be9 := be8.grown hmv.gr aK
       have b49 := b48.grown hmv.gr aK
       have bm9 := bm8.grown hmv.gr aK
       have g2 := lH (dJ Ui hmv.gr)
       have V3 := lH hmv.no
       have hl7 := hmv.le
       have hs9 : w8.heap.size + 1 ≤ w9.heap.size := by have := hmv.size; simpa using this
       clear hmv hM8 be8 b48 bm8 Ui
       go_wp2_with fail
       refine (hL 1 hM9.out.ps HT.out ah ah).mono ?_
       rintro e w10 ⟨d, Ad, nd, a8, D6, rfl, hmv, -, XR, XT⟩
       have Uj : Below w10.heap.size w10 (w10.alloc (.cells (ay d.kind d.text d.number d.line Ad d.kids.length nd) 179)) := bA _ _
       have yA := lH ((hM9.out.step hmv).below Uj)
       have IP := (be9.grown hmv.gr aK).alloc (.cells (ay d.kind d.text d.number d.line Ad d.kids.length nd) 179)
       have PN := (b49.grown hmv.gr aK).alloc (.cells (ay d.kind d.text d.number d.line Ad d.kids.length nd) 179)
       have XU := (bm9.grown hmv.gr aK).alloc (.cells (ay d.kind d.text d.number d.line Ad d.kids.length nd) 179)
       have XV := Blk.new w10 179 (ay d.kind d.text d.number d.line Ad d.kids.length nd)
       have g3 := lH hmv.gr
       have in3 := lH XT
       have aef := lH hmv.on
       have aeg := lH hmv.no
       have hl8 := hmv.le
       have GZ := hmv.size
       have ht8 := hmv.top
       have AB := lH XR
       have HB := lH Uj
       have aeS : w10.heap.size + 1 ≤ (w10.alloc (.cells (ay d.kind d.text d.number d.line Ad d.kids.length nd) 179)).heap.size := av
       have xU := ((((hD.out.box g1.out ah).box g2.out ah).box g3.out ah).later Uj)
       have U1 := xU.own
       have AW := lH xU.away
       clear hmv XR XT hM9 be9 b49 bm9 xU Uj
       unfold aH.cells
       go_upto_region 14 with fail
       generalize w10.alloc (.cells (ay d.kind d.text d.number d.line Ad d.kids.length nd) 179) = W10 at *
       have ce := IP.cell
       have cm := XU.cell
       have cd := XV.cell
       have hLR : l.length ≤ 20000 := ah
       go_wp2_with (first | (at_builtin; refine kT rfl _ _ 177 aM 179 _ 5 64 mJ Tryz.underlying177 aM aA aA (w.heap.size + 1) _ l.length _ aM U1 (dX m.kind m.text m.number m.line Am m.kids.length nm d.kind d.text d.number d.line Ad d.kids.length nd) 2 2 _ aM aM eZ ah ah ?_) | fail)
       rintro v' w11 Sc hgr hat
       obtain ⟨A', n', rfl, -⟩ := (Rds.dU Sc).shape
       have AF := lH (hD.out.XE g1.out ah ah aJ in1.out g2.out g3.out in3.out HB.out (by simpa [aH.cells] using Sc) hgr Gv)
       have Uk := lH (yA.out.own lp hgr BI)
       have V5 := IP.grown hgr (fun e => (AW.out _ e.symm).2.1 av)
       have XW := PN.grown hgr (fun e => by have := (AW.out _ e.symm).1; omega)
       have afj := hgr.size
       clear Sc hgr hat U1 AW ce cm cd IP PN XU XV yA hD g1 g2 g3 in1 in3 HB
       obtain ⟨ce, le, fe⟩ := V5.all
       go_upto_region 15 with fail
       skip
       replace Uk := lH (Uk.out.far lp (q := ⟨w2.heap.size + 1, 4, none⟩) qN (.slice A' (l.length + 2) n'))
       replace AF := lH (AF.out.set (q := ⟨w2.heap.size + 1, 4, none⟩) (.inl av) (.slice A' (l.length + 2) n'))
       replace be := V5.aF 4 (.slice A' (l.length + 2) n')
       replace b4 := XW.far (p := ⟨w2.heap.size + 1, 4, none⟩) F6 (.slice A' (l.length + 2) n')
       clear ce fe le V5 XW
       generalize w11.setCell (aj (w2.heap.size + 1) 4) (.slice A' (l.length + 2) n') = W12 at *
       have V6 : (l ++ [m, d]).length = l.length + 2 := av
       have HP : Hid (D6 = 0 → (l ++ [m, d]).length ≤ a8 - a ∧ a1 < a8) := fun h => by have h7 := aeg.out h; have h6 := V3.out h7; have := aef.out fB h; have := V2.out fB h6; rw [V6]; omega
       have HL : Hid ((l ++ [m, d]).length ≤ a8 - a + 2) := (by rw [V6]; omega : (l ++ [m, d]).length ≤ a8 - a + 2)
       have r1 := hr1
       have l1 : 1 ≤ (l ++ [m, d]).length := by rw [V6]; omega
       have hOL : Hid (∀ x ∈ l ++ [m, d], aH.Ok x) := fun x hx => by rcases mA hx with hx | hx; exact hO.out x hx; exact ok2 aee.out AB.out x hx
       go_wp2_with fail
       refine (mK _ Uk.out.ps HT.out).mono ?_
       rintro e w20 ⟨b, rfl, hb, -⟩
       have PX := lH (Uk.out.below hb)
       replace be := be.later hb
       replace b4 := b4.later hb
       replace AF := lH (AF.out.later hb)
       clear hb
       cases b with
       | true =>
         go_wp2_with fail
         by_cases h0 : D6 = 0
         ·have h6 := HP.out h0
          go_roundg (2 * (ts.length - a8) + 1)
          case measure => omega
          exact ⟨l ++ [m, d], r, _, _, A', Ar, n', nr, a8, D6, 1, av, by simpa using AF, lH Cg, hOL, hOr, r1, l1, oO, b4, lH (fun _ => ⟨h6.1, rfl⟩), HL, lH rfl⟩
         go_roundg (2 * (ts.length - a8) + 0)
         case measure => omega
         exact ⟨l ++ [m, d], r, _, _, A', Ar, n', nr, a8, D6, 0, av, by simpa using AF, lH Cg, hOL, hOr, r1, l1, oO, b4, lH (fun e => absurd e h0), HL, lH rfl⟩
       | false =>
         go_wp2_with fail
         refine (mK _ PX.out.ps HT.out).mono ?_
         rintro e w21 ⟨b, rfl, hb, -⟩
         have PY := lH (PX.out.below hb)
         replace be := be.later hb
         replace b4 := b4.later hb
         replace AF := lH (AF.out.later hb)
         clear hb
         cases b with
         | true =>
           go_wp2_with fail
           by_cases h0 : D6 = 0
           ·have h6 := HP.out h0
            go_roundg (2 * (ts.length - a8) + 1)
            case measure => omega
            exact ⟨l ++ [m, d], r, _, _, A', Ar, n', nr, a8, D6, 1, av, by simpa using AF, lH Ch, hOL, hOr, r1, l1, oO, b4, lH (fun _ => ⟨h6.1, rfl⟩), HL, lH rfl⟩
           go_roundg (2 * (ts.length - a8) + 0)
           case measure => omega
           exact ⟨l ++ [m, d], r, _, _, A', Ar, n', nr, a8, D6, 0, av, by simpa using AF, lH Ch, hOL, hOr, r1, l1, oO, b4, lH (fun e => absurd e h0), HL, lH rfl⟩
         | false =>
           go_wp2_with fail
           refine (jJ PY.out.ps HT.out).mono ?_
           rintro e w22 ⟨R9, rfl, hmv, h0⟩
           have V4 := lH (PY.out.step hmv)
           replace be := be.grown hmv.gr aK
           replace b4 := b4.grown hmv.gr aK
           replace AF := lH (AF.out.box hmv.gr ah)
           have H0 := lH h0
           clear hmv h0
           go_wp2_with fail
           go_roundg (2 * (ts.length - a8) + 0)
           case measure => omega
           exact ⟨l ++ [m, d], r, _, _, A', Ar, n', nr, a8, R9, 0, av, by simpa using AF, lH (by simpa using V4.out), hOL, hOr, r1, l1, oO, b4, lH (fun e => absurd e H0.out), HL, lH rfl⟩
end
end Go.Proofs.YthbcamfejgghhaaGreatDoor
