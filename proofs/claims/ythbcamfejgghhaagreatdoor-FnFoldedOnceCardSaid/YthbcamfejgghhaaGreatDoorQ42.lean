/- The uN: what stands before its switch. The uN: the loop over the kids, and the whole. The uN: its pieces joined. A row of bytes handed to a la -/
import Derived.Test.YthbcamfejgghhaaGreatDoorQ03
import Derived.Test.YthbcamfejgghhaaGreatDoorQ23
import Derived.Test.YthbcamfejgghhaaGreatDoorQ30
import Derived.Test.YthbcamfejgghhaaGreatDoorQ35
import Derived.Test.YthbcamfejgghhaaGreatDoorQ36
import Derived.Test.YthbcamfejgghhaaGreatDoorQ41
set_option maxRecDepth 100000
set_option maxHeartbeats 64000000
set_option linter.unusedVariables false
set_option linter.unusedSimpArgs false
namespace Go.Proofs.YthbcamfejgghhaaGreatDoor
open Go.IntKind (i64)
section
open Go Go.RowKit
structure UG (w : World) (p : Nat) (c : aH) (A : Option Addr) (n : Nat) (next : Int) (pb : Array Value) (wx : World) (l : List ak) (v : Value) (f s : ak) (Af As : Option Addr) (nf ns gs gf : Nat) : Prop where
 T : kG w p c A n next pb wx
 bs : Blk wx gs 43 (aB s.kind s.op s.number s.line s.text As s.kids.length ns)
 bf : Blk wx gf 43 (aB f.kind f.op f.number f.line f.text Af f.kids.length nf)
 K : ∃ vs, j6 (w.heap.size + 5) 43 wx l v vs
 kb : ∀ g, v.ownBlock = some g → g < gs
 hF : dA wx (w.heap.size + 5) gs f.aG (f.cells Af nf)
 hS : dA wx (w.heap.size + 5) gs s.aG (s.cells As ns)
 ls : w.heap.size + 5 ≤ gs
 lf : gs < gf
 len : l.length = c.kids.length
 bk : eT l ≤ 2000000 * gL c.kids
 fs : f.bI + s.bI ≤ eT l
 f0 : f.bI = 0 ∨ l[0]? = some f
theorem UG.up {w wx W W' : World} {p : Nat} {c : aH} {A : Option Addr} {n : Nat} {next : Int} {pb : Array Value} {l : List ak} {v : Value} {f s : ak} {Af As : Option Addr} {nf ns gs gf g3 : Nat} (h : UG w p c A n next pb wx l v f s Af As nf ns gs gf) (hp : p < w.heap.size) (hW : W = ((wx.alloc (.cells (aB f.kind f.op f.number f.line f.text Af f.kids.length nf) 43)).alloc (.cells (aB 0 0 0 c.line aC (some (aj wx.heap.size 0)) 1 1) 43))) (hW' : W' = (W.alloc (.cells (fZ f.kind f.op f.number f.line f.text Af f.kids.length nf s.kind s.op s.number s.line s.text As s.kids.length ns) 43)).alloc (.cells (aB 0 0 0 c.line aC (some (aj W.heap.size 0)) 2 2) 43)) (h3 : g3 = W.heap.size + 1) :
 Qn w p c A n next pb W' l v f s Af As nf ns gs gf (wx.heap.size + 1) g3 wx.heap.size W.heap.size := by
 have hb1 : Below wx.heap.size wx W := by subst hW; exact (bA _ _).alloc av _
 have hz1 : W.heap.size = wx.heap.size + 2 := by subst hW; simp
 have hb2 : Below W.heap.size W W' := by subst hW'; exact (bA _ _).alloc av _
 have hz2 : W'.heap.size = W.heap.size + 2 := by subst hW'; simp
 have hb := hb1.trans (hb2.mono hb1.size)
 have lg := h.bf.lt
 have hls := h.ls
 have hlf := h.lf
 subst h3
 have OF := h.hF.below hb1 ah
 have OS := h.hS.below hb1 ah
 refine ⟨h.T.later hp hb, h.bs.later hb, h.bf.later hb, ?_, ?_, ?_, h.kb, h.hF.below hb ah, h.hS.below hb ah, ?_, ?_, h.ls, h.lf, ah, ah, ah, h.len, h.bk, h.fs, h.f0⟩
 ·subst hW
  exact (Blk.newAt _ _ _ _ av).later hb2
 ·subst hW'
  exact Blk.newAt _ _ _ _ av
 ·obtain ⟨vs, hG⟩ := h.K
  exact ⟨vs, hG.later hb⟩
 ·have R : dA (wx.alloc (.cells (aB f.kind f.op f.number f.line f.text Af f.kids.length nf) 43)) (w.heap.size + 5) (wx.heap.size + 1) [.row 6 1 (flat ak.aG [f])] [.slice (some (aj wx.heap.size 0)) 1 1] := dA.lit (hi := wx.heap.size) (e := 43) (dA.one (h.hF.wide (nR _) ah)) rfl aA ah ah
  have hb0 : Below (wx.heap.size + 1) (wx.alloc (.cells (aB f.kind f.op f.number f.line f.text Af f.kids.length nf) 43)) W := by subst hW; exact (bR _ _).alloc av _
  exact R.below (hb0.trans (hb2.mono ah)) (nR _)
 have R : dA (W.alloc (.cells (fZ f.kind f.op f.number f.line f.text Af f.kids.length nf s.kind s.op s.number s.line s.text As s.kids.length ns) 43)) (w.heap.size + 5) (W.heap.size + 1) [.row 6 2 (flat ak.aG [f, s])] [.slice (some (aj W.heap.size 0)) 2 2] := dA.lit (hi := W.heap.size) (e := 43) (dA.cons (OF.wide (nR _) ah) (dA.one (OS.wide (nR _) ah))) rfl aA ah ah
 have hb0 : Below (W.heap.size + 1) (W.alloc (.cells (fZ f.kind f.op f.number f.line f.text Af f.kids.length nf s.kind s.op s.number s.line s.text As s.kids.length ns) 43)) W' := by subst hW'; exact (bR _ _).alloc av _
 exact R.below hb0 ah
theorem Yi (u : fE) (A1 A2 A3 : Option Addr) (n1 n2 n3 lo hi p : Nat) (lc : List ByteArray) (Al : Option Addr) (nl : Nat) (H19 : Py u A1 A2 A3 n1 n2 n3 lo hi p lc Al nl) (c : aH) (A : Option Addr) (n : Nat) (w wx : World) (next nx : Int) (l : List ak) (A' : Option Addr) (n' : Nat) (f s : ak) (Af As : Option Addr) (nf ns gs gf : Nat) (hp : p < w.heap.size) (hn1 : next ≤ nx) (hn2 : nx ≤ next + c.nodes) (HU : Hid (dZ w lo hi fE.aG (.agg (aQ A1 u.records.length n1 A2 u.globals.length n2 A3 u.procedures.length n3)) u)) (HL : Hid (aW w lo hi 1 aR (.slice Al lc.length nl) lc)) (hhp : hi ≤ p) (HOK : Hid c.Ok) (HJ : Hid (UG w p c A n next (gT A1 u.records.length n1 A2 u.globals.length n2 A3 u.procedures.length n3 Al lc.length nl nx) wx l (.slice A' l.length n') f s Af As nf ns gs gf)) (s9 s12 s13 : Value) (a : Act) (hF : Dt (.pointer (some (aj p 0))) (.pointer (some (aj w.heap.size 0))) (.pointer (some (aj (w.heap.size + 1) 0))) (.pointer (some (aj (w.heap.size + 1 + 1) 0))) (.pointer (some (aj (w.heap.size + 1 + 1 + 1) 0))) (.pointer (some (aj (w.heap.size + 4) 0))) (.slice A' l.length n') s9 (.pointer (some (aj gs 0))) (.pointer (some (aj gf 0))) s12 s13 a) : Code.wp Tryz.prog (lD 17) (bodyPost Tryz.prog Tryz.f130 (wP p (jf A1 u.records.length n1 A2 u.globals.length n2 A3 u.procedures.length n3 Al lc.length nl) next c w)) a wx := by
 have HC := lH (fun wy go gt g1 g2 => H19 c A n w wy next nx l A' n' f s Af As nf ns gs gf go gt g1 g2 hp hn1 hn2 HU HL hhp HOK)
 cases hF
 conv => arg 2; whnf
 have c0 := HJ.out.T.b0.cell
 have cf := HJ.out.bf.cell
 have UP := lH (fun W W' g3 => HJ.out.up (W := W) (W' := W') (g3 := g3) hp)
 go_upto_region 18 with (first | (refine q9 rfl ?_) | fail)
 have hbw : Below wx.heap.size wx ((wx.alloc (.cells (aB f.kind f.op f.number f.line f.text Af f.kids.length nf) 43)).alloc (.cells (aB 0 0 0 c.line aC (some (aj wx.heap.size 0)) 1 1) 43)) := (bA _ _).alloc av _
 have HT := lH (HJ.out.T.later hp hbw)
 have cs := (HJ.out.bs.later hbw).cell
 have cf2 := (HJ.out.bf.later hbw).cell
 have UP2 := lH (fun W' g3 => UP.out _ W' g3 rfl)
 clear c0 cf UP
 generalize (wx.alloc (.cells (aB f.kind f.op f.number f.line f.text Af f.kids.length nf) 43)).alloc (.cells (aB 0 0 0 c.line aC (some (aj wx.heap.size 0)) 1 1) 43) = W at *
 have c0 := HT.out.b0.cell
 go_cut [12, 13] from 14 (fun v12 v13 wy => v12 = (.pointer (some (aj (wx.heap.size + 1) 0))) ∧ v13 = (.pointer (some (aj (W.heap.size + 1) 0))) ∧ wy = (W.alloc (.cells (fZ f.kind f.op f.number f.line f.text Af f.kids.length nf s.kind s.op s.number s.line s.text As s.kids.length ns) 43)).alloc (.cells (aB 0 0 0 c.line aC (some (aj W.heap.size 0)) 2 2) 43))
 case first =>
  go_wp2_with (first | (refine pF rfl rfl ?_) | fail)
  go_meet
  exact ⟨rfl, rfl, rfl⟩
 obtain ⟨rfl, rfl, hwy⟩ := hcut
 rename_i hK
 refine hK _ _ ?_
 have HK := lH (UP2.out wc _ hwy rfl)
 exact HC.out wc _ _ _ _ HK _ _ (.mk ..)
structure UH (w : World) (p : Nat) (c : aH) (A : Option Addr) (n : Nat) (next : Int) (pb : Array Value) (wr wx : World) (l : List ak) (v : Value) (s : ak) (As : Option Addr) (ns : Nat) : Prop where
 T : kG w p c A n next pb wx
 bs : Blk wx wr.heap.size 43 (aB s.kind s.op s.number s.line s.text As s.kids.length ns)
 hb : Below wr.heap.size wr wx
 K : ∃ vs, j6 (w.heap.size + 5) 43 wr l v vs
 hS : kF wr (w.heap.size + 5) s As ns
 sz : w.heap.size + 5 ≤ wr.heap.size
 len : l.length = c.kids.length
 bk : eT l ≤ 2000000 * gL c.kids
 s0 : s.bI = 0 ∨ l[1]? = some s
theorem Wt {l : List ak} {f s : ak} (hf : f.bI = 0 ∨ l[0]? = some f) (hs : s.bI = 0 ∨ l[1]? = some s) : f.bI + s.bI ≤ eT l := by
 match l, hf, hs with
 | [], hf, hs => simp at hf hs; omega
 | [x], hf, hs =>
   simp at hf hs
   simp only [eT]
   rcases hf with hf | hf
   ·omega
   subst hf; omega
 | x :: y :: l, hf, hs =>
   simp at hf hs
   simp only [eT]
   rcases hf with hf | hf <;> rcases hs with hs | hs
   ·omega
   ·subst hs; omega
   ·subst hf; omega
   subst hf hs; omega
theorem UH.up {w wr wx wy : World} {p : Nat} {c : aH} {A : Option Addr} {n : Nat} {next : Int} {pb : Array Value} {l : List ak} {v : Value} {f s : ak} {Af As : Option Addr} {nf ns : Nat} (h : UH w p c A n next pb wr wx l v s As ns) (hp : p < w.heap.size) (hb : Below wx.heap.size wx wy) (bf : Blk wy wx.heap.size 43 (aB f.kind f.op f.number f.line f.text Af f.kids.length nf)) (hF : kF wr (w.heap.size + 5) f Af nf) (f0 : f.bI = 0 ∨ l[0]? = some f) : UG w p c A n next pb wy l v f s Af As nf ns wr.heap.size wx.heap.size := by
 have hb2 := h.hb.trans (hb.mono h.hb.size)
 obtain ⟨vs, hG⟩ := h.K
 exact ⟨h.T.later hp hb, h.bs.later hb, bf, ⟨vs, hG.later hb2⟩, fun g hg => (hG.own.lt g hg).2, hF.top.below hb2 (nR _), h.hS.top.below hb2 (nR _), h.sz, h.bs.lt, h.len, h.bk, Wt f0 h.s0, f0⟩
theorem Yj (u : fE) (A1 A2 A3 : Option Addr) (n1 n2 n3 lo hi p : Nat) (lc : List ByteArray) (Al : Option Addr) (nl : Nat) (H19 : Py u A1 A2 A3 n1 n2 n3 lo hi p lc Al nl) (c : aH) (A : Option Addr) (n : Nat) (w wr wx : World) (next nx : Int) (l : List ak) (A' : Option Addr) (n' : Nat) (s : ak) (As : Option Addr) (ns : Nat) (hp : p < w.heap.size) (hn1 : next ≤ nx) (hn2 : nx ≤ next + c.nodes) (HU : Hid (dZ w lo hi fE.aG (.agg (aQ A1 u.records.length n1 A2 u.globals.length n2 A3 u.procedures.length n3)) u)) (HL : Hid (aW w lo hi 1 aR (.slice Al lc.length nl) lc)) (hhp : hi ≤ p) (HOK : Hid c.Ok) (HJ : Hid (UH w p c A n next (gT A1 u.records.length n1 A2 u.globals.length n2 A3 u.procedures.length n3 Al lc.length nl nx) wr wx l (.slice A' l.length n') s As ns)) (s9 s11 s12 s13 : Value) (a : Act) (hF : Dt (.pointer (some (aj p 0))) (.pointer (some (aj w.heap.size 0))) (.pointer (some (aj (w.heap.size + 1) 0))) (.pointer (some (aj (w.heap.size + 1 + 1) 0))) (.pointer (some (aj (w.heap.size + 1 + 1 + 1) 0))) (.pointer (some (aj (w.heap.size + 4) 0))) (.slice A' l.length n') s9 (.pointer (some (aj wr.heap.size 0))) s11 s12 s13 a) : Code.wp Tryz.prog (lD 14) (bodyPost Tryz.prog Tryz.f130 (wP p (jf A1 u.records.length n1 A2 u.globals.length n2 A3 u.procedures.length n3 Al lc.length nl) next c w)) a wx := by
 have HC := lH (fun wy f Af nf => Yi u A1 A2 A3 n1 n2 n3 lo hi p lc Al nl H19 c A n w wy next nx l A' n' f s Af As nf ns wr.heap.size wx.heap.size hp hn1 hn2 HU HL hhp HOK)
 cases hF
 conv => arg 2; whnf
 have c2 := HJ.out.T.b2.cell
 have hb5 : Hid (Below wx.heap.size wx (wx.alloc (.cells (aB 4 0 0 c.line aC none 0 0) 43))) := bA _ _
 have b5 := Blk.new wx 43 (aB 4 0 0 c.line aC none 0 0)
 have HBW := lH (HJ.out.hb.trans (hb5.out.mono HJ.out.hb.size))
 go_upto_if 71 with fail
 generalize wx.alloc (.cells (aB 4 0 0 c.line aC none 0 0) 43) = W at *
 clear c2
 go_cut [8] from 14 (fun kv wy => kv = .slice A' l.length n' ∧ ∃ (y : ak) (Ay : Option Addr) (ny : Nat), Hid (Blk wy wx.heap.size 43 (y.cells Ay ny).toArray) ∧ Hid (Below wx.heap.size wx wy) ∧ Hid (kF wr (w.heap.size + 5) y Ay ny) ∧ Hid (y.bI = 0 ∨ l[0]? = some y))
 case first =>
  by_cases h1 : 0 < l.length
  ·obtain ⟨y, hy⟩ : ∃ y, l[0]? = some y := ⟨_, gE h1⟩
   obtain ⟨vs, hG⟩ := HJ.out.K
   obtain ⟨g, cap, Ay, ny, hv, hg1, hg2, hcell, hF⟩ := kF.elem hG.row hy
   injection hv with hv1 _ hv2
   subst hv1 hv2
   have K5 : ∀ i, W.cell? (aj g i) = wr.cell? (aj g i) := fun i => HBW.out.cell (p := ⟨g, i, none⟩) hg2
   have t0 : W.cell? (aj g 0) = some (.int i64 y.kind) := (K5 _).trans (hcell 0 _ rfl)
   have t1 : W.cell? (aj g 1) = some (.int i64 y.op) := (K5 _).trans (hcell 1 _ rfl)
   have t2 : W.cell? (aj g 2) = some (.int i64 y.number) := (K5 _).trans (hcell 2 _ rfl)
   have t3 : W.cell? (aj g 3) = some (.int i64 y.line) := (K5 _).trans (hcell 3 _ rfl)
   have t4 : W.cell? (aj g 4) = some (.string y.text) := (K5 _).trans (hcell 4 _ rfl)
   have t5 : W.cell? (aj g 5) = some (.slice Ay y.kids.length ny) := (K5 _).trans (hcell 5 _ rfl)
   exact Ot
  go_wp2_with fail
  go_meet
  exact ⟨rfl, .mk 4 0 0 c.line aC [], none, 0, lH b5, hb5, lH (kF.leaf _ _ _ _ _), lH (.inl rfl)⟩
 obtain ⟨rfl, y, Ay, ny, HY, HB, HF, H0⟩ := hcut
 rename_i hK
 refine hK _ _ ?_
 have HK := lH (HJ.out.up hp HB.out HY.out HF.out H0.out)
 exact HC.out wc _ _ _ HK _ _ _ _ (.mk ..)
theorem Yk (u : fE) (A1 A2 A3 : Option Addr) (n1 n2 n3 lo hi p : Nat) (lc : List ByteArray) (Al : Option Addr) (nl : Nat) (H19 : Py u A1 A2 A3 n1 n2 n3 lo hi p lc Al nl) (c : aH) (A : Option Addr) (n : Nat) (w wr : World) (next nx : Int) (l : List ak) (A' : Option Addr) (n' : Nat) (hp : p < w.heap.size) (hn1 : next ≤ nx) (hn2 : nx ≤ next + c.nodes) (HU : Hid (dZ w lo hi fE.aG (.agg (aQ A1 u.records.length n1 A2 u.globals.length n2 A3 u.procedures.length n3)) u)) (HL : Hid (aW w lo hi 1 aR (.slice Al lc.length nl) lc)) (hhp : hi ≤ p) (HOK : Hid c.Ok) (HT : Hid (kG w p c A n next (gT A1 u.records.length n1 A2 u.globals.length n2 A3 u.procedures.length n3 Al lc.length nl nx) wr)) (HG : Hid (∃ vs, j6 (w.heap.size + 5) 43 wr l (.slice A' l.length n') vs)) (hln : Hid (l.length = c.kids.length)) (hbk : eT l ≤ 2000000 * gL c.kids) (s9 s10 s11 s12 s13 : Value) (a : Act) (hF : Dt (.pointer (some (aj p 0))) (.pointer (some (aj w.heap.size 0))) (.pointer (some (aj (w.heap.size + 1) 0))) (.pointer (some (aj (w.heap.size + 1 + 1) 0))) (.pointer (some (aj (w.heap.size + 1 + 1 + 1) 0))) (.pointer (some (aj (w.heap.size + 4) 0))) (.slice A' l.length n') s9 s10 s11 s12 s13 a) : Code.wp Tryz.prog (lD 11) (bodyPost Tryz.prog Tryz.f130 (wP p (jf A1 u.records.length n1 A2 u.globals.length n2 A3 u.procedures.length n3 Al lc.length nl) next c w)) a wr := by
 have HC := lH (fun wy s As ns => Yj u A1 A2 A3 n1 n2 n3 lo hi p lc Al nl H19 c A n w wr wy next nx l A' n' s As ns hp hn1 hn2 HU HL hhp HOK)
 have HBK := lH hbk
 clear hbk
 cases hF
 conv => arg 2; whnf
 have c2 := HT.out.b2.cell
 have hb5 : Hid (Below wr.heap.size wr (wr.alloc (.cells (aB 4 0 0 c.line aC none 0 0) 43))) := bA _ _
 have HBW := hb5
 have b5 := Blk.new wr 43 (aB 4 0 0 c.line aC none 0 0)
 go_upto_if 64 with fail
 generalize wr.alloc (.cells (aB 4 0 0 c.line aC none 0 0) 43) = W at *
 clear c2
 go_cut [8] from 14 (fun kv wy => kv = .slice A' l.length n' ∧ ∃ (y : ak) (Ay : Option Addr) (ny : Nat), Hid (Blk wy wr.heap.size 43 (y.cells Ay ny).toArray) ∧ Hid (Below wr.heap.size wr wy) ∧ Hid (kF wr (w.heap.size + 5) y Ay ny) ∧ Hid (y.bI = 0 ∨ l[1]? = some y))
 case first =>
  by_cases h1 : 1 < l.length
  ·obtain ⟨y, hy⟩ : ∃ y, l[1]? = some y := ⟨_, gE h1⟩
   obtain ⟨vs, hG⟩ := HG.out
   obtain ⟨g, cap, Ay, ny, hv, hg1, hg2, hcell, hF⟩ := kF.elem hG.row hy
   injection hv with hv1 _ hv2
   subst hv1 hv2
   have K5 : ∀ i, W.cell? (aj g i) = wr.cell? (aj g i) := fun i => HBW.out.cell (p := ⟨g, i, none⟩) hg2
   have t0 : W.cell? (aj g 6) = some (.int i64 y.kind) := (K5 _).trans (hcell 0 _ rfl)
   have t1 : W.cell? (aj g 7) = some (.int i64 y.op) := (K5 _).trans (hcell 1 _ rfl)
   have t2 : W.cell? (aj g 8) = some (.int i64 y.number) := (K5 _).trans (hcell 2 _ rfl)
   have t3 : W.cell? (aj g 9) = some (.int i64 y.line) := (K5 _).trans (hcell 3 _ rfl)
   have t4 : W.cell? (aj g 10) = some (.string y.text) := (K5 _).trans (hcell 4 _ rfl)
   have t5 : W.cell? (aj g 11) = some (.slice Ay y.kids.length ny) := (K5 _).trans (hcell 5 _ rfl)
   exact Ot
  go_wp2_with fail
  go_meet
  exact ⟨rfl, .mk 4 0 0 c.line aC [], none, 0, lH b5, hb5, lH (kF.leaf _ _ _ _ _), lH (.inl rfl)⟩
 obtain ⟨rfl, y, Ay, ny, HY, HB, HF, H0⟩ := hcut
 rename_i hK
 refine hK _ _ ?_
 have HK : Hid (UH w p c A n next (gT A1 u.records.length n1 A2 u.globals.length n2 A3 u.procedures.length n3 Al lc.length nl nx) wr wc l (.slice A' l.length n') y Ay ny) := ⟨HT.out.later hp HB.out, HY.out, HB.out, HG.out, HF.out, HT.out.sz, hln.out, HBK.out, H0.out⟩
 exact HC.out wc _ _ _ HK _ _ _ _ _ (.mk ..)
end
section
open Go Go.RowKit
def FW (u : fE) (A1 A2 A3 : Option Addr) (n1 n2 n3 lo hi p : Nat) (lc : List ByteArray) (Al : Option Addr) (nl : Nat) (c : aH) : Prop := ∀ (A : Option Addr) (n : Nat) (w : World) (next : Int), aW w lo hi 5 aH.aG (.slice A c.kids.length n) c.kids → dZ w lo hi fE.aG (.agg (aQ A1 u.records.length n1 A2 u.globals.length n2 A3 u.procedures.length n3)) u → aW w lo hi 1 aR (.slice Al lc.length nl) lc → hi ≤ p → Blk w p 193 (gT A1 u.records.length n1 A2 u.globals.length n2 A3 u.procedures.length n3 Al lc.length nl next) → c.Ok → 0 ≤ next → next + c.nodes ≤ 1000000 →
 Calls Tryz.prog 130 #[.pointer (some (aj p 0)), .agg (ay c.kind c.text c.number c.line A c.kids.length n)] w (wP p (jf A1 u.records.length n1 A2 u.globals.length n2 A3 u.procedures.length n3 Al lc.length nl) next c w)
theorem aex (u : fE) (A1 A2 A3 : Option Addr) (n1 n2 n3 lo hi p : Nat) (lc : List ByteArray) (Al : Option Addr) (nl : Nat) (H11 : U6 u A1 A2 A3 n1 n2 n3 lo hi p lc Al nl) (c : aH) (A : Option Addr) (n : Nat) (w wr : World) (next nx : Int) (hp : p < w.heap.size) (HU : Hid (dZ w lo hi fE.aG (.agg (aQ A1 u.records.length n1 A2 u.globals.length n2 A3 u.procedures.length n3)) u)) (HL : Hid (aW w lo hi 1 aR (.slice Al lc.length nl) lc)) (hhp : hi ≤ p) (HOK : Hid c.Ok) (HK : Hid (aW w lo hi 5 aH.aG (.slice A c.kids.length n) c.kids)) (HIH : Hid (∀ x ∈ c.kids, FW u A1 A2 A3 n1 n2 n3 lo hi p lc Al nl x)) (hq0 : 0 ≤ next) (hq1 : next + c.nodes ≤ 1000000) (hx0 : next ≤ nx) (hx1 : nx ≤ next + 1) (T1 : Hid (kG w p c A n next (gT A1 u.records.length n1 A2 u.globals.length n2 A3 u.procedures.length n3 Al lc.length nl nx) wr)) (s8 s9 s10 s11 s12 s13 : Value) (a : Act) (hF : Dt (.pointer (some (aj p 0))) (.pointer (some (aj w.heap.size 0))) (.pointer (some (aj (w.heap.size + 1) 0))) (.pointer (some (aj (w.heap.size + 1 + 1) 0))) (.pointer (some (aj (w.heap.size + 1 + 1 + 1) 0))) (.pointer (some (aj (w.heap.size + 4) 0))) s8 s9 s10 s11 s12 s13 a) : Code.wp Tryz.prog (lD 6) (bodyPost Tryz.prog Tryz.f130 (wP p (jf A1 u.records.length n1 A2 u.globals.length n2 A3 u.procedures.length n3 Al lc.length nl) next c w)) a wr := by
 have HC := lH (fun wy nx l A' n' hn1 hn2 => H11 c A n w wy next nx l A' n' hp hn1 hn2 HU HL hhp HOK)
 cases hF
 conv => arg 2; whnf
 have HN := lH c.eG
 obtain ⟨A', n', hv, hc1, hc2⟩ := HK.out.shape
 injection hv with hv1 hv2 hv3
 subst hv1 hv3
 unfold maxLen at hc2
 clear hv2
 have jQ : (wr.alloc (.cells #[] 43)).ownsRow (w.heap.size + 5) 43 6 (.slice (some (aj wr.heap.size 0)) 0 0) 0 [] := ⟨rfl, .inr ⟨wr.heap.size, 0, #[], rfl, T1.out.sz, heap_alloc_new wr _, nR _, aA, rfl, rfl⟩⟩
 have G0 := lH (j6.start jQ)
 have T2 := lH (T1.out.later hp ((bR _ _).alloc (nR _) (.cells #[] 43)))
 clear jQ
 go_upto_block 0 with fail
 generalize wr.alloc (.cells #[] 43) = W at *
 go_cut [8, 9] from 14 (fun kv _ wy => ∃ (l : List ak) (A' : Option Addr) (n' : Nat) (nx : Int), kv = .slice A' l.length n' ∧ Hid (l.length = c.kids.length) ∧ Hid (∃ vs, j6 (w.heap.size + 5) 43 wy l (.slice A' l.length n') vs) ∧ Hid (kG w p c A n next (gT A1 u.records.length n1 A2 u.globals.length n2 A3 u.procedures.length n3 Al lc.length nl nx) wy) ∧ next ≤ nx ∧ nx ≤ next + c.nodes ∧ eT l ≤ 2000000 * gL c.kids)
 case first =>
  clear HC
  go_wp2_with fail
  go_loopw [8, 9] (fun kv iv wx => ∃ (l : List ak) (A' : Option Addr) (n' : Nat) (vs : List Value) (nx : Int), l.length ≤ c.kids.length ∧ iv = .int i64 l.length ∧ kv = .slice A' l.length n' ∧ Hid (j6 (w.heap.size + 5) 43 wx l (.slice A' l.length n') vs) ∧ Hid (kG w p c A n next (gT A1 u.records.length n1 A2 u.globals.length n2 A3 u.procedures.length n3 Al lc.length nl nx) wx) ∧ next ≤ nx ∧ nx ≤ next + 1 + gL (c.kids.take l.length) ∧ eT l ≤ 2000000 * gL (c.kids.take l.length)) (fun _ k _ => c.kids.length - (intOf k).toNat)
  case atStart => exact ⟨[], _, _, [], nx, nZ _, rfl, rfl, G0, T2, hx0, by simp [gL]; omega, by simp [eT]⟩
  clear T1 T2 G0 hx0 hx1
  obtain ⟨l, A', n', vs, nx, hj, rfl, rfl, GG, T1, hx0, hx1, hbk⟩ := hrel
  have cT := T1.out.b0.cell
  by_cases hlt : l.length < c.kids.length
  ·obtain ⟨x, hx⟩ : ∃ x, c.kids[l.length]? = some x := ⟨_, gE hlt⟩
   have hg := T1.out.gr
   obtain ⟨g, off, B5, d, rfl, -, hg2, hm, hkr, -, -, t0, t1, t2, t3, t4⟩ := aH.at_ (HK.out.grown hg ah qP) hx
   have hsn := uP hx
   have hle := uQ c.kids (l.length + 1)
   have HLN : Hid (c.kids.length ≤ 100000) := HOK.out.len
   have HC := lH (HIH.out x hm B5 d wr nx hkr (HU.out.grown hg ah qP) (HL.out.grown hg ah qP) hhp T1.out.bp (HOK.out.kids x hm) ah (by have := HN.out; omega))
   have HSN := lH hsn
   have hlk : l.length ≤ 1000000 := by have := HLN.out; omega
   clear hx hm hkr hsn hg
   go_wp2_with fail
   refine HC.out.mono ?_
   rintro e w2 ⟨x2, A2, n2, nx2, rfl, hF, hgr, hbp, hn2, hn3, hb2⟩
   unfold ak.cells
   have G2 := GG.out.box hgr (by have := T1.out.sz; omega)
   have T3 := lH (T1.out.box hgr hp hbp)
   have hF2 := lH hF
   have Ae := lH hgr
   have hbase : w.heap.size + 5 ≤ w2.heap.size := T3.out.sz
   have jD := G2.own
   clear t0 t1 t2 t3 t4 cT hF hgr hbp HC
   have cT := T3.out.b0.cell
   go_wp2_with (first | (at_builtin; refine dO rfl _ _ 41 aM 43 _ 6 72 ow Tryz.underlying41 aM aA aA (w.heap.size + 5) _ _ _ aM jD (aB x2.kind x2.op x2.number x2.line x2.text A2 x2.kids.length n2) 1 _ aM aM eZ ah hbase ?_) | fail)
   intro v' w5 kD hgr5 hat
   obtain ⟨A3', n3', rfl, -⟩ := (Rds.dU kD).shape
   have G5 := lH (GG.out.push Ae.out ah T1.out.sz hF2.out kD hgr5 Gs)
   have T5 := lH (T3.out.own hgr5 hp (fun g e => (jD.lt g e).1))
   have H2 : eT (l ++ [x2]) ≤ 2000000 * gL (c.kids.take (l.length + 1)) := by rw [zQ, HSN.out]; simp only [eT]; omega
   have H3 := HSN.out
   clear kD hgr5 hat jD G2 hF2 Ae cT T3
   go_wp2_with fail
   go_roundw
   case rel => exact ⟨l ++ [x2], A3', n3', _, nx2, aJ, av, av, by simpa using G5, T5, ah, by rw [List.length_append, List.length_singleton, H3]; omega, by simpa using H2⟩
   simp [intOf]; omega
  have hl : l.length = c.kids.length := ah
  rw [hl, List.take_length] at hx1 hbk
  have HLN := lH hl
  clear hl
  go_wp2_with fail
  go_meet
  exact ⟨l, A', n', nx, rfl, HLN, lH ⟨_, GG.out⟩, T1, hx0, by have := HN.out; omega, hbk⟩
 obtain ⟨l, A', n', nx, rfl, HLN, HG, HT, hy0, hy1, hbk⟩ := hcut
 rename_i hK
 refine hK _ _ ?_
 exact HC.out wc nx l A' n' hy0 hy1 HT HG HLN hbk _ _ _ _ _ _ (.mk ..)
theorem AV (u : fE) (A1 A2 A3 : Option Addr) (n1 n2 n3 lo hi p : Nat) (lc : List ByteArray) (Al : Option Addr) (nl : Nat) (H11 : U6 u A1 A2 A3 n1 n2 n3 lo hi p lc Al nl) (c : aH) (ih : ∀ x ∈ c.kids, FW u A1 A2 A3 n1 n2 n3 lo hi p lc Al nl x) : FW u A1 A2 A3 n1 n2 n3 lo hi p lc Al nl c := by
 intro A n w next hk hu hl hhp hb hok hn0 hn1
 have HIH := lH ih
 have HK := lH hk
 have HU := lH hu
 have HL := lH hl
 have HOK := lH hok
 have HN := lH c.eG
 have lp := hb.lt
 have HC := lH (fun wy nx => aex u A1 A2 A3 n1 n2 n3 lo hi p lc Al nl H11 c A n w wy next nx lp HU HL hhp HOK HK HIH hn0 hn1)
 clear ih hk hu hl hok
 have b0 := (((Blk.new w 179 (ay c.kind c.text c.number c.line A c.kids.length n)).alloc (.cells (aB 0 0 0 0 aC none 0 0) 43)).alloc (.cells (aB 4 0 0 c.line aC none 0 0) 43)).alloc (.cells (aB 28 0 0 c.line aC none 0 0) 43)
 have b1 := ((Blk.newAt (w.alloc (.cells (ay c.kind c.text c.number c.line A c.kids.length n) 179)) 43 (aB 0 0 0 0 aC none 0 0) (w.heap.size + 1) av).alloc (.cells (aB 4 0 0 c.line aC none 0 0) 43)).alloc (.cells (aB 28 0 0 c.line aC none 0 0) 43)
 have b2 := (Blk.newAt ((w.alloc (.cells (ay c.kind c.text c.number c.line A c.kids.length n) 179)).alloc (.cells (aB 0 0 0 0 aC none 0 0) 43)) 43 (aB 4 0 0 c.line aC none 0 0) (w.heap.size + 1 + 1) av).alloc (.cells (aB 28 0 0 c.line aC none 0 0) 43)
 have b3 := Blk.newAt (((w.alloc (.cells (ay c.kind c.text c.number c.line A c.kids.length n) 179)).alloc (.cells (aB 0 0 0 0 aC none 0 0) 43)).alloc (.cells (aB 4 0 0 c.line aC none 0 0) 43)) 43 (aB 28 0 0 c.line aC none 0 0) (w.heap.size + 1 + 1 + 1) av
 have hb0 : Below w.heap.size w ((((w.alloc (.cells (ay c.kind c.text c.number c.line A c.kids.length n) 179)).alloc (.cells (aB 0 0 0 0 aC none 0 0) 43)).alloc (.cells (aB 4 0 0 c.line aC none 0 0) 43)).alloc (.cells (aB 28 0 0 c.line aC none 0 0) 43)) := (((bA _ _).alloc av _).alloc aJ _).alloc aJ _
 have hz0 : ((((w.alloc (.cells (ay c.kind c.text c.number c.line A c.kids.length n) 179)).alloc (.cells (aB 0 0 0 0 aC none 0 0) 43)).alloc (.cells (aB 4 0 0 c.line aC none 0 0) 43)).alloc (.cells (aB 28 0 0 c.line aC none 0 0) 43)).heap.size = w.heap.size + 4 := av
 go_in
 go_upto_region 3 with fail
 generalize (((w.alloc (.cells (ay c.kind c.text c.number c.line A c.kids.length n) 179)).alloc (.cells (aB 0 0 0 0 aC none 0 0) 43)).alloc (.cells (aB 4 0 0 c.line aC none 0 0) 43)).alloc (.cells (aB 28 0 0 c.line aC none 0 0) 43) = W at *
 have cT := b0.cell
 have bp := hb.below hb0 lp
 have cP := bp.cell
 clear hb
 refine jm 9 (fun w' => (∀ i, w'.cell? (aj w.heap.size i) = (ay c.kind c.text c.number c.line A c.kids.length n : Array Value)[i]?) ∧ (∀ i, w'.cell? (aj p i) = (gT A1 u.records.length n1 A2 u.globals.length n2 A3 u.procedures.length n3 Al lc.length nl next : Array Value)[i]?)) 8 ?_
 replace b0 := b0.drew
 replace b1 := b1.drew
 replace b2 := b2.drew
 replace b3 := b3.drew
 replace bp := bp.drew
 replace hz0 : W.drew.heap.size = w.heap.size + 4 := hz0
 replace hb0 := hb0.trans ((Same.refl W).drew.below _)
 clear cT cP
 generalize W.drew = Wd at *
 have cT := b0.cell
 have cP := bp.cell
 refine tkB 0 ⟨cT, cP⟩ ?_
 refine tkB 1 ⟨cT, cP⟩ ?_
 refine tkB 2 ⟨cT, cP⟩ ?_
 refine tkB 3 ⟨cT, cP⟩ ?_
 refine tkB 4 ⟨cT, cP⟩ ?_
 refine tkB 5 ⟨cT, cP⟩ ?_
 refine tkB 6 ⟨cT, cP⟩ ?_
 refine rdA 7 (fun K hK => ?_)
 go_simp
 have b4 := Blk.newAt Wd 43 (aB 0 0 0 0 aC none 0 0) (w.heap.size + 4) hz0.symm
 refine fM hK ⟨(b0.alloc _).cell, (bp.alloc _).cell⟩ ?_
 clear hK K
 refine rdA 8 (fun K hK => ?_)
 have l4 := b4.lt
 have f4 := b4.frozen
 go_simp
 refine rE hK ?_
 clear hK K
 refine bY aI ?_ _
 have T0 : Hid (kG w p c A n next (gT A1 u.records.length n1 A2 u.globals.length n2 A3 u.procedures.length n3 Al lc.length nl next) (Wd.alloc (.cells (aB 5 0 next c.line aC none 0 0) 43))) := ⟨b0.alloc _, b1.alloc _, b2.alloc _, b3.alloc _, Blk.newAt Wd 43 (aB 5 0 next c.line aC none 0 0) (w.heap.size + 4) hz0.symm, bp.alloc _, iE (hb0.alloc ah _) _⟩
 generalize Wd.alloc (.cells (aB 5 0 next c.line aC none 0 0) 43) = W1 at *
 clear b0 b1 b2 b3 b4 bp l4 f4 hz0 hb0 cT cP
 have cT := T0.out.b0.cell
 have cP := T0.out.bp.cell
 have fP := T0.out.bp.frozen
 have lP := T0.out.bp.lt
 go_upto_if 35 with fail
 go_cut [8] from 14 (fun _ wx => ∃ nx : Int, next ≤ nx ∧ nx ≤ next + 1 ∧ Hid (kG w p c A n next (gT A1 u.records.length n1 A2 u.globals.length n2 A3 u.procedures.length n3 Al lc.length nl nx) wx))
 case first =>
  rcases bE (c.kind == 20) with k4 | k4
  ·have hw1 : IntKind.i64.wrap (next + 1) = next + 1 := IntWalk.i64_in _ ah
   go_wp2_with fail
   go_meet
   exact ⟨next + 1, ah, ah, lH (T0.out.ad1 lp _)⟩
  go_wp2_with fail
  go_meet
  exact ⟨next, ah, ah, T0⟩
 obtain ⟨nx, hx0, hx1, T1⟩ := hcut
 rename_i hK
 refine hK _ _ ?_
 exact HC.out wc nx hx0 hx1 T1 _ _ _ _ _ _ _ (.mk ..)
end
section
open Go Go.RowKit
theorem Yl (u : fE) (A1 A2 A3 : Option Addr) (n1 n2 n3 lo hi p : Nat) (lc : List ByteArray) (Al : Option Addr) (nl : Nat) : Py u A1 A2 A3 n1 n2 n3 lo hi p lc Al nl := by
 intro c A n w wx next nx l A' n' f s Af As nf ns gs gf go gt g1 g2 hp hn1 hn2 HU HL hhp HOK HK s9 a hF
 exact VE u A1 A2 A3 n1 n2 n3 lo hi p lc Al nl c A n w wx next nx l A' n' f s Af As nf ns gs gf go gt g1 g2 hp hn1 hn2 HU HL hhp HOK HK s9 a hF fun k1 k2 k3 k4 k5 k6 k7 k8 =>
  VW u A1 A2 A3 n1 n2 n3 lo hi p lc Al nl c A n w wx next nx l A' n' f s Af As nf ns gs gf go gt g1 g2 hp hn1 hn2 HU HL hhp HOK HK s9 a hF k1 k2 k3 k4 k5 k6 k7 k8 fun k9 k10 k11 k12 k13 k14 k15 k16 k17 k18 k19 =>
  V8 u A1 A2 A3 n1 n2 n3 lo hi p lc Al nl c A n w wx next nx l A' n' f s Af As nf ns gs gf go gt g1 g2 hp hn1 hn2 HU HL hhp HOK HK s9 a hF k1 k2 k3 k4 k5 k6 k7 k8 k9 k10 k11 k12 k13 k14 k15 k16 k17 k18 k19 fun k20 =>
  Wk u A1 A2 A3 n1 n2 n3 lo hi p lc Al nl c A n w wx next nx l A' n' f s Af As nf ns gs gf go gt g1 g2 hp hn1 hn2 HU HL hhp HOK HK s9 a hF k1 k2 k3 k4 k5 k6 k7 k8 k9 k10 k11 k12 k13 k14 k15 k16 k17 k18 k19 k20
theorem E5 (u : fE) (A1 A2 A3 : Option Addr) (n1 n2 n3 lo hi p : Nat) (lc : List ByteArray) (Al : Option Addr) (nl : Nat) (c : aH) : FW u A1 A2 A3 n1 n2 n3 lo hi p lc Al nl c := aH.ind (P := fun c => FW u A1 A2 A3 n1 n2 n3 lo hi p lc Al nl c) (fun c ih => AV u A1 A2 A3 n1 n2 n3 lo hi p lc Al nl (fun c A n w wr next nx l A' n' hp hn1 hn2 HU HL hhp HOK HT HG hln hbk s9 s10 s11 s12 s13 a hF => Yk u A1 A2 A3 n1 n2 n3 lo hi p lc Al nl (Yl u A1 A2 A3 n1 n2 n3 lo hi p lc Al nl) c A n w wr next nx l A' n' hp hn1 hn2 HU HL hhp HOK HT HG hln hbk s9 s10 s11 s12 s13 a hF) c ih) c
end
section
open Go.Joins Go.ChangeShapes Go.WideShapes Go.RowKit
section
variable {H : Type} {enc : TypeId × Value → H} {w : World} {spare : Nat → Bool} {held : Bool}
theorem Nl {fuel : Nat} {v : Value} {x : DataW H × List MemPlace} (h : DataW.trod enc Tryz.prog w 0 spare held fuel 22 [v] = some x) :
 ∃ (A : Option Addr) (n k : Nat) (bs : List Int), v = .slice A n k ∧ Rds w 0 w.heap.size 1 (.slice A n k) n (bs.map (Value.int .u8)) := by
 rcases open_ints Tryz.underlying22 Tryz.underlying5 aI h with ⟨hcs, -⟩ | ⟨a, len, cap, zs, hcs, -, hl, hm, hz, -, hcell, -⟩
 ·simp at hcs
  subst hcs
  exact ⟨none, 0, 0, [], rfl, Rds.none_⟩
 simp at hcs
 subst hcs
 have hle : len ≤ zs.length := by rw [hz]; split <;> omega
 have hlen : (zs.take len).length = len := by rw [List.length_take]; omega
 refine ⟨some a, len, cap, zs.take len, rfl, some a, cap, rfl, hl, hm, by rw [List.length_map, hlen]; omega, l8, fun hn => ?_⟩
 obtain ⟨b, off, spot⟩ := a
 have h0 := hcell 0 ah
 have hspot : spot = none := by simpa [Addr.add] using World.cell?_spot h0
 subst hspot
 refine ⟨b, off, rfl, nZ _, ?_, fun j u hu => ?_⟩
 ·have := World.block_lt_of_cell? w _ h0
  simpa [Addr.add] using this
 rw [List.getElem?_map, Option.map_eq_some_iff] at hu
 obtain ⟨s, hs, rfl⟩ := hu
 rw [List.getElem?_take] at hs
 split at hs
 ·have hj : j < zs.length := by omega
  have := hcell j hj
  rw [Addr.add_lit] at this
  rw [this, List.getD, hs]
  rfl
 cases hs
end
end
end Go.Proofs.YthbcamfejgghhaaGreatDoor
