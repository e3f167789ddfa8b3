/- Vw levels. The oZ unary expressions, calls, indexes, fields. Two rows that grow beside each other: the kids of a case, and its default. Plain ae8 -/
import Derived.Test.YthbcamfejgghhaaGreatDoorQ10
import Derived.Test.YthbcamfejgghhaaGreatDoorQ16
import Derived.Test.YthbcamfejgghhaaGreatDoorQ18
set_option maxRecDepth 100000
set_option maxHeartbeats 8000000
set_option linter.unusedVariables false
set_option linter.unusedSimpArgs false
namespace Go.Proofs.YthbcamfejgghhaaGreatDoor
open Go.IntKind (i64)
section
open Go Go.RowKit
def Zg (w : World) (e : Ending) (w' : World) : Prop := ∃ k : Int, e = .returned (.int i64 k) ∧ w = w' ∧ 0 ≤ k ∧ k ≤ 11
theorem lC (s : ByteArray) (w : World) : Calls Tryz.prog 208 #[.string s] w (Zg w) := by
 go_in
 go_upto_region 2 with fail
 rcases bE (s.toList == [38]) with h | h
 ·exact dB
 go_upto_region 4 with fail
 clear h
 go_upto_region 4 with fail
 rcases bE (s.toList == [63]) with h | h
 ·exact dB
 go_upto_region 6 with fail
 clear h
 go_upto_region 6 with fail
 rcases bE (s.toList == [58, 61]) with h | h
 ·exact dB
 go_upto_region 7 with fail
 clear h
 go_upto_region 7 with fail
 rcases bE (s.toList == [60, 45]) with h | h
 ·exact dB
 go_upto_region 8 with fail
 clear h
 go_upto_region 8 with fail
 rcases bE (s.toList == [58, 61, 58]) with h | h
 ·exact dB
 go_upto_region 9 with fail
 clear h
 go_upto_region 9 with fail
 rcases bE (s.toList == [60, 45, 62]) with h | h
 ·exact dB
 go_upto_region 10 with fail
 clear h
 go_upto_region 10 with fail
 rcases bE (s.toList == [43, 58, 61]) with h | h
 ·exact dB
 go_upto_region 11 with fail
 clear h
 go_upto_region 11 with fail
 rcases bE (s.toList == [45, 58, 61]) with h | h
 ·exact dB
 go_upto_region 12 with fail
 clear h
 go_upto_region 12 with fail
 rcases bE (s.toList == [42, 58, 61]) with h | h
 ·exact dB
 go_upto_region 13 with fail
 clear h
 go_upto_region 13 with fail
 rcases bE (s.toList == [47, 58, 61]) with h | h
 ·exact dB
 go_upto_region 14 with fail
 clear h
 go_upto_region 14 with fail
 rcases bE (s.toList == [37, 58, 61]) with h | h
 ·exact dB
 go_upto_region 15 with fail
 clear h
 go_upto_region 15 with fail
 rcases bE (s.toList == [94, 58, 61]) with h | h
 ·exact dB
 go_upto_region 16 with fail
 clear h
 go_upto_region 16 with fail
 rcases bE (s.toList == [124, 124, 58, 61]) with h | h
 ·exact dB
 go_upto_region 17 with fail
 clear h
 go_upto_region 17 with fail
 rcases bE (s.toList == [124, 124, 124, 58, 61]) with h | h
 ·exact dB
 go_upto_region 18 with fail
 clear h
 go_upto_region 18 with fail
 rcases bE (s.toList == [43, 43, 58, 61]) with h | h
 ·exact dB
 go_upto_region 19 with fail
 clear h
 go_upto_region 19 with fail
 rcases bE (s.toList == [45, 45, 58, 61]) with h | h
 ·exact dB
 go_upto_region 20 with fail
 clear h
 go_upto_region 20 with fail
 rcases bE (s.toList == [42, 42, 58, 61]) with h | h
 ·exact dB
 go_upto_region 22 with fail
 clear h
 go_upto_region 22 with fail
 rcases bE (s.toList == [124]) with h | h
 ·exact dB
 go_upto_region 23 with fail
 clear h
 go_upto_region 23 with fail
 rcases bE (s.toList == [46, 124]) with h | h
 ·exact dB
 go_upto_region 25 with fail
 clear h
 go_upto_region 25 with fail
 rcases bE (s.toList == [60]) with h | h
 ·exact dB
 go_upto_region 26 with fail
 clear h
 go_upto_region 26 with fail
 rcases bE (s.toList == [60, 61]) with h | h
 ·exact dB
 go_upto_region 27 with fail
 clear h
 go_upto_region 27 with fail
 rcases bE (s.toList == [61]) with h | h
 ·exact dB
 go_upto_region 28 with fail
 clear h
 go_upto_region 28 with fail
 rcases bE (s.toList == [62, 61]) with h | h
 ·exact dB
 go_upto_region 29 with fail
 clear h
 go_upto_region 29 with fail
 rcases bE (s.toList == [62]) with h | h
 ·exact dB
 go_upto_region 30 with fail
 clear h
 go_upto_region 30 with fail
 rcases bE (s.toList == [126, 61]) with h | h
 ·exact dB
 go_upto_region 31 with fail
 clear h
 go_upto_region 31 with fail
 rcases bE (s.toList == [60, 60]) with h | h
 ·exact dB
 go_upto_region 32 with fail
 clear h
 go_upto_region 32 with fail
 rcases bE (s.toList == [60, 60, 61]) with h | h
 ·exact dB
 go_upto_region 33 with fail
 clear h
 go_upto_region 33 with fail
 rcases bE (s.toList == [61, 61]) with h | h
 ·exact dB
 go_upto_region 34 with fail
 clear h
 go_upto_region 34 with fail
 rcases bE (s.toList == [62, 62, 61]) with h | h
 ·exact dB
 go_upto_region 35 with fail
 clear h
 go_upto_region 35 with fail
 rcases bE (s.toList == [62, 62]) with h | h
 ·exact dB
 go_upto_region 36 with fail
 clear h
 go_upto_region 36 with fail
 rcases bE (s.toList == [126, 61, 61]) with h | h
 ·exact dB
 go_upto_region 37 with fail
 clear h
 go_upto_region 37 with fail
 rcases bE (s.toList == [61, 61, 61]) with h | h
 ·exact dB
 go_upto_region 38 with fail
 clear h
 go_upto_region 38 with fail
 rcases bE (s.toList == [126, 61, 61, 61]) with h | h
 ·exact dB
 go_upto_region 39 with fail
 clear h
 go_upto_region 39 with fail
 rcases bE (s.toList == [63, 63]) with h | h
 ·exact dB
 go_upto_region 41 with fail
 clear h
 go_upto_region 41 with fail
 rcases bE (s.toList == [124, 124]) with h | h
 ·exact dB
 go_upto_region 42 with fail
 clear h
 go_upto_region 42 with fail
 rcases bE (s.toList == [124, 124, 124]) with h | h
 ·exact dB
 go_upto_region 44 with fail
 clear h
 go_upto_region 44 with fail
 rcases bE (s.toList == [43]) with h | h
 ·exact dB
 go_upto_region 45 with fail
 clear h
 go_upto_region 45 with fail
 rcases bE (s.toList == [45]) with h | h
 ·exact dB
 go_upto_region 46 with fail
 clear h
 go_upto_region 46 with fail
 rcases bE (s.toList == [43, 43]) with h | h
 ·exact dB
 go_upto_region 47 with fail
 clear h
 go_upto_region 47 with fail
 rcases bE (s.toList == [45, 45]) with h | h
 ·exact dB
 go_upto_region 49 with fail
 clear h
 go_upto_region 49 with fail
 rcases bE (s.toList == [42]) with h | h
 ·exact dB
 go_upto_region 50 with fail
 clear h
 go_upto_region 50 with fail
 rcases bE (s.toList == [47]) with h | h
 ·exact dB
 go_upto_region 51 with fail
 clear h
 go_upto_region 51 with fail
 rcases bE (s.toList == [37]) with h | h
 ·exact dB
 go_upto_region 52 with fail
 clear h
 go_upto_region 52 with fail
 rcases bE (s.toList == [42, 42]) with h | h
 ·exact dB
 go_upto_region 54 with fail
 clear h
 go_upto_region 54 with fail
 rcases bE (s.toList == [94]) with h | h
 ·exact dB
 go_upto_region 56 with fail
 clear h
 go_upto_region 56 with fail
 rcases bE (s.toList == [92]) with h | h
 ·exact dB
 go_upto_region 57 with fail
 clear h
 go_upto_region 57 with fail
 rcases bE (s.toList == [45, 62]) with h | h
 ·exact dB
 go_upto_region 58 with fail
 clear h
 go_upto_region 58 with fail
 rcases bE (s.toList == [61, 62]) with h | h
 ·exact dB
 exact dB
theorem o8 (s : ByteArray) (w : World) : Calls Tryz.prog 222 #[.string s] w (nU w) := by
 exact I4
end
section
open Go Go.RowKit
theorem gD.out {α : Type} {f : α → List Dat} {K : Nat} {w : World} {lo hi : Nat} {v : Value} {l : List α} (h : gD w lo hi K f v l) : ∃ us, Rds w lo hi K v l.length us ∧ eu w lo hi (flat f l) us ∧ us.length = (flat f l).length := by
 obtain ⟨F, h1, h2, h3⟩ := h
 obtain ⟨e, vs, F', a1, rfl, a3⟩ := h1.uG
 exact ⟨vs, Rds.MK a1 fun g hg => h3 g mZ, ⟨F', a3, (List.nodup_append.1 h2).2.1, fun g hg => h3 g mZ⟩, a3.len⟩
theorem zL {w : World} {ds : List Dat} {F : List Nat} {vs : List Value} (h : aO w ds F vs) : ∀ u ∈ vs, u.oneCell' = true := by
 induction ds generalizing F vs with
 | nil => obtain ⟨-, rfl⟩ := h.jc; simp
 | cons d ds ih =>
   obtain ⟨F1, F2, v, vs', rfl, rfl, h3, h4⟩ := h.out
   intro u hu
   rcases mC hu with rfl | hu
   ·cases d with
    | int => obtain ⟨-, rfl⟩ := h3.iF; rfl
    | str => obtain ⟨-, rfl⟩ := h3.oq; rfl
    | bool => obtain ⟨-, rfl⟩ := h3.Kz; rfl
    | row =>
      obtain ⟨e, vs, F', a1, -⟩ := h3.uG
      obtain ⟨A, n, rfl, -⟩ := (Rds.dU a1).shape
      rfl
   exact ih h4 u hu
theorem kE {P : Program} {w : World} {ops : Array Oper} {o : Oper} {a : Act} {K : Act → World → Prop} {Q : Exit → Act → World → Prop} {E : Prop} (hgd : o.guard = none) (s x : Operand) (t : TypeId)
 (ho : o.op = .call { callee := .builtin .append, args := #[s, x], argTypes := #[t, t] })
 (base : Nat) (e : TypeId) (z : Value) (size bytes : Nat) (hinfo : (P.info? e).map (fun i => (i.zero, i.size, i.bytes)) = some (some z, size, bytes)) (ht : P.underlying t = some (.slice e)) (hzs : z.cells.size = size) (hsz : 0 < size)
 (v : Value) (n : Nat) (xs : List Value) (hs : a.eval s = v) (hown : w.ownsRow base e size v n xs)
 (lo hi' : Nat) (u : Value) (m : Nat) (news : List Value) (hx : a.eval x = u) (hr : Rds w lo hi' size u m news) (h1 : ∀ u ∈ news, u.oneCell' = true)
 (h63 : n + m ≤ maxLen) (hbytes : (n + m) * bytes ≤ 140737488355328) (hbase : base ≤ w.heap.size)
 (h : ∀ v' w', w'.ownsRow base e size v' (n + m) (xs ++ news) → w.grownBy w' v.ownBlock → (v'.ownBlock = v.ownBlock ∨ v'.ownBlock = some w.heap.size) → K (a.put o.dst v') w') :
 if Region.wanted o (yielded ops a.tmps) = true then Oper.wp P o a w K Q else E := by
 have hw : Region.wanted o (yielded ops a.tmps) = true := by simp [Region.wanted, hgd]
 rw [if_pos hw]
 obtain ⟨i0, hi0, hz0, hz1, hz2⟩ := info_parts hinfo
 exact lK w s x t ho base e i0 z size bytes ht hi0 hz0 hz1 hz2 hzs hsz v n xs hs hown lo hi' u m news hx hr h1 h63 hbytes hbase h
theorem K6 (deep : Int) (hd0 : 0 ≤ deep) (hd1 : deep ≤ 1000) (HH : deep ≤ 200 → lY (deep + 1) ∧ tK (deep + 1) ∧ GY (deep + 1) ∧ vP (deep + 1)) : tK deep := by
 intro p ts a bad w h hT
 have H := lH h
 have HT := lH hT
 have lp := h.lt
 have hl := hT.len
 have ha0 := h.le
 have htk := y8 hT a
 have HK : Hid (¬ (gY ts a).kind = 0 → a < ts.length) := fun h => xM h
 clear h hT
 obtain ⟨b4, hb0⟩ := dQ w 179 (ay 0 ⟨#[]⟩ 0 0 none 0 0)
 go_in
 go_wp2_with fail
 refine (jL (H.out.below hb0) HT.out).mono ?_
 rintro e w2 ⟨rfl, hb⟩
 generalize gY ts a = t at *
 obtain ⟨ht1, ht2, ht3⟩ := htk
 have hb2 := hb0.trans (hb.mono hb0.size)
 have hw2 : w.heap.size + 1 ≤ w2.heap.size := by have := hb.size; simpa using this
 have b42 := (b4.later hb).alloc (.cells (aV t.kind t.text t.line) 171)
 have bt := Blk.new w2 171 (aV t.kind t.text t.line)
 have hM := lH (((Mv.start H.out).below hb2).below ((bR _ _).alloc (nR _) (.cells (aV t.kind t.text t.line) 171)))
 have Xt : (w2.alloc (.cells (aV t.kind t.text t.line) 171)).heap.size = w2.heap.size + 1 := av
 go_upto_region 2 with fail
 generalize w2.alloc (.cells (aV t.kind t.text t.line) 171) = W at *
 have p2 := hM.out.ps.j5
 clear b4 hb hb0 hb2
 by_cases hd : 200 < deep
 ·have HD := lH hd
  clear p2
  go_wp2_with fail
  refine (jJ hM.out.ps HT.out).mono ?_
  rintro e w3 ⟨mI, rfl, hmv, h3⟩
  have hM3 := lH (hM.out.step hmv)
  have b43 := b42.grown hmv.gr aK
  have p2 := hmv.ps.j5
  have c3 : (mI != 0) = true := by simp [h3]
  have H3 := lH h3
  clear hmv h3
  obtain ⟨cx, lx, fx⟩ := b43.all
  go_wp2_with fail
  refine bodyPost_ret (v := .agg (ay 0 aC 0 0 none 0 0)) ?_ rfl ⟨.mk 0 aC 0 0 [], none, 0, _, _, rfl, (hM3.out).gU lp (nR _), ?_, Pf, (gq.leaf (X := []) 0 aC 0 0).to (nR _) (nR _)⟩
  ·simp [results, Tryz.results207, go_sem, cx]
  exact fun h => absurd h H3.out
 obtain ⟨hL, hU, hP, hI⟩ := HH ah
 clear HH
 by_cases hb : bad = 0
 rotate_left
 ·have cb : (bad != 0) = true := by simp [hb]
  have HB := lH hb
  clear hb
  obtain ⟨cx, lx, fx⟩ := b42.all
  go_wp2_with fail
  refine bodyPost_ret (v := .agg (ay 0 aC 0 0 none 0 0)) ?_ rfl ⟨.mk 0 aC 0 0 [], none, 0, _, _, rfl, (hM.out.fail HB.out true).gU lp (nR _), ?_, Pf, (gq.leaf (X := []) 0 aC 0 0).to (nR _) (nR _)⟩
  ·simp [results, Tryz.results207, go_sem, cx]
  exact fun h => absurd h HB.out
 subst hb
 have hd' : deep ≤ 200 := ah
 have hw1 : IntKind.i64.wrap (deep + 1) = deep + 1 := IntWalk.i64_in _ ah
 have HDD := lH hd'
 go_upto_region 6 with fail
 have ct := bt.cell
 go_cut [30] (fun v wx => ∃ b : Bool, v = .bool b ∧ Below W.heap.size W wx ∧ Hid (b = true → a < ts.length))
 case first =>
  rcases bE (t.kind == 7) with k7 | k7
  ·have HA : Hid (a < ts.length) := HK.out (fun h => by rw [h] at k7; cases k7)
   go_wp2_with fail
   refine (o8 _ _).mono ?_
   rintro e w4 ⟨b, rfl, hb⟩
   have HB := lH hb
   clear hb
   go_wp2_with fail
   go_meet
   exact ⟨b, rfl, HB.out, lH fun _ => HA.out⟩
  go_wp2_with fail
  go_meet
  exact ⟨false, rfl, bR _ _, lH (fun h => by cases h)⟩
 obtain ⟨b, rfl, hbx, hlt⟩ := hcut
 have b4c := b42.later hbx
 have btc := bt.later hbx
 have hMc := lH (hM.out.below hbx)
 have ae9 := hbx.size
 clear p2 ct b42 bt hM hbx
 have p1 := hMc.out.ps.at1
 have f1 := hMc.out.ps.frz 1
 cases b with
 | true =>
   have hA := hlt.out rfl
   have hw2 : IntKind.i64.wrap ((a : Int) + 1) = (a : Int) + 1 := IntWalk.i64_in _ ah
   go_upto_region 8 with fail
   have hM8 := lH (hMc.out.setAt (x := (a : Int) + 1) ah hA)
   have bt8 := btc.far (p := ⟨p, 1, none⟩) Ce (.int i64 ((a : Int) + 1))
   have b48 := b4c.far (p := ⟨p, 1, none⟩) qQ (.int i64 ((a : Int) + 1))
   have afa : (wc.setCell (aj p 1) (.int i64 ((a : Int) + 1))).heap.size = wc.heap.size := by simp [World.setCell]
   generalize wc.setCell (aj p 1) (.int i64 ((a : Int) + 1)) = W8 at *
   clear p1 f1 b4c btc hMc
   have cT := bt8.cell
   refine jm 11 (fun w' => ∀ i, w'.cell? (aj w2.heap.size i) = (aV t.kind t.text t.line : Array Value)[i]?) 10 ?_
   replace bt8 := bt8.drew
   replace b48 := b48.drew
   have hMd := lH (hM8.out.below ((Same.refl W8).drew.below _))
   have wN : W8.drew.heap.size = W8.heap.size := rfl
   generalize W8.drew = Wd at *
   clear cT
   have cT := bt8.cell
   refine tkB 0 cT ?_
   refine tkB 1 cT ?_
   refine tkB 2 cT ?_
   refine tkB 3 cT ?_
   refine tkB 4 cT ?_
   refine tkB 5 cT ?_
   refine tkB 6 cT ?_
   refine rdA 7 (fun K hK => ?_)
   go_simp
   go_at_call 207
   refine (hU hMd.out.ps HT.out).mono ?_
   rintro e w5 ⟨c, Ac, nc, a5, uk, rfl, hmv, -, hok, hin⟩
   have hM5 := lH (hMd.out.step hmv)
   have b45 := b48.grown hmv.gr aK
   have bt5 := bt8.grown hmv.gr aK
   have hsz5 := hmv.size
   have HOK := lH hok
   have HIN := lH hin
   clear hmv hok hin cT
   have cT := bt5.cell
   unfold aH.cells
   try go_wp2_with fail
   refine fM hK cT ?_
   clear hK K
   refine rdA 8 (fun K hK => ?_)
   go_simp
   have cT2 := (bt5.alloc (.cells (c.cells Ac nc).toArray 179)).cell
   refine fM hK cT2 ?_
   clear hK K
   refine tkB 9 cT2 ?_
   refine rdA 10 (fun K hK => ?_)
   have b46 := b45.alloc (.cells (c.cells Ac nc).toArray 179)
   obtain ⟨c4, l4, f4⟩ := b46.all
   unfold aH.cells at c4 f4 l4
   go_simp
   refine rE hK ?_
   clear hK K
   refine bY aI ?_ _
   go_wp2_with fail
   have hq := (gq.row (e := 179) (k := 7) (t := t.text) (m := 0) (line := t.line) (l := [c]) (gq.one (gJ.of (B := w.heap.size + 1) (X := []) HIN.out ah av)) rfl ah av av)
   refine bodyPost_ret (v := .agg (ay 7 t.text 0 t.line (some (aj w5.heap.size 0)) 1 1)) ?_ rfl ⟨.mk 7 t.text 0 t.line [c], _, _, _, _, rfl, ((hM5.out.below (bA _ _)).gU lp (nR _)), fun _ => HDD.out, nY _ _ _ _ _ (by first | exact ht1 | exact nZ _) ⟨ht2, ht3⟩ aA l8 av aA (ok1 HOK.out), (hq.gU (.inr (Nat.lt_succ_self _))).to (Nat.le_succ _) (nR _)⟩
   simp [results, Tryz.results207, go_sem, c4]
 | false =>
   clear p1 f1
   go_wp2_with fail
   refine (dP _ hMc.out.ps HT.out).mono ?_
   rintro e w9 ⟨b, a9, rfl, hmv, -, ha9, -⟩
   have hM9 := lH (hMc.out.step hmv)
   have b49 := b4c.grown hmv.gr aK
   have bt9 := btc.grown hmv.gr aK
   have afb := hmv.size
   clear hmv ha9 b4c btc hMc
   cases b with
   | true =>
     go_upto_region 10 with fail
     have cT := bt9.cell
     refine jm 9 (fun w' => ∀ i, w'.cell? (aj w2.heap.size i) = (aV t.kind t.text t.line : Array Value)[i]?) 8 ?_
     replace bt9 := bt9.drew
     replace b49 := b49.drew
     have hMd := lH (hM9.out.below ((Same.refl w9).drew.below _))
     have wN : w9.drew.heap.size = w9.heap.size := rfl
     generalize w9.drew = Wd at *
     clear cT
     have cT := bt9.cell
     refine tkB 0 cT ?_
     refine tkB 1 cT ?_
     refine tkB 2 cT ?_
     refine tkB 3 cT ?_
     refine tkB 4 cT ?_
     refine rdA 5 (fun K hK => ?_)
     go_simp
     go_at_call 207
     refine (hU hMd.out.ps HT.out).mono ?_
     rintro e w5 ⟨c, Ac, nc, a5, uk, rfl, hmv, -, hok, hin⟩
     have hM5 := lH (hMd.out.step hmv)
     have b45 := b49.grown hmv.gr aK
     have bt5 := bt9.grown hmv.gr aK
     have hsz5 := hmv.size
     have HOK := lH hok
     have HIN := lH hin
     clear hmv hok hin cT
     have cT := bt5.cell
     unfold aH.cells
     try go_wp2_with fail
     refine fM hK cT ?_
     clear hK K
     refine rdA 6 (fun K hK => ?_)
     go_simp
     have cT2 := (bt5.alloc (.cells (c.cells Ac nc).toArray 179)).cell
     refine fM hK cT2 ?_
     clear hK K
     refine tkB 7 cT2 ?_
     refine rdA 8 (fun K hK => ?_)
     have b46 := b45.alloc (.cells (c.cells Ac nc).toArray 179)
     obtain ⟨c4, l4, f4⟩ := b46.all
     unfold aH.cells at c4 f4 l4
     go_simp
     refine rE hK ?_
     clear hK K
     refine bY aI ?_ _
     go_wp2_with fail
     have hq := (gq.row (e := 179) (k := 27) (t := aC) (m := 0) (line := t.line) (l := [c]) (gq.one (gJ.of (B := w.heap.size + 1) (X := []) HIN.out ah av)) rfl ah av av)
     refine bodyPost_ret (v := .agg (ay 27 aC 0 t.line (some (aj w5.heap.size 0)) 1 1)) ?_ rfl ⟨.mk 27 aC 0 t.line [c], _, _, _, _, rfl, ((hM5.out.below (bA _ _)).gU lp (nR _)), fun _ => HDD.out, nY _ _ _ _ _ (by first | exact ht1 | exact nZ _) ⟨ht2, ht3⟩ aA l8 av aA (ok1 HOK.out), (hq.gU (.inr (Nat.lt_succ_self _))).to (Nat.le_succ _) (nR _)⟩
     simp [results, Tryz.results207, go_sem, c4]
   | false =>
     go_wp2_with fail
     refine (hP hM9.out.ps HT.out).mono ?_
     rintro e w5 ⟨c, Ac, nc, a5, uk, rfl, hmv, -, hok, hin⟩
     have hM5 := lH ((hM9.out.step hmv).below ((bR _ _).alloc (nR _) (.cells (ay c.kind c.text c.number c.line Ac c.kids.length nc) 179)))
     have b45 := (b49.grown hmv.gr aK).alloc (.cells (ay c.kind c.text c.number c.line Ac c.kids.length nc) 179)
     have be5 := Blk.new w5 179 (ay c.kind c.text c.number c.line Ac c.kids.length nc)
     have hsz5 := hmv.size
     have hq5 := lH (((gJ.of (B := w.heap.size + 1) (X := []) hin ah av).more (Y := [w5.heap.size]) (fun x hx => .inr (.inl (by rw [mS hx]; exact nR _)))).alloc (.cells (ay c.kind c.text c.number c.line Ac c.kids.length nc) 179))
     have Xu := lH hok
     clear hmv hok hin b49 bt9 hM9
     have hw5 : (w5.alloc (.cells (ay c.kind c.text c.number c.line Ac c.kids.length nc) 179)).heap.size = w5.heap.size + 1 := av
     have hse : w.heap.size < w5.heap.size := ah
     unfold aH.cells
     go_wp2_with fail
     go_loopg [] (ts.length - a5) (fun gk wx => ∃ (c : aH) (Ac : Option Addr) (nc a1 : Nat) (gZ : Int), Hid (Mv p ts w a 0 true wx a1 gZ) ∧ Hid c.Ok ∧ Hid (gq wx (w.heap.size + 1) [w5.heap.size] c Ac nc) ∧ Blk wx w5.heap.size 179 (ay c.kind c.text c.number c.line Ac c.kids.length nc) ∧ Blk wx w.heap.size 179 (ay 0 aC 0 0 none 0 0) ∧ w5.heap.size < wx.heap.size ∧ gk = ts.length - a1)
     case atStart => exact ⟨c, Ac, nc, a5, uk, hM5, Xu, hq5, be5, b45, ah, rfl⟩
     clear hM5 Xu hq5 be5 b45
     obtain ⟨c, Ac, nc, a1, gZ, hM, hOK, hQ, be, b4, hsx, rfl⟩ := hrel
     have p2 := hM.out.ps.j5
     have ha1 := hM.out.top
     by_cases hz : gZ = 0
     rotate_left
     ·have cz : (gZ == 0) = false := by simp [hz]
      clear hz
      exact Oa
     subst hz
     go_wp2_with fail
     refine (jL hM.out.ps HT.out).mono ?_
     rintro e w6 ⟨rfl, hb6⟩
     obtain ⟨q1, q2, q3⟩ := y8 HT.out a1
     generalize gY ts a1 = t at *
     have hfd := tF t.kind t.line t.text
     replace hM := lH (hM.out.below hb6)
     replace be := be.later hb6
     replace b4 := b4.later hb6
     replace hQ := lH (hQ.out.later hb6)
     replace hsx := nL hsx hb6.size
     clear p2 hb6
     go_wp2_with fail
     clear hfd
     refine (dP _ hM.out.ps HT.out).mono ?_
     rintro e w7 ⟨b, a2, rfl, hmv, -, hn, -⟩
     have hMn := lH (hM.out.step hmv)
     have ben := be.grown hmv.gr aK
     have b4n := b4.grown hmv.gr aK
     have hQn := lH (hQ.out.box hmv.gr ah)
     have hsn := nL hsx hmv.size
     have HN := lH hn
     have HON := lH hmv.on
     have hln := hmv.le
     clear hmv hn
     cases b with
     | true =>
       have hx2 := HON.out fB fB
       have Xv := hMn.out.top
       clear hM be b4 hQ hsx HN HON
       go_upto_region 15 with fail
       have cT := ben.cell
       refine jm 10 (fun w' => ∀ i, w'.cell? (aj w5.heap.size i) = (ay c.kind c.text c.number c.line Ac c.kids.length nc : Array Value)[i]?) 9 ?_
       replace ben := ben.drew
       replace b4n := b4n.drew
       replace hQn := lH hQn.out.drew
       replace hMn := lH (hMn.out.below ((Same.refl w7).drew.below _))
       have wN : w7.drew.heap.size = w7.heap.size := rfl
       rw [← wN] at hsn
       clear wN
       generalize w7.drew = Wd at *
       clear cT
       have cT := ben.cell
       refine tkB 0 cT ?_
       refine tkB 1 cT ?_
       refine tkB 3 cT ?_
       refine tkB 4 cT ?_
       refine tkB 5 cT ?_
       refine dV [2, 6] aI rfl ?_
       refine bS.aN rfl (fun K hK => ?_) (bS.aN rfl (fun K hK => ?_) bS.eO)
       ·skip
        go_simp
        have cL := (ben.alloc (.cells (ay c.kind c.text c.number c.line Ac c.kids.length nc) 179)).cell
        have beL := ben.alloc (.cells (ay c.kind c.text c.number c.line Ac c.kids.length nc) 179)
        have b4L := b4n.alloc (.cells (ay c.kind c.text c.number c.line Ac c.kids.length nc) 179)
        have hML := lH (hMn.out.below ((bR _ _).alloc (nR _) (.cells (ay c.kind c.text c.number c.line Ac c.kids.length nc) 179)))
        have hGL : Hid (dL (w.heap.size + 1) [w5.heap.size] 179 5 aH.aG (Wd.alloc (.cells (ay c.kind c.text c.number c.line Ac c.kids.length nc) 179)) [c] (.slice (some (aj Wd.heap.size 0)) 1 1) (c.cells Ac nc)) := dL.lit (e := 179) (l := [c]) (K := 5) (X := [w5.heap.size]) (gq.one hQn.out) rfl ah (fun x hx => by rw [mS hx]; exact hsn) vU
        have hQL := lH ((hQn.out.more (Y := [Wd.heap.size, w5.heap.size]) yS).alloc (.cells (ay c.kind c.text c.number c.line Ac c.kids.length nc) 179))
        have hsL : (Wd.alloc (.cells (ay c.kind c.text c.number c.line Ac c.kids.length nc) 179)).heap.size = Wd.heap.size + 1 := av
        refine hK.out _ _ (fun _ => cL) ?_
        clear hK K
        try simp only [Act.put, List.setIfInBounds_toArray, List.set_cons_zero, List.set_cons_succ]
        clear cT
        have cT := cL
        clear cL
        generalize hWL : Wd.alloc (.cells (ay c.kind c.text c.number c.line Ac c.kids.length nc) 179) = WL at *
        refine rdA 6 (fun K hK => ?_)
        go_simp
        go_at_call 224
        refine (hI _ hML.out.ps HT.out).mono ?_
        rintro e w8 ⟨li, Ai, ni, a3, mI, rfl, hmv, hli, hoi, hown⟩
        have hM8 := lH (hML.out.step hmv)
        have be8 := beL.grown hmv.gr aK
        have b48 := b4L.grown hmv.gr aK
        have hs8 := hmv.size
        have hl8 := hmv.le
        obtain ⟨us, hrd, hou, hul⟩ := hown.out
        have hlu := uH aH.eD li
        have hone : ∀ u ∈ us, u.oneCell' = true := by obtain ⟨F, h, -⟩ := hou; exact zL h
        have Zh := lH (hGL.out.box hmv.gr ah)
        have hQ8 := lH (hQL.out.call hmv.gr ah hou ah (fun x hx => by rcases mC hx with rfl | hx; omega; rw [mS hx]; omega))
        have Xb := hrd
        clear hmv hown cT
        have cT := be8.cell
        try go_wp2_with fail
        refine fM hK cT ?_
        clear hK K
        have hMX := hM8
        have beX := be8
        have b4X := b48
        have hGX := Zh
        have hQX := hQ8
        generalize Wd.heap.size = gx at *
        exact NL
       skip
       go_simp
       go_at_call 224
       refine (hI _ hMn.out.ps HT.out).mono ?_
       rintro e w8 ⟨li, Ai, ni, a3, mI, rfl, hmv, hli, hoi, hown⟩
       have hM8 := lH (hMn.out.step hmv)
       have be8 := ben.grown hmv.gr aK
       have b48 := b4n.grown hmv.gr aK
       have hs8 := hmv.size
       have hl8 := hmv.le
       obtain ⟨us, hrd, hou, hul⟩ := hown.out
       have hlu := uH aH.eD li
       have hone : ∀ u ∈ us, u.oneCell' = true := by obtain ⟨F, h, -⟩ := hou; exact zL h
       have hQ8 := lH (hQn.out.call hmv.gr ah hou ah yB)
       have hQc := lH (hQn.out.box hmv.gr ah)
       clear hmv hown cT
       have cT := be8.cell
       try go_wp2_with fail
       refine hK.out _ _ (fun _ => cT) ?_
       clear hK K
       try simp only [Act.put, List.setIfInBounds_toArray, List.set_cons_zero, List.set_cons_succ]
       refine rdA 2 (fun K hK => ?_)
       go_simp
       have beL := be8.alloc (.cells (ay c.kind c.text c.number c.line Ac c.kids.length nc) 179)
       have b4L := b48.alloc (.cells (ay c.kind c.text c.number c.line Ac c.kids.length nc) 179)
       have hML := lH (hM8.out.below ((bR _ _).alloc (nR _) (.cells (ay c.kind c.text c.number c.line Ac c.kids.length nc) 179)))
       have hGL : Hid (dL (w.heap.size + 1) [w5.heap.size] 179 5 aH.aG (w8.alloc (.cells (ay c.kind c.text c.number c.line Ac c.kids.length nc) 179)) [c] (.slice (some (aj w8.heap.size 0)) 1 1) (c.cells Ac nc)) := dL.lit (e := 179) (l := [c]) (K := 5) (X := [w5.heap.size]) (gq.one hQc) rfl ah yB vU
       have hQL := lH ((hQ8.out.more (Y := [w8.heap.size, w5.heap.size]) yS).alloc (.cells (ay c.kind c.text c.number c.line Ac c.kids.length nc) 179))
       have hsL : (w8.alloc (.cells (ay c.kind c.text c.number c.line Ac c.kids.length nc) 179)).heap.size = w8.heap.size + 1 := av
       have Xb := hrd.alloc (nR _) (.cells (ay c.kind c.text c.number c.line Ac c.kids.length nc) 179)
       clear cT
       have cT := beL.cell
       refine fM hK cT ?_
       clear hK K
       generalize hWL : w8.alloc (.cells (ay c.kind c.text c.number c.line Ac c.kids.length nc) 179) = WL at *
       have hMX := hML
       have beX := beL
       have b4X := b4L
       have hGX := hGL
       have hQX := hQL
       generalize w8.heap.size = gx at *
       exact NL
     | false =>
       go_wp2_with fail
       obtain rfl : a1 = a2 := (HN.out fB).symm
       clear hM be b4 hQ hsx HN HON hln
       have hM : Hid (Mv p ts w a 0 true w7 a1 0) := by simpa using hMn
       have be := ben
       have b4 := b4n
       have hQ := hQn
       have hsx := hsn
       clear hMn ben b4n hQn hsn
       refine (dP _ hM.out.ps HT.out).mono ?_
       rintro e w7 ⟨b, a2, rfl, hmv, -, hn, -⟩
       have hMn := lH (hM.out.step hmv)
       have ben := be.grown hmv.gr aK
       have b4n := b4.grown hmv.gr aK
       have hQn := lH (hQ.out.box hmv.gr ah)
       have hsn := nL hsx hmv.size
       have HN := lH hn
       have HON := lH hmv.on
       have hln := hmv.le
       clear hmv hn
       cases b with
       | true =>
         have hx2 := HON.out fB fB
         have Xv := hMn.out.top
         clear hM be b4 hQ hsx HN HON
         go_wp2_with fail
         refine (hL 1 hMn.out.ps HT.out ah ah).mono ?_
         rintro e w8 ⟨ci, Ai, ni, a3, mI, rfl, hmv, -, Xw, Xx⟩
         have hs8 : w5.heap.size < (w8.alloc (.cells (ay ci.kind ci.text ci.number ci.line Ai ci.kids.length ni) 179)).heap.size := by have := hmv.size; simp; omega
         have hM8 := lH ((hMn.out.step hmv).below ((bR _ _).alloc (nR _) (.cells (ay ci.kind ci.text ci.number ci.line Ai ci.kids.length ni) 179)))
         have be8 := (ben.grown hmv.gr aK).alloc (.cells (ay ci.kind ci.text ci.number ci.line Ai ci.kids.length ni) 179)
         have b48 := (b4n.grown hmv.gr aK).alloc (.cells (ay ci.kind ci.text ci.number ci.line Ai ci.kids.length ni) 179)
         have bi8 := Blk.new w8 179 (ay ci.kind ci.text ci.number ci.line Ai ci.kids.length ni)
         have hQ8 := lH ((hQn.out.call hmv.gr ah Xx ah (fun x hx => by rw [mS hx]; exact hsn)).alloc (.cells (ay ci.kind ci.text ci.number ci.line Ai ci.kids.length ni) 179))
         have hl8 := hmv.le
         have hgi : w5.heap.size < w8.heap.size := nL hsn hmv.size
         have Xy := lH Xw
         clear hmv Xx Xw ben b4n hMn hQn hsn
         unfold aH.cells
         go_upto_region 18 with fail
         generalize w8.alloc (.cells (ay ci.kind ci.text ci.number ci.line Ai ci.kids.length ni) 179) = W8 at *
         go_wp2_with fail
         refine (dP _ hM8.out.ps HT.out).mono ?_
         rintro e w9 ⟨b, a4, rfl, hmv, -, -, -⟩
         have hM9 := lH (hM8.out.step hmv)
         have be9 := be8.grown hmv.gr aK
         have b49 := b48.grown hmv.gr aK
         have bi9 := bi8.grown hmv.gr aK
         have hQ9 := lH (hQ8.out.box hmv.gr ah)
         have hs9 := nL hs8 hmv.size
         have hl9 := hmv.le
         clear hmv hM8 be8 b48 bi8 hQ8 hs8
         cases b with
         | true =>
           go_wp2_with fail
           refine (hL 1 hM9.out.ps HT.out ah ah).mono ?_
           rintro e w10 ⟨cj, Aj, nj, a5, uk, rfl, hmv, -, Xz, hinj⟩
           have GZ : w5.heap.size < (w10.alloc (.cells (ay cj.kind cj.text cj.number cj.line Aj cj.kids.length nj) 179)).heap.size := by have := hmv.size; simp; omega
           have yA := lH ((hM9.out.step hmv).below ((bR _ _).alloc (nR _) (.cells (ay cj.kind cj.text cj.number cj.line Aj cj.kids.length nj) 179)))
           have IP := (be9.grown hmv.gr aK).alloc (.cells (ay cj.kind cj.text cj.number cj.line Aj cj.kids.length nj) 179)
           have PN := (b49.grown hmv.gr aK).alloc (.cells (ay cj.kind cj.text cj.number cj.line Aj cj.kids.length nj) 179)
           have Zi := (bi9.grown hmv.gr aK).alloc (.cells (ay cj.kind cj.text cj.number cj.line Aj cj.kids.length nj) 179)
           have Zj := Blk.new w10 179 (ay cj.kind cj.text cj.number cj.line Aj cj.kids.length nj)
           have Zk := lH ((hQ9.out.call hmv.gr ah hinj ah (fun x hx => by rw [mS hx]; exact hs9)).alloc (.cells (ay cj.kind cj.text cj.number cj.line Aj cj.kids.length nj) 179))
           have TE := hmv.le
           have Zl := lH Xz
           clear hmv hinj Xz hM9 be9 b49 bi9 hQ9 hs9
           unfold aH.cells
           go_upto_region 20 with fail
           generalize w10.alloc (.cells (ay cj.kind cj.text cj.number cj.line Aj cj.kids.length nj) 179) = W10 at *
           have ce := IP.cell
           have ci' := Zi.cell
           have cj' := Zj.cell
           have hq := lH (gq.row (e := 179) (k := 12) (t := aC) (m := 0) (line := t.line) (l := [c, ci, cj]) (gJ.three Zk.out) aM ah yB av)
           have beR := IP.alloc (.cells #[Value.int i64 c.kind, c.text, c.number, c.line, .slice Ac c.kids.length nc, Value.int i64 ci.kind, ci.text, ci.number, ci.line, .slice Ai ci.kids.length ni, Value.int i64 cj.kind, cj.text, cj.number, cj.line, .slice Aj cj.kids.length nj] 179)
           have b4R := PN.alloc (.cells #[Value.int i64 c.kind, c.text, c.number, c.line, .slice Ac c.kids.length nc, Value.int i64 ci.kind, ci.text, ci.number, ci.line, .slice Ai ci.kids.length ni, Value.int i64 cj.kind, cj.text, cj.number, cj.line, .slice Aj cj.kids.length nj] 179)
           obtain ⟨cR, lR, fR⟩ := beR.all
           have HS := lH GZ
           clear GZ
           go_wp2_with fail
           have GZ := HS.out
           have hMR := lH ((yA.out.below ((bR _ _).alloc (nR _) (.cells #[Value.int i64 c.kind, c.text, c.number, c.line, .slice Ac c.kids.length nc, Value.int i64 ci.kind, ci.text, ci.number, ci.line, .slice Ai ci.kids.length ni, Value.int i64 cj.kind, cj.text, cj.number, cj.line, .slice Aj cj.kids.length nj] 179))).gU (g := w5.heap.size) (v0 := .int i64 12) (v1 := .string aC) (v2 := .int i64 0) (v3 := .int i64 t.line) (v4 := .slice (some (aj W10.heap.size 0)) 3 3) lp (Nat.le_of_lt hse))
           have hQR := lH (hq.out.gU (g := w5.heap.size) (v0 := .int i64 12) (v1 := .string aC) (v2 := .int i64 0) (v3 := .int i64 t.line) (v4 := .slice (some (aj W10.heap.size 0)) 3 3) (.inl (List.mem_singleton.2 rfl)))
           have beS := beR.gU (v0 := .int i64 12) (v1 := .string aC) (v2 := .int i64 0) (v3 := .int i64 t.line) (v4 := .slice (some (aj W10.heap.size 0)) 3 3)
           have b4S := b4R.zM (g := w5.heap.size) (v0 := .int i64 12) (v1 := .string aC) (v2 := .int i64 0) (v3 := .int i64 t.line) (v4 := .slice (some (aj W10.heap.size 0)) 3 3) ah
           have hsS : w5.heap.size < (gU (W10.alloc (.cells #[Value.int i64 c.kind, c.text, c.number, c.line, .slice Ac c.kids.length nc, Value.int i64 ci.kind, ci.text, ci.number, ci.line, .slice Ai ci.kids.length ni, Value.int i64 cj.kind, cj.text, cj.number, cj.line, .slice Aj cj.kids.length nj] 179)) w5.heap.size (.int i64 12) (.string aC) (.int i64 0) (.int i64 t.line) (.slice (some (aj W10.heap.size 0)) 3 3)).heap.size := by simp [World.setCell]; omega
           clear hq
           refine (iP _ hMR.out.ps HT.out).mono ?_
           rintro e w15 ⟨a6, EA, rfl, hmv, -⟩
           have Vx := lH (hMR.out.step hmv)
           have Vy := beS.grown hmv.gr aK
           have Vz := b4S.grown hmv.gr aK
           have VA := lH (hQR.out.box hmv.gr ah)
           have TF := nL hsS hmv.size
           have XA := hmv.le
           have XB := hmv.top
           clear hmv cR fR lR
           go_wp2_with fail
           go_roundg (ts.length - a6)
           case measure => omega
           exact ⟨aH.mk 12 aC 0 t.line [c, ci, cj], some (aj W10.heap.size 0), 3, a6, _, lH (by simpa using Vx.out), lH (nY _ _ _ _ _ (nZ _) ⟨q2, q3⟩ aA l8 av aA (ok3 hOK.out Xy.out Zl.out)), VA, Vy, Vz, TF, rfl⟩
         | false =>
           go_upto_region 21 with fail
           have ce := be9.cell
           have ci' := bi9.cell
           have hq := lH (gq.row (e := 179) (k := 11) (t := aC) (m := 0) (line := t.line) (l := [c, ci]) (gJ.two hQ9.out) aM ah yB av)
           have beR := be9.alloc (.cells (dX c.kind c.text c.number c.line Ac c.kids.length nc ci.kind ci.text ci.number ci.line Ai ci.kids.length ni) 179)
           have b4R := b49.alloc (.cells (dX c.kind c.text c.number c.line Ac c.kids.length nc ci.kind ci.text ci.number ci.line Ai ci.kids.length ni) 179)
           obtain ⟨cR, lR, fR⟩ := beR.all
           have HS := lH hs9
           clear hs9
           go_wp2_with fail
           have hs9 := HS.out
           have hMR := lH ((hM9.out.below ((bR _ _).alloc (nR _) (.cells (dX c.kind c.text c.number c.line Ac c.kids.length nc ci.kind ci.text ci.number ci.line Ai ci.kids.length ni) 179))).gU (g := w5.heap.size) (v0 := .int i64 11) (v1 := .string aC) (v2 := .int i64 0) (v3 := .int i64 t.line) (v4 := .slice (some (aj w9.heap.size 0)) 2 2) lp (Nat.le_of_lt hse))
           have hQR := lH (hq.out.gU (g := w5.heap.size) (v0 := .int i64 11) (v1 := .string aC) (v2 := .int i64 0) (v3 := .int i64 t.line) (v4 := .slice (some (aj w9.heap.size 0)) 2 2) (.inl (List.mem_singleton.2 rfl)))
           have beS := beR.gU (v0 := .int i64 11) (v1 := .string aC) (v2 := .int i64 0) (v3 := .int i64 t.line) (v4 := .slice (some (aj w9.heap.size 0)) 2 2)
           have b4S := b4R.zM (g := w5.heap.size) (v0 := .int i64 11) (v1 := .string aC) (v2 := .int i64 0) (v3 := .int i64 t.line) (v4 := .slice (some (aj w9.heap.size 0)) 2 2) ah
           have hsS : w5.heap.size < (gU (w9.alloc (.cells (dX c.kind c.text c.number c.line Ac c.kids.length nc ci.kind ci.text ci.number ci.line Ai ci.kids.length ni) 179)) w5.heap.size (.int i64 11) (.string aC) (.int i64 0) (.int i64 t.line) (.slice (some (aj w9.heap.size 0)) 2 2)).heap.size := by simp [World.setCell]; omega
           clear hq
           refine (iP _ hMR.out.ps HT.out).mono ?_
           rintro e w15 ⟨a6, EA, rfl, hmv, -⟩
           have Vx := lH (hMR.out.step hmv)
           have Vy := beS.grown hmv.gr aK
           have Vz := b4S.grown hmv.gr aK
           have VA := lH (hQR.out.box hmv.gr ah)
           have TF := nL hsS hmv.size
           have XA := hmv.le
           have XB := hmv.top
           clear hmv cR fR lR
           go_wp2_with fail
           go_roundg (ts.length - a6)
           case measure => omega
           exact ⟨aH.mk 11 aC 0 t.line [c, ci], some (aj w9.heap.size 0), 2, a6, _, lH (by simpa using Vx.out), lH (nY _ _ _ _ _ (nZ _) ⟨q2, q3⟩ aA l8 av aA (ok2 hOK.out Xy.out)), VA, Vy, Vz, TF, rfl⟩
       | false =>
         go_wp2_with fail
         obtain rfl : a1 = a2 := (HN.out fB).symm
         clear hM be b4 hQ hsx HN HON hln
         have hM : Hid (Mv p ts w a 0 true w7 a1 0) := by simpa using hMn
         have be := ben
         have b4 := b4n
         have hQ := hQn
         have hsx := hsn
         clear hMn ben b4n hQn hsn
         refine (dP _ hM.out.ps HT.out).mono ?_
         rintro e w7 ⟨b, a2, rfl, hmv, -, hn, -⟩
         have hMn := lH (hM.out.step hmv)
         have ben := be.grown hmv.gr aK
         have b4n := b4.grown hmv.gr aK
         have hQn := lH (hQ.out.box hmv.gr ah)
         have hsn := nL hsx hmv.size
         have HN := lH hn
         have HON := lH hmv.on
         have hln := hmv.le
         clear hmv hn
         cases b with
         | true =>
           have hx2 := HON.out fB fB
           have Xv := hMn.out.top
           clear hM be b4 hQ hsx HN HON
           go_wp2_with fail
           refine (mM hMn.out.ps HT.out).mono ?_
           rintro e w8 ⟨s, a3, mI, rfl, hs, hmv, -⟩
           have hM8 := lH (hMn.out.step hmv)
           have be8 := ben.grown hmv.gr aK
           have b48 := b4n.grown hmv.gr aK
           have hQ8 := hQn.out.box hmv.gr ah
           have hs8 := nL hsn hmv.size
           have hl8 := hmv.le
           have hq := lH (gq.row (e := 179) (k := 13) (t := s) (m := 0) (line := t.line) (l := [c]) (gq.one hQ8) rfl ah (fun x hx => by rw [mS hx]; exact hs8) av)
           clear hmv hQ8 hMn ben b4n hQn hsn
           have HS8 := lH hs8
           clear hs8
           have be9 := be8.alloc (.cells (c.cells Ac nc).toArray 179)
           have b49 := b48.alloc (.cells (c.cells Ac nc).toArray 179)
           have ce := be8.cell
           obtain ⟨c9, l9, f9⟩ := be9.all
           unfold aH.cells at c9 f9 l9
           go_wp2_with fail
           have hs8 := HS8.out
           have YX := hM8.out.top
           go_roundg (ts.length - a3)
           case measure => omega
           exact ⟨aH.mk 13 s 0 t.line [c], some (aj w8.heap.size 0), 1, a3, _, lH ((hM8.out.below (bA _ _)).gU lp (Nat.le_of_lt hse)), lH (nY _ _ _ _ _ hs ⟨q2, q3⟩ aA l8 av aA (ok1 hOK.out)), lH (hq.out.gU (.inl (List.mem_singleton.2 rfl))), be9.gU, b49.zM ah, by simp [World.setCell]; omega, rfl⟩
         | false =>
           obtain rfl : a1 = a2 := (HN.out fB).symm
           clear hM be b4 hQ hsx HN HON hln
           have hM : Hid (Mv p ts w a 0 true w7 a1 0) := by simpa using hMn
           have be := ben
           have b4 := b4n
           have hQ := hQn
           have hsx := hsn
           clear hMn ben b4n hQn hsn
           exact Oa
end
section
open Go Go.RowKit
def Pg (G : List Nat) (B : Nat) (e : TypeId) (w : World) (r : List aH) (v : Value) (us : List Value) : Prop :=
 ∃ F : List Nat, w.ownsRow B e 5 v r.length us ∧ aO w (flat aH.aG r) F us ∧ F.Nodup ∧ (∀ g ∈ F, g ∈ G) ∧ ∀ g, v.ownBlock = some g → g ∈ G ∧ g ∉ F
def Duo (B : Nat) (X : List Nat) (e : TypeId) (w : World) (l : List aH) (v : Value) (vs : List Value) (r : List aH) (vr : Value) (us : List Value) : Prop :=
 ∃ G : List Nat, dL B (G ++ X) e 5 aH.aG w l v vs ∧ Pg G B e w r vr us ∧ ∀ g ∈ G, B ≤ g ∧ g ∉ X ∧ g < w.heap.size
section
variable {B p hi hi' : Nat} {X : List Nat} {e : TypeId} {w w' w1 w2 w3 w4 w5 : World} {l r : List aH} {v v' vr vr' : Value} {vs us ms bs : List Value} {c m b : aH}
theorem Pg.kept {G : List Nat} (h : Pg G B e w r v us) (hk : ∀ g ∈ G, g < w.heap.size → w'.heap[g]? = w.heap[g]?) : Pg G B e w' r v us := by
 exact OD
theorem Duo.kept (h : Duo B X e w l v vs r vr us) (hk : ∀ g, B ≤ g → g ∉ X → g < w.heap.size → w'.heap[g]? = w.heap[g]?) (hs : w.heap.size ≤ w'.heap.size) : Duo B X e w' l v vs r vr us := by
 obtain ⟨G, h1, h2, h3⟩ := h
 exact ⟨G, h1.kept fun g a b c => hk g a (fun hx => b (List.mem_append_right _ hx)) c, h2.kept fun g hg hl => hk g (h3 g hg).1 (h3 g hg).2.1 hl, fun g hg => ⟨(h3 g hg).1, (h3 g hg).2.1, nL (h3 g hg).2.2 hs⟩⟩
theorem Duo.later (h : Duo B X e w l v vs r vr us) (hb : Below w.heap.size w w') : Duo B X e w' l v vs r vr us := h.kept (fun g _ _ hg => hb.block g hg) hb.size
theorem Duo.alloc (h : Duo B X e w l v vs r vr us) (o : Obj) : Duo B X e (w.alloc o) l v vs r vr us := h.later (bA _ _)
theorem Duo.box (h : Duo B X e w l v vs r vr us) (hg : w.grownBy w' (some p)) (hp : p < B) : Duo B X e w' l v vs r vr us := h.kept (fun g h1 _ h2 => hg.block g h2 aK) hg.size
theorem Duo.set (h : Duo B X e w l v vs r vr us) {q : Addr} (hq : q.block ∈ X ∨ q.block < B) (u : Value) : Duo B X e (w.setCell q u) l v vs r vr us :=
 h.kept (fun g h1 h2 _ => Below.heap_setCell w q u g Cc) kr
theorem Duo.own (h : Duo B X e w l v vs r vr us) : w.ownsRow B e 5 v l.length vs := by obtain ⟨G, h1, -⟩ := h; exact h1.own
theorem Duo.F7 (h : Duo B X e w l v vs r vr us) : w.ownsRow B e 5 vr r.length us := by obtain ⟨G, -, ⟨F, h1, -⟩, -⟩ := h; exact h1
theorem Duo.away (h : Duo B X e w l v vs r vr us) : ∀ g, v.ownBlock = some g → B ≤ g ∧ g ∉ X ∧ g < w.heap.size := by
 obtain ⟨G, h1, -⟩ := h
 exact fun g hg => ⟨(h1.away g hg).1, fun hx => (h1.away g hg).2.1 (List.mem_append_right _ hx), (h1.away g hg).2.2⟩
theorem Duo.XC (h : Duo B X e w l v vs r vr us) : ∀ g, vr.ownBlock = some g → B ≤ g ∧ g ∉ X ∧ g < w.heap.size := by
 obtain ⟨G, -, ⟨F, -, -, -, -, h5⟩, h3⟩ := h
 exact fun g hg => h3 g (h5 g hg).1
theorem Duo.start (h : dL B X e 5 aH.aG w l v vs) (hB : B ≤ w.heap.size) (hX : ∀ x ∈ X, x < w.heap.size) : Duo B X e (w.alloc (.cells #[] e)) l v vs [] (.slice (some (aj w.heap.size 0)) 0 0) [] := by
 refine ⟨[w.heap.size], (h.more (fun x hx => ?_)).alloc _, ⟨[], World.ownsRow_made w #[] 0 hB (nZ _) rfl, by simp only [fC]; exact .eO, List.nodup_nil, av, fun g hg => ?_⟩, fun g hg => ?_⟩
 ·rcases mA hx with hx | hx
  ·rw [mS hx]; exact .inr (.inl (nR _))
  exact .inl hx
 ·have hg : some w.heap.size = some g := hg
  injection hg with hg
  subst hg; simp
 rw [mS hg]
 exact ⟨hB, fun hx => Nat.lt_irrefl _ (hX _ hx), av⟩
theorem Duo.XD (h : Duo B X e w l v vs [] vr us) (hc : w.grownBy w1 (some p)) (hp : p < B) (hB : B ≤ w.heap.size) (hX : ∀ x ∈ X, x < w.heap.size) (hm : eu w1 w.heap.size hi m.aG ms)
 (ho : w2.ownsRow B e 5 vr' 1 ms) (hgr : w1.grownBy w2 vr.ownBlock) (hat : vr'.ownBlock = vr.ownBlock ∨ vr'.ownBlock = some (w1.heap.size + 1)) : Duo B X e w2 l v vs [m] vr' ms := by
 obtain ⟨G, h1, ⟨F, g1, g2, g3, g4, g5⟩, h3⟩ := h
 obtain ⟨G', b1, b2, b3⟩ := hm
 have hG1 := b1.lt
 have hlB := fun g hg => ho.lt g hg
 have hnb : ∀ g, vr'.ownBlock = some g → g ∈ G ∨ w.heap.size ≤ g := fun g hg => by
  rcases hat with q | q
  ·exact .inl (g5 g (by rw [← q]; exact hg)).1
  rw [q] at hg; injection hg with hg; have := hc.size; right; omega
 have key : ∀ g, g < w.heap.size → g ∉ G → B ≤ g → w2.heap[g]? = w.heap[g]? := fun g a b c =>
  (hgr.block g (nL a hc.size) (fun q => b (g5 g q.symm).1)).trans (hc.block g a Cf)
 refine ⟨G ++ (G' ++ vr'.ownBlock.toList), (h1.more (Y := (G ++ (G' ++ vr'.ownBlock.toList)) ++ X) fun x hx => ?_).kept fun g a b c => key g c (fun hg => b mZ) a, ⟨G', ho, ?_, b2, fun g hg => by simp [hg], fun g hg => ⟨by simp [hg], fun hm => ?_⟩⟩, fun g hg => ?_⟩
 ·rcases mA hx with hx | hx
  ·rcases mA hx with hx | hx
   ·exact .inl (List.mem_append_left _ hx)
   rcases mA hx with hx | hx
   ·exact .inr (.inl (b3 x hx).1)
   have hx : vr'.ownBlock = some x := by simpa using hx
   rcases hnb x hx with hx | hx
   ·exact .inl (List.mem_append_left _ hx)
   exact .inr (.inl hx)
  exact .inl (List.mem_append_right _ hx)
 ·rw [cK, fC, List.append_nil]
  exact b1.kept fun g hg => hgr.block g (hG1 g hg) (fun q => by have := (h3 g (g5 g q.symm).1).2.2; have := (b3 g hg).1; omega)
 ·rcases hat with q | q
  ·have := (h3 g (g5 g (by rw [← q]; exact hg)).1).2.2; have := (b3 g hm).1; omega
  rw [q] at hg; injection hg with hg; have := hG1 g hm; omega
 have hs1 := hc.size
 have hs2 := hgr.size
 rcases mA hg with hg | hg
 ·have := h3 g hg; exact ⟨this.1, this.2.1, ah⟩
 rcases mA hg with hg | hg
 ·exact ⟨by have := (b3 g hg).1; omega, fun hx => by have := hX g hx; have := (b3 g hg).1; omega, by have := hG1 g hg; omega⟩
 have hg : vr'.ownBlock = some g := by simpa using hg
 refine ⟨(hlB g hg).1, fun hx => ?_, (hlB g hg).2⟩
 rcases hnb g hg with h' | h'
 ·exact (h3 g h').2.1 hx
 have := hX g hx; omega
theorem Duo.XE (h : Duo B X e w l v vs r vr us) (hc : w.grownBy w1 (some p)) (hp : p < B) (hB : B ≤ w.heap.size) (hX : ∀ x ∈ X, x < w.heap.size) (hm : eu w1 w.heap.size hi m.aG ms)
 (h12 : w1.grownBy w2 (some p)) (h23 : w2.grownBy w3 (some p)) (hb : eu w3 w2.heap.size hi' b.aG bs) (h34 : Below w3.heap.size w3 w4)
 (ho : w5.ownsRow B e 5 v' (l.length + 2) (vs ++ (ms ++ bs))) (hgr : w4.grownBy w5 v.ownBlock) (hat : v'.ownBlock = v.ownBlock ∨ ∃ k, v'.ownBlock = some k ∧ w4.heap.size ≤ k) : Duo B X e w5 (l ++ [m, b]) v' (vs ++ (ms ++ bs)) r vr us := by
 obtain ⟨G, h1, h2, h3⟩ := h
 have hGl : ∀ g ∈ G, g < w.heap.size := fun g hg => (h3 g hg).2.2
 have hva := h1.away
 have hd : gJ w B (v.ownBlock.toList ++ (G ++ X)) (flat aH.aG l) vs := by
  obtain ⟨F, a1, a2, a3, a4, a5⟩ := h1
  refine ⟨F, a2, a3, fun g hg => ⟨(a4 g hg).1, fun hx => ?_⟩⟩
  rcases mA hx with hx | hx
  ·exact (a5 g (by simpa using hx)).1 hg
  exact (a4 g hg).2 hx
 have hY : ∀ x ∈ v.ownBlock.toList ++ (G ++ X), x < w.heap.size := fun x hx => by
  rcases mA hx with hx | hx
  ·exact (hva x (by simpa using hx)).2.2
  rcases mA hx with hx | hx
  ·exact hGl x hx
  exact hX x hx
 have hs1 := hc.size
 have hs2 := h12.size
 have hs3 := h23.size
 have hs4 := h34.size
 have d1 := (hd.call hc hp hm hB hY).box h12 hp
 have d2 := (d1.call h23 hp hb ah (fun x hx => by have := hY x hx; omega)).later h34
 have d3 : gJ w4 B (v.ownBlock.toList ++ (G ++ X)) (flat aH.aG (l ++ [m, b])) (vs ++ (ms ++ bs)) := by
  rw [jH, cK, cK, fC, List.append_nil, show vs ++ (ms ++ bs) = (vs ++ ms) ++ bs from (List.append_assoc _ _ _).symm, show flat aH.aG l ++ (m.aG ++ b.aG) = (flat aH.aG l ++ m.aG) ++ b.aG from (List.append_assoc _ _ _).symm]
  exact d2
 have K : ∀ g, g < w.heap.size → B ≤ g → some g ≠ v.ownBlock → w5.heap[g]? = w.heap[g]? := fun g a b c =>
  (hgr.block g ah c).trans ((h34.block g ah).trans ((h23.block g ah Cf).trans ((h12.block g ah Cf).trans (hc.block g a Cf))))
 have hs5 := hgr.size
 refine ⟨G, ?_, h2.kept fun g hg hl => K g hl (h3 g hg).1 (fun q => (hva g q.symm).2.1 (List.mem_append_left _ hg)), fun g hg => ⟨(h3 g hg).1, (h3 g hg).2.1, by have := hGl g hg; omega⟩⟩
 obtain ⟨F, a1, a2, a3⟩ := d3
 refine ⟨F, by simpa using ho, a1.kept fun g hg => hgr.block g (a1.lt g hg) (fun q => (a3 g hg).2 (List.mem_append_left _ (by simp [← q]))), a2, fun g hg => ⟨(a3 g hg).1, fun hx => (a3 g hg).2 (List.mem_append_right _ hx)⟩, fun g hg => ?_⟩
 rcases hat with q | ⟨k, q, hk⟩
 ·have hg' : v.ownBlock = some g := by rw [← q]; exact hg
  exact ⟨fun hm => (a3 g hm).2 (List.mem_append_left _ (by simp [hg'])), (hva g hg').2.1⟩
 rw [q] at hg; injection hg with hg; subst hg
 exact ⟨fun hm => by have := a1.lt _ hm; omega, fun hx => by have := hY k (List.mem_append_right _ hx); omega⟩
theorem Duo.all (h : Duo B X e w l v vs r vr us) (hX : ∀ x ∈ X, x < w.heap.size) (ho : w2.ownsRow B e 5 v' (l.length + r.length) (vs ++ us)) (hgr : w.grownBy w2 v.ownBlock) (hat : v'.ownBlock = v.ownBlock ∨ ∃ k, v'.ownBlock = some k ∧ w.heap.size ≤ k) : dL B X e 5 aH.aG w2 (l ++ r) v' (vs ++ us) := by
 obtain ⟨G, ⟨F, a1, a2, a3, a4, a5⟩, ⟨F', g1, g2, g3, g4, g5⟩, h3⟩ := h
 have n1 : ∀ g ∈ F', v.ownBlock ≠ some g := fun g hg q => (a5 g q).2 (List.mem_append_left _ (g4 g hg))
 refine ⟨F ++ F', by rw [List.length_append]; exact ho, ?_, List.nodup_append.2 ⟨a3, g3, fun a ha b hb q => ?_⟩, fun g hg => ?_, fun g hg => ?_⟩
 ·rw [jH]
  exact (a2.kept fun g hg => hgr.block g (a2.lt g hg) (fun q => (a5 g q.symm).1 hg)).app (g2.kept fun g hg => hgr.block g (g2.lt g hg) (fun q => n1 g hg q.symm))
 ·subst q; exact (a4 a ha).2 (List.mem_append_left _ (g4 a hb))
 ·rcases mA hg with hg | hg
  ·exact ⟨(a4 g hg).1, fun hx => (a4 g hg).2 (List.mem_append_right _ hx)⟩
  exact ⟨(h3 g (g4 g hg)).1, (h3 g (g4 g hg)).2.1⟩
 rcases hat with q | ⟨k, q, hk⟩
 ·have hg' : v.ownBlock = some g := by rw [← q]; exact hg
  refine ⟨fun hm => ?_, fun hx => (a5 g hg').2 (List.mem_append_right _ hx)⟩
  rcases mA hm with hm | hm
  ·exact (a5 g hg').1 hm
  exact n1 g hm hg'
 rw [q] at hg; injection hg with hg; subst hg
 refine ⟨fun hm => ?_, fun hx => by have := hX k hx; omega⟩
 rcases mA hm with hm | hm
 ·have := a2.lt _ hm; omega
 have := g2.lt _ hm; omega
end
end
section
open Go Go.RowKit
def MV (s : ByteArray) (i : Nat) (w : World) (e : Ending) (w' : World) : Prop := (∃ (k : Int) (t : ByteArray) (n : Int), e = .returned (.tuple #[.agg (aV k t 0), n]) ∧ t.size ≤ s.size + 200 ∧ (n = -1 ∨ ((i : Int) < n ∧ n ≤ s.size))) ∧ Below w.heap.size w w'
theorem ou (s : ByteArray) (a b : Nat) : (s.extract a b).size ≤ s.size + 200 := by
 have : (s.extract a b).size ≤ s.size := by simp [ByteArray.size_extract]; omega
 omega
theorem K7 (c : cB) : (dN c).size ≤ 128 := by
 have h1 := pW c 128
 rw [dN, strOfNums_size]; simpa using h1
theorem tL (s : ByteArray) (a b : Nat) : (s.extract a b).size ≤ s.size := by simp [ByteArray.size_extract]; omega
theorem ko {w W : World} (h : Below w.heap.size w W) (a b c : Value) : Below w.heap.size w (((W.setCell (aj w.heap.size 0) a).setCell (aj w.heap.size 1) b).setCell (aj w.heap.size 2) c) :=
 ((h.setCell (p := ⟨w.heap.size, 0, none⟩) (nR _) _).setCell (p := ⟨w.heap.size, 1, none⟩) (nR _) _).setCell (p := ⟨w.heap.size, 2, none⟩) (nR _) _
theorem zero_le (s : ByteArray) : (ByteArray.mk #[]).size ≤ s.size + 200 := nZ (s.size + 200)
theorem MW (s : ByteArray) (i : Nat) (w : World) (hs : s.size ≤ 1048576) (hi : i < s.size) (hL : iB s[i].toNat = true) :
 Calls Tryz.prog 156 (lM s i) w (MV s i w) := by
 have q1 : (0 : Int) ≤ (i : Int) := ah
 have q2 : (i : Int) < (s.size : Int) := ah
 have HL := lH hL
 clear hL
 go_in
 go_wp2_with (first | (go_at_call 68; refine (iD _ _ (Nat.le_of_lt_succ (UInt8.toNat_lt _))).mono ?_; rw [HL.out]; rintro e w2 ⟨rfl, rfl⟩) | fail)
 go_loop [7] (fun n => ∃ j : Nat, i < j ∧ j ≤ s.size ∧ n = .int i64 j) (fun n => s.size - (intOf n).toNat)
 case atStart => exact ⟨i + 1, ah, ah, by go_num⟩
 obtain ⟨j, hj, hj1, rfl⟩ := hrel
 have e0 : (0 : Int) ≤ (j : Int) := ah
 have bx := Blk.new w 171 (aV 0 aC 0)
 have cx := bx.cell
 have fx := bx.frozen
 by_cases hlt : j < s.size
 ·have e1 : (j : Int) < (s.size : Int) := by omega
  cases h1 : iB s[j].toNat with
  | true =>
    have H1 := lH h1
    clear h1
    exact Gh
  | false =>
    have H1 := lH h1
    clear h1
    cases h2 : mh s[j].toNat with
    | true =>
      exact JR
    | false =>
      have H2 := lH h2
      clear h2
      go_wp2_with (first | (go_at_call 68; refine (iD _ _ (Nat.le_of_lt_succ (UInt8.toNat_lt _))).mono ?_; rw [H1.out]; rintro e w2 ⟨rfl, rfl⟩) | (go_at_call 70; refine (kH _ _ (Nat.le_of_lt_succ (UInt8.toNat_lt _))).mono ?_; rw [H2.out]; rintro e w2 ⟨rfl, rfl⟩) | fail)
      refine (pI _ _).mono ?_
      rintro e w3 ⟨rfl, hb3⟩
      have hw : Below w.heap.size w w3 := ((bR w.heap.size w).alloc (nR _) _).trans (hb3.mono av)
      have bx3 := bx.below hb3 av
      clear cx fx bx
      obtain ⟨cx, lx, fx⟩ := bx3.all
      cases wY (s.extract i j) with
      | true =>
        go_wp2_with fail
        refine bodyPost_ret (v := .tuple #[.agg (aV 2 (s.extract i j) 0), j]) ?_ rfl ⟨⟨_, _, _, rfl, ?_, ?_⟩, ?_⟩
        ·exact lU
        ·exact ou _ _ _
        ·omega
        exact qO
      | false =>
        go_wp2_with fail
        refine (iH _ _).mono ?_
        rintro e w4 ⟨rfl, hb4⟩
        replace hw := hw.trans (hb4.mono hw.size)
        replace bx3 := bx3.later hb4
        clear cx fx lx
        obtain ⟨cx, lx, fx⟩ := bx3.all
        cases bJ (s.extract i j) with
        | true =>
          go_wp2_with fail
          refine bodyPost_ret (v := .tuple #[.agg (aV 1 (s.extract i j) 0), j]) ?_ rfl ⟨⟨_, _, _, rfl, ?_, ?_⟩, ?_⟩
          ·exact lU
          ·exact ou _ _ _
          ·omega
          exact qO
        | false =>
          exact pQ
 obtain rfl : j = s.size := by omega
 go_wp2_with fail
 refine (pI _ _).mono ?_
 rintro e w3 ⟨rfl, hb3⟩
 have hw : Below w.heap.size w w3 := ((bR w.heap.size w).alloc (nR _) _).trans (hb3.mono av)
 have bx3 := bx.below hb3 av
 clear cx fx bx
 obtain ⟨cx, lx, fx⟩ := bx3.all
 cases wY (s.extract i s.size) with
 | true =>
   go_wp2_with fail
   refine bodyPost_ret (v := .tuple #[.agg (aV 2 (s.extract i s.size) 0), s.size]) ?_ rfl ⟨⟨_, _, _, rfl, ?_, ?_⟩, ?_⟩
   ·exact lU
   ·exact ou _ _ _
   ·omega
   exact qO
 | false =>
   go_wp2_with fail
   refine (iH _ _).mono ?_
   rintro e w4 ⟨rfl, hb4⟩
   replace hw := hw.trans (hb4.mono hw.size)
   replace bx3 := bx3.later hb4
   clear cx fx lx
   obtain ⟨cx, lx, fx⟩ := bx3.all
   cases bJ (s.extract i s.size) with
   | true =>
     go_wp2_with fail
     refine bodyPost_ret (v := .tuple #[.agg (aV 1 (s.extract i s.size) 0), s.size]) ?_ rfl ⟨⟨_, _, _, rfl, ?_, ?_⟩, ?_⟩
     ·exact lU
     ·exact ou _ _ _
     ·omega
     exact qO
   | false =>
     exact pQ
theorem Qf (s : ByteArray) (i : Nat) (w : World) (hs : s.size ≤ 1048576) (hi : i < s.size) (hL : iB s[i].toNat = false) (hD : mh s[i].toNat = true) :
 Calls Tryz.prog 156 (lM s i) w (MV s i w) := by
 have q1 : (0 : Int) ≤ (i : Int) := ah
 have q2 : (i : Int) < (s.size : Int) := ah
 have HL := lH hL
 have HD := lH hD
 clear hL hD
 go_in
 go_wp2_with (first | (go_at_call 68; refine (iD _ _ (Nat.le_of_lt_succ (UInt8.toNat_lt _))).mono ?_; rw [HL.out]; rintro e w2 ⟨rfl, rfl⟩) | (go_at_call 70; refine (kH _ _ (Nat.le_of_lt_succ (UInt8.toNat_lt _))).mono ?_; rw [HD.out]; rintro e w2 ⟨rfl, rfl⟩) | fail)
 go_loop [7] (fun n => ∃ j : Nat, i < j ∧ j ≤ s.size ∧ n = .int i64 j) (fun n => s.size - (intOf n).toNat)
 case atStart => exact ⟨i + 1, ah, ah, by go_num⟩
 obtain ⟨j, hj, hj1, rfl⟩ := hrel
 have e0 : (0 : Int) ≤ (j : Int) := ah
 have bx := Blk.new w 171 (aV 0 aC 0)
 have cx := bx.cell
 have fx := bx.frozen
 by_cases hlt : j < s.size
 ·have e1 : (j : Int) < (s.size : Int) := by omega
  cases h1 : iB s[j].toNat with
  | true =>
    have H1 := lH h1
    clear h1
    exact Gh
  | false =>
    have H1 := lH h1
    clear h1
    cases h2 : mh s[j].toNat with
    | true =>
      exact JR
    | false =>
      have H2 := lH h2
      clear h2
      go_wp2_with (first | (go_at_call 68; refine (iD _ _ (Nat.le_of_lt_succ (UInt8.toNat_lt _))).mono ?_; rw [H1.out]; rintro e w2 ⟨rfl, rfl⟩) | (go_at_call 70; refine (kH _ _ (Nat.le_of_lt_succ (UInt8.toNat_lt _))).mono ?_; rw [H2.out]; rintro e w2 ⟨rfl, rfl⟩) | fail)
      refine (mH _ _ (by have := tL s i j; omega)).mono ?_
      rintro e w3 ⟨rfl, rfl⟩
      cases hv : eB (s.extract i j) with
      | none =>
        exact Kc
      | some v =>
        have hbd := kY hv
        simp only [iZ]
        go_wp2_with fail
        refine (uL v _ ah ah).mono ?_
        rintro e w3 ⟨rfl, hb3⟩
        have hw : Below w.heap.size w w3 := ((bR w.heap.size w).alloc (nR _) _).trans (hb3.mono av)
        have bx3 := bx.below hb3 av
        clear cx fx bx
        obtain ⟨cx, lx, fx⟩ := bx3.all
        have hsz := jY v ah ah
        go_wp2_with fail
        refine bodyPost_ret (v := .tuple #[.agg (aV 3 (dz v) 0), j]) ?_ rfl ⟨⟨_, _, _, rfl, ?_, ?_⟩, ko hw _ _ _⟩
        ·exact lU
        ·omega
        omega
 obtain rfl : j = s.size := by omega
 go_wp2_with fail
 refine (mH _ _ (by have := tL s i s.size; omega)).mono ?_
 rintro e w3 ⟨rfl, rfl⟩
 cases hv : eB (s.extract i s.size) with
 | none =>
   exact Kc
 | some v =>
   have hbd := kY hv
   simp only [iZ]
   go_wp2_with fail
   refine (uL v _ ah ah).mono ?_
   rintro e w3 ⟨rfl, hb3⟩
   have hw : Below w.heap.size w w3 := ((bR w.heap.size w).alloc (nR _) _).trans (hb3.mono av)
   have bx3 := bx.below hb3 av
   clear cx fx bx
   obtain ⟨cx, lx, fx⟩ := bx3.all
   have hsz := jY v ah ah
   go_wp2_with fail
   refine bodyPost_ret (v := .tuple #[.agg (aV 3 (dz v) 0), s.size]) ?_ rfl ⟨⟨_, _, _, rfl, ?_, ?_⟩, ko hw _ _ _⟩
   ·exact lU
   ·omega
   omega
theorem RG (s : ByteArray) (i : Nat) (w : World) (hs : s.size ≤ 1048576) (hi : i < s.size) (hq : s[i].toNat = 34) :
 Calls Tryz.prog 156 (lM s i) w (MV s i w) := by
 have q1 : (0 : Int) ≤ (i : Int) := ah
 have q2 : (i : Int) < (s.size : Int) := ah
 have HL : Hid (iB s[i].toNat = false) := lH vV
 have HD : Hid (mh s[i].toNat = false) := lH vV
 have c1 : ((s[i].toNat : Int) == 34) = true := by rw [hq]; decide
 clear hq
 go_in
 go_wp2_with (first | (go_at_call 68; refine (iD _ _ (Nat.le_of_lt_succ (UInt8.toNat_lt _))).mono ?_; rw [HL.out]; rintro e w2 ⟨rfl, rfl⟩) | (go_at_call 70; refine (kH _ _ (Nat.le_of_lt_succ (UInt8.toNat_lt _))).mono ?_; rw [HD.out]; rintro e w2 ⟨rfl, rfl⟩) | fail)
 refine (xK s i _ hi ah).mono ?_
 rintro e w3 ⟨⟨r, rfl, hr⟩, hS⟩
 have bx := Blk.new w 171 (aV 0 aC 0)
 have cx := bx.cell
 have fx := bx.frozen
 have hb3 := hS.below (w.alloc (.cells (aV 0 aC 0) 171)).heap.size
 have hw : Below w.heap.size w w3 := ((bR w.heap.size w).alloc (nR _) _).trans (hb3.mono av)
 have bx3 := bx.below hb3 av
 clear cx fx bx
 obtain ⟨cx, lx, fx⟩ := bx3.all
 rcases hr with rfl | ⟨hr1, hr2⟩
 ·exact pQ
 obtain ⟨j, rfl⟩ : ∃ j : Nat, r = j := ⟨r.toNat, ah⟩
 have hsz := tL s i j
 go_wp2_with fail
 refine (zT _ _ ah).mono ?_
 rintro e w4 ⟨⟨t, b, rfl, ht⟩, hb4⟩
 replace hw := hw.trans (hb4.mono hw.size)
 replace bx3 := bx3.later hb4
 clear cx fx lx
 obtain ⟨cx, lx, fx⟩ := bx3.all
 cases b with
 | false =>
   exact pQ
 | true =>
   by_cases afc : (120 : Int) < t.size
   ·exact pQ
   go_wp2_with fail
   refine bodyPost_ret (v := .tuple #[.agg (aV 4 t 0), .int i64 (j : Int)]) ?_ rfl ⟨⟨_, _, _, rfl, ?_, ?_⟩, ?_⟩
   ·exact lU
   ·omega
   ·omega
   exact qO
theorem one_set (s : ByteArray) (i : Nat) (w : World) (hs : s.size ≤ 1048576) (hi : i < s.size) (hq : s[i].toNat = 39) :
 Calls Tryz.prog 156 (lM s i) w (MV s i w) := by
 have q1 : (0 : Int) ≤ (i : Int) := ah
 have q2 : (i : Int) < (s.size : Int) := ah
 have HL : Hid (iB s[i].toNat = false) := lH vV
 have HD : Hid (mh s[i].toNat = false) := lH vV
 have c1 : ((s[i].toNat : Int) == 34) = false := by rw [hq]; decide
 have c2 : ((s[i].toNat : Int) == 39) = true := by rw [hq]; decide
 clear hq
 go_in
 go_wp2_with (first | (go_at_call 68; refine (iD _ _ (Nat.le_of_lt_succ (UInt8.toNat_lt _))).mono ?_; rw [HL.out]; rintro e w2 ⟨rfl, rfl⟩) | (go_at_call 70; refine (kH _ _ (Nat.le_of_lt_succ (UInt8.toNat_lt _))).mono ?_; rw [HD.out]; rintro e w2 ⟨rfl, rfl⟩) | fail)
 refine (xK s i _ hi ah).mono ?_
 rintro e w3 ⟨⟨r, rfl, hr⟩, hS⟩
 have bx := Blk.new w 171 (aV 0 aC 0)
 have cx := bx.cell
 have fx := bx.frozen
 have hb3 := hS.below (w.alloc (.cells (aV 0 aC 0) 171)).heap.size
 have hw : Below w.heap.size w w3 := ((bR w.heap.size w).alloc (nR _) _).trans (hb3.mono av)
 have bx3 := bx.below hb3 av
 clear cx fx bx
 obtain ⟨cx, lx, fx⟩ := bx3.all
 rcases hr with rfl | ⟨hr1, hr2⟩
 ·exact pQ
 obtain ⟨j, rfl⟩ : ∃ j : Nat, r = j := ⟨r.toNat, ah⟩
 have hsz := tL s i j
 go_wp2_with fail
 refine (zU _ _ ah).mono ?_
 rintro e w4 ⟨⟨c, b, rfl⟩, hb4⟩
 replace hw := hw.trans (hb4.mono hw.size)
 replace bx3 := bx3.later hb4
 clear cx fx lx
 obtain ⟨cx, lx, fx⟩ := bx3.all
 cases b with
 | false =>
   unfold cB.val
   have ha : Below w.heap.size w (w4.alloc (.cells (aL c.lo.toInt c.hi.toInt) 110)) := hw.alloc hw.size _
   go_wp2_with fail
   refine bodyPost_ret (v := .tuple #[.agg (aV 0 aC 0), .int i64 (-1)]) ?_ rfl ⟨⟨_, _, _, rfl, ?_, ?_⟩, ?_⟩
   ·simp [results, Tryz.results156, go_sem, cx, lx]
   ·exact zero_le s
   ·omega
   first | exact (ko hw _ _ _).alloc (nT hw.size kr) _ | exact ko ha _ _ _ | exact (bR w.heap.size w).alloc (nR _) _
 | true =>
   unfold cB.val
   have ha : Below w.heap.size w (w4.alloc (.cells (aL c.lo.toInt c.hi.toInt) 110)) := hw.alloc hw.size _
   replace bx3 := bx3.alloc (.cells (aL c.lo.toInt c.hi.toInt) 110)
   go_wp2_with fail
   refine (oU c _).mono ?_
   rintro e w5 ⟨rfl, hb5⟩
   have hcs := K7 c
   replace hw := ha.trans (hb5.mono ha.size)
   replace bx3 := bx3.later hb5
   clear cx fx lx
   have cx := bx3.cell
   have fx := bx3.frozen
   go_wp2_with fail
   refine bodyPost_ret (v := .tuple #[.agg (aV 5 (dN c) 0), .int i64 (j : Int)]) ?_ rfl ⟨⟨_, _, _, rfl, ?_, ?_⟩, ?_⟩
   ·exact lU
   ·omega
   ·omega
   exact qO
end
end Go.Proofs.YthbcamfejgghhaaGreatDoor
