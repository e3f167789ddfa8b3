/- FnFoldedOnce: row and card. For every input the law returns true and each argument reads as before. -/
import Derived.Test.YthbcamfejgghhaaGreatDoorQ43
import Derived.Test.YthbcamfejgghhaaGreatDoorQ45
import Derived.Test.YthbcamfejgghhaaGreatDoorQ46
import Derived.Test.YthbcamfejgghhaaGreatDoorQ49
import Derived.Test.YthbcamfejgghhaaGreatDoorCards
import Derived.Test.YthbcamfejgghhaaGreatDoorTie
import Derived.Deep.DeepHandedRow
import Derived.LaidMore
import Derived.Lay
set_option maxRecDepth 100000
set_option maxHeartbeats 64000000
set_option linter.unusedVariables false
set_option linter.unusedSimpArgs false
namespace Go.Proofs.YthbcamfejgghhaaGreatDoor
open Go.IntKind (i64)
section
open Go.RowKit
theorem sJ (c : bg) (x : Value) (w : World) (lo hi : Nat) (h : dZ w lo hi bg.aG x c) (hhi : hi ≤ w.heap.size) (hbk : c.bI ≤ 34359738368) (hst : bT w) (hpt : jw w) :
 Calls Tryz.prog 12 #[x] w (Sv c w) :=
 wS (fun W => bT W ∧ jw W) (fun W W' h hb => ⟨h.1.later hb, h.2.later hb⟩) (fun vc w lo hi c hc hhi ht hbk => wR c vc w lo hi hc hhi ht.1 hbk)
  (fun c A n w lo hi h hhi hc hbk ht => Fa c A n w lo hi h hhi hc hbk ht.1 ht.2) c x w lo hi h hhi hbk ⟨hst, hpt⟩
end
section
open Go Go.RowKit
theorem PI (A : Option Addr) (n k : Nat) (w : World) : Calls Tryz.prog 5 #[.slice A n k] w fun e w' => e = .returned (.bool (decide (1048576 < n))) ∧ w = w' := by
 go_in
 go_wp2_with fail
 go_ret
 exact ⟨bD (decide_eq_decide.2 ah), rfl⟩
theorem Ev (A : Option Addr) (n k hi : Nat) (bs : List Int) (w : World) (hr : Rds w 0 hi 1 (.slice A n k) n (bs.map (Value.int .u8))) (hhi : hi ≤ w.heap.size) (hst : bT w) (hpt : jw w) :
 Calls Tryz.prog 4 #[.slice A n k] w fun e w' => e = .returned (.bool true) ∧ Below w.heap.size w w' := by
 rcases dC (1048576 < n) with ⟨hn, hd⟩ | ⟨hn, hd⟩
 ·go_in
  go_wp2_with fail
  refine (PI A n k w).mono ?_
  rintro e w1 ⟨rfl, rfl⟩
  rw [hd]
  exact Ct
 have HDR := lH (vB A n k hi bs w hr hhi ah)
 go_in
 go_wp2_with fail
 refine (PI A n k w).mono ?_
 rintro e w0 ⟨rfl, rfl⟩
 rw [hd]
 clear hr hn hd
 go_wp2_with fail
 refine HDR.out.mono ?_
 rintro e w1 ⟨c, v, rfl, hs, hbk, hb1⟩
 have hbk2 : c.bI ≤ 34359738368 := ah
 obtain ⟨A1, m1, B1, n1, C1, k1, rfl, -⟩ := bg.form hs
 obtain ⟨pp, hpp⟩ : ∃ p, w1.heap.size = p := ⟨_, rfl⟩
 have bp := Blk.newAt w1 28 (aP A1 c.au.length m1 B1 c.records.length n1 C1 c.globals.length k1 c.main) pp hpp.symm
 have hbA : Below w1.heap.size w1 (w1.alloc (.cells (aP A1 c.au.length m1 B1 c.records.length n1 C1 c.globals.length k1 c.main) 28)) := bA _ _
 have HS := lH ((hs.wide (nZ _) (nR _)).below hbA (nR _))
 have HB := lH (hb1.trans (hbA.mono hb1.size))
 have hz1 : w1.heap.size ≤ (w1.alloc (.cells (aP A1 c.au.length m1 B1 c.records.length n1 C1 c.globals.length k1 c.main) 28)).heap.size := hbA.size
 clear hs hb1 hbA HDR
 go_upto_region 4 with fail
 rw [hpp] at HS hz1
 generalize w1.alloc (.cells (aP A1 c.au.length m1 B1 c.records.length n1 C1 c.globals.length k1 c.main) 28) = W1 at *
 have HST := lH (hst.below HB.out hst.2)
 have HPT := lH (hpt.below HB.out hpt.2)
 have HF := lH (sJ c _ W1 0 pp HS.out hz1 hbk2 HST.out HPT.out)
 have cp := bp.cell
 clear hst hpt hpp
 go_wp2_with fail
 refine HF.out.mono ?_
 rintro e w2 ⟨cs, rfl, hown, hb2⟩
 obtain ⟨vb, hvb⟩ : ∃ b, aS c = b := ⟨_, rfl⟩
 obtain ⟨d, hd⟩ : ∃ d, qF c = d := ⟨_, rfl⟩
 rw [hvb]
 rw [hd] at hown
 obtain ⟨FF, f1, -, f3⟩ := hown
 have hsd : dZ w2 0 w2.heap.size bg.aG (.agg cs.toArray) d := ⟨_, rfl, f1.rep fun g hg => ⟨nZ _, (f3 g hg).2⟩⟩
 obtain ⟨A2, m2, B2, n2, C2, k2, hx, -⟩ := bg.form hsd
 rw [hx]
 rw [hx] at hsd
 obtain ⟨pq, hpq⟩ : ∃ p, w2.heap.size = p := ⟨_, rfl⟩
 have bq := Blk.newAt w2 28 (aP A2 d.au.length m2 B2 d.records.length n2 C2 d.globals.length k2 d.main) pq hpq.symm
 have hbA : Below w2.heap.size w2 (w2.alloc (.cells (aP A2 d.au.length m2 B2 d.records.length n2 C2 d.globals.length k2 d.main) 28)) := bA _ _
 have hbB := hb2.trans (hbA.mono hb2.size)
 have HD := lH (hsd.below hbA (nR _))
 have HS2 := lH (HS.out.below hbB hz1)
 have HB2 := lH (HB.out.trans (hbB.mono HB.out.size))
 have UJ := lH (HST.out.later hbB)
 have UK := lH (HPT.out.later hbB)
 have bp2 := bp.later hbB
 have hz2 : w2.heap.size ≤ (w2.alloc (.cells (aP A2 d.au.length m2 B2 d.records.length n2 C2 d.globals.length k2 d.main) 28)).heap.size := hbA.size
 have afG := hbB.size
 have HVB := lH hvb
 have HDD := lH hd
 clear hb2 hbA hbB hsd hx f1 f3 HF HS HB HST HPT bp cp hvb hd
 go_upto_region 5 with fail
 rw [hpq] at HD hz2
 generalize w2.alloc (.cells (aP A2 d.au.length m2 B2 d.records.length n2 C2 d.globals.length k2 d.main) 28) = W2 at *
 have hv0 := pP c _ W2 0 pp HS2.out ah hbk2
 rw [HVB.out] at hv0
 have HV := lH hv0
 clear hv0
 have cp := bp2.cell
 cases vb with
 | false =>
   go_wp2_with fail
   refine HV.out.mono ?_
   rintro e w3 ⟨rfl, hb3⟩
   have hv1 := pP c _ w3 0 pp (HS2.out.below hb3 ah) (by have := hb3.size; omega) hbk2
   rw [HVB.out] at hv1
   have HV1 := lH hv1
   have bp3 := bp2.later hb3
   have HB3 := lH (HB2.out.trans (hb3.mono HB2.out.size))
   clear hv1 hb3 cp
   have cp := bp3.cell
   go_wp2_with fail
   refine HV1.out.mono ?_
   rintro e w4 ⟨rfl, hb4⟩
   have HB4 := HB3.out.trans (hb4.mono HB3.out.size)
   go_wp2_with fail
   go_ret
   exact ⟨rfl, HB4⟩
 | true =>
   go_wp2_with fail
   refine HV.out.mono ?_
   rintro e w3 ⟨rfl, hb3⟩
   have hdv : aS d = true := by rw [← HDD.out]; exact rz HVB.out
   have hdb : d.bI ≤ 34359738368 := by rw [← HDD.out]; exact Ny HVB.out hbk
   have bp3 := bp2.later hb3
   have bq3 := bq.later hb3
   have HB3 := lH (HB2.out.trans (hb3.mono HB2.out.size))
   have HS3 := lH (HS2.out.below hb3 ah)
   have HD3 := lH (HD.out.below hb3 hz2)
   have hz3 := hb3.size
   have WO := lH (UJ.out.later hb3)
   have WQ := lH (UK.out.later hb3)
   have HF2 := lH (sJ d _ w3 0 pq HD3.out ah hdb WO.out WQ.out)
   clear hb3 cp bp2 bq HV HS2 HD HB2 UJ UK
   have cp := bp3.cell
   have cq := bq3.cell
   go_wp2_with fail
   refine HF2.out.mono ?_
   rintro e w4 ⟨cs4, rfl, hown, hb4⟩
   rw [hdv]
   have hte : (qF d).au = d.au := by rw [← HDD.out]; exact Ls HVB.out
   obtain ⟨e4, he4⟩ : ∃ e4, qF d = e4 := ⟨_, rfl⟩
   rw [he4] at hown hte
   obtain ⟨FF, f1, -, f3⟩ := hown
   have hse : dZ w4 0 w4.heap.size bg.aG (.agg cs4.toArray) e4 := ⟨_, rfl, f1.rep fun g hg => ⟨nZ _, (f3 g hg).2⟩⟩
   obtain ⟨A3, m3, B3, n3, C3, k3, hx, hre, -⟩ := bg.form hse
   rw [hx, hte]
   rw [hte] at hre
   obtain ⟨pr, hpr⟩ : ∃ p, w4.heap.size = p := ⟨_, rfl⟩
   have hbA : Below w4.heap.size w4 (w4.alloc (.cells (aP A3 d.au.length m3 B3 e4.records.length n3 C3 e4.globals.length k3 e4.main) 28)) := bA _ _
   have br5 := Blk.newAt w4 28 (aP A3 d.au.length m3 B3 e4.records.length n3 C3 e4.globals.length k3 e4.main) pr hpr.symm
   have hbB := hb4.trans (hbA.mono hb4.size)
   have bp5 := bp3.later hbB
   have bq5 := bq3.later hbB
   have HB5 := lH (HB3.out.trans (hbB.mono HB3.out.size))
   have HDL : Hid (d.au.length = c.au.length) := lH (by rw [← HDD.out, qg HVB.out]; exact List.length_map ..)
   have HRP := lH ((bg.rows HS3.out).1.below hbB ah)
   have HRQ := lH ((bg.rows HD3.out).1.below hbB ah)
   have HRR := lH (hre.below hbA (nR _))
   have hz4 := hb4.size
   have hz5 : w4.heap.size ≤ (w4.alloc (.cells (aP A3 d.au.length m3 B3 e4.records.length n3 C3 e4.globals.length k3 e4.main) 28)).heap.size := hbA.size
   have YJ := lH (WO.out.later hbB)
   have YK := lH (WQ.out.later hbB)
   have hcl := (oG HVB.out).2.2
   clear hb4 hbA hbB hse hx f1 f3 hre cp cq bp3 bq3 HF2 HB3 HS3 HD3 WO WQ hte he4
   go_upto_region 8 with fail
   rw [hpr] at HRR hz4 hz5
   generalize w4.alloc (.cells (aP A3 d.au.length m3 B3 e4.records.length n3 C3 e4.globals.length k3 e4.main) 28) = W5 at *
   have cp := bp5.cell
   have cq := bq5.cell
   have cr := br5.cell
   have hd1 : ((d.au.length : Int) != (c.au.length : Int)) = false := by simp [HDL.out]
   go_wp2_with fail
   go_loopw [8] (fun iv wx => ∃ j : Nat, j ≤ c.au.length ∧ iv = .int i64 j ∧ Hid (Below W5.heap.size W5 wx)) (fun iv _ => c.au.length - (intOf iv).toNat)
   case atStart => exact ⟨0, nZ _, rfl, lH (bR _ _)⟩
   obtain ⟨j, hj, rfl, HBX⟩ := hrel
   have bp6 := bp5.below HBX.out bp5.lt
   have bq6 := bq5.below HBX.out bq5.lt
   have br6 := br5.below HBX.out br5.lt
   have hzX := HBX.out.size
   have HB6 := lH (HB5.out.trans (HBX.out.mono HB5.out.size))
   clear cp cq cr
   have cp := bp6.cell
   by_cases hlt : j < c.au.length
   ·obtain ⟨x, hx⟩ : ∃ x, c.au[j]? = some x := ⟨_, gE hlt⟩
    obtain ⟨y, hy⟩ : ∃ y, d.au[j]? = some y := ⟨_, gE (by have := HDL.out; omega)⟩
    have hxy : y = jC x := by
     rw [← HDD.out, qg HVB.out] at hy
     have hy : (c.au.map jC)[j]? = some y := hy
     rw [List.getElem?_map, hx] at hy
     injection hy with hy
     exact hy.symm
    obtain ⟨g1, o1, S1, q1, K1, l1, hA1, -, hg1, hm1, hs1, -, -, -, t3, t4, t5, t6, t7, t8⟩ := bO.at_ (HRP.out.below HBX.out ah) hx
    obtain ⟨g2, o2, S2, q2, K2, l2, hA2, -, hg2, hm2, hs2, -, -, -, u3, u4, u5, u6, u7, u8⟩ := bO.at_ (HRQ.out.below HBX.out ah) hy
    obtain ⟨g3, o3, S3, q3, K3, l3, hA3, -, hg3, hm3, hs3, -, -, -, v3, v4, v5, v6, v7, v8⟩ := bO.at_ (HRR.out.below HBX.out hz5) hy
    have hvy := (oG (by rw [← HDD.out]; exact rz HVB.out : aS d = true)).1 y hm2
    have hny : y.body.nodes ≤ 40000 := nT (L5 hm2) (oG (by rw [← HDD.out]; exact rz HVB.out : aS d = true)).2.1
    have hvx := (oG HVB.out).1 x hm1
    have hnx : x.body.nodes ≤ 40000 := nT (L5 hm1) (oG HVB.out).2.1
    have hnn : y.body.nodes ≤ x.body.nodes := by rw [hxy]; exact xQ x.body
    have hbx := yg hvx.2 _ _ _ hvx.1
    have hby := yg hvy.2 _ _ _ hvy.1
    have HFY := lH (BD hvy.2 y.body false false hvy.1 hny)
    have HKX := lH (bO.rows hs1).2
    have HKY := lH (bO.rows hs2).2
    have HKZ := lH (bO.rows hs3).2
    subst hA1 hA2 hA3
    have hj0 : (j : Int) < (c.au.length : Int) := ah
    have hj1 : (j : Int) < (d.au.length : Int) := by have := HDL.out; omega
    have HKA : Hid (∀ W, Below wr.heap.size wr W → (∀ i, W.cell? (aj pr i) = (aP (some (aj g3 o3)) d.au.length m3 B3 e4.records.length n3 C3 e4.globals.length k3 e4.main : Array Value)[i]?) ∧ (∀ i, W.cell? (aj pq i) = (aP (some (aj g2 o2)) d.au.length m2 B2 d.records.length n2 C2 d.globals.length k2 d.main : Array Value)[i]?) ∧ (∀ i, W.cell? (aj pp i) = (aP (some (aj g1 o1)) c.au.length m1 B1 c.records.length n1 C1 c.globals.length k1 c.main : Array Value)[i]?) ∧ W.cell? (aj g3 (o3 + j * 9 + 3)) = some (.int i64 y.body.kind) ∧ W.cell? (aj g3 (o3 + j * 9 + 4)) = some (.int i64 y.body.op) ∧ W.cell? (aj g3 (o3 + j * 9 + 5)) = some (.int i64 y.body.number) ∧ W.cell? (aj g3 (o3 + j * 9 + 6)) = some (.int i64 y.body.line) ∧ W.cell? (aj g3 (o3 + j * 9 + 7)) = some (.string y.body.text) ∧ W.cell? (aj g3 (o3 + j * 9 + 8)) = some (.slice K3 y.body.kids.length l3) ∧ W.cell? (aj g2 (o2 + j * 9 + 3)) = some (.int i64 y.body.kind) ∧ W.cell? (aj g2 (o2 + j * 9 + 4)) = some (.int i64 y.body.op) ∧ W.cell? (aj g2 (o2 + j * 9 + 5)) = some (.int i64 y.body.number) ∧ W.cell? (aj g2 (o2 + j * 9 + 6)) = some (.int i64 y.body.line) ∧ W.cell? (aj g2 (o2 + j * 9 + 7)) = some (.string y.body.text) ∧ W.cell? (aj g2 (o2 + j * 9 + 8)) = some (.slice K2 y.body.kids.length l2) ∧ W.cell? (aj g1 (o1 + j * 9 + 3)) = some (.int i64 x.body.kind) ∧ W.cell? (aj g1 (o1 + j * 9 + 4)) = some (.int i64 x.body.op) ∧ W.cell? (aj g1 (o1 + j * 9 + 5)) = some (.int i64 x.body.number) ∧ W.cell? (aj g1 (o1 + j * 9 + 6)) = some (.int i64 x.body.line) ∧ W.cell? (aj g1 (o1 + j * 9 + 7)) = some (.string x.body.text) ∧ W.cell? (aj g1 (o1 + j * 9 + 8)) = some (.slice K1 x.body.kids.length l1)) := fun W hW => ⟨(br6.later hW).cell, (bq6.later hW).cell, (bp6.later hW).cell, (hW.cell (p := ⟨g3, _, none⟩) vX).trans v3, (hW.cell (p := ⟨g3, _, none⟩) vX).trans v4, (hW.cell (p := ⟨g3, _, none⟩) vX).trans v5, (hW.cell (p := ⟨g3, _, none⟩) vX).trans v6, (hW.cell (p := ⟨g3, _, none⟩) vX).trans v7, (hW.cell (p := ⟨g3, _, none⟩) vX).trans v8, (hW.cell (p := ⟨g2, _, none⟩) vY).trans u3, (hW.cell (p := ⟨g2, _, none⟩) vY).trans u4, (hW.cell (p := ⟨g2, _, none⟩) vY).trans u5, (hW.cell (p := ⟨g2, _, none⟩) vY).trans u6, (hW.cell (p := ⟨g2, _, none⟩) vY).trans u7, (hW.cell (p := ⟨g2, _, none⟩) vY).trans u8, (hW.cell (p := ⟨g1, _, none⟩) vZ).trans t3, (hW.cell (p := ⟨g1, _, none⟩) vZ).trans t4, (hW.cell (p := ⟨g1, _, none⟩) vZ).trans t5, (hW.cell (p := ⟨g1, _, none⟩) vZ).trans t6, (hW.cell (p := ⟨g1, _, none⟩) vZ).trans t7, (hW.cell (p := ⟨g1, _, none⟩) vZ).trans t8⟩
    have HCX := lH (qz x.body)
    have HCY := lH (qz y.body)
    have hxl : x.body.nodes ≤ 9223372036854775807 := ah
    have hnl : ¬ (x.body.nodes : Int) < (y.body.nodes : Int) := ah
    clear hx hy hxy hs1 hs2 hs3 hm1 hm2 hm3 hvy hvx t3 t4 t5 t6 t7 t8 u3 u4 u5 u6 u7 u8 v3 v4 v5 v6 v7 v8
    go_upto_region 13 with fail
    refine jm 32 (fun w' => (∀ i, w'.cell? (aj pr i) = (aP (some (aj g3 o3)) d.au.length m3 B3 e4.records.length n3 C3 e4.globals.length k3 e4.main : Array Value)[i]?) ∧ (∀ i, w'.cell? (aj pq i) = (aP (some (aj g2 o2)) d.au.length m2 B2 d.records.length n2 C2 d.globals.length k2 d.main : Array Value)[i]?) ∧ (∀ i, w'.cell? (aj pp i) = (aP (some (aj g1 o1)) c.au.length m1 B1 c.records.length n1 C1 c.globals.length k1 c.main : Array Value)[i]?) ∧ w'.cell? (aj g3 (o3 + j * 9 + 3)) = some (.int i64 y.body.kind) ∧ w'.cell? (aj g3 (o3 + j * 9 + 4)) = some (.int i64 y.body.op) ∧ w'.cell? (aj g3 (o3 + j * 9 + 5)) = some (.int i64 y.body.number) ∧ w'.cell? (aj g3 (o3 + j * 9 + 6)) = some (.int i64 y.body.line) ∧ w'.cell? (aj g3 (o3 + j * 9 + 7)) = some (.string y.body.text) ∧ w'.cell? (aj g3 (o3 + j * 9 + 8)) = some (.slice K3 y.body.kids.length l3) ∧ w'.cell? (aj g2 (o2 + j * 9 + 3)) = some (.int i64 y.body.kind) ∧ w'.cell? (aj g2 (o2 + j * 9 + 4)) = some (.int i64 y.body.op) ∧ w'.cell? (aj g2 (o2 + j * 9 + 5)) = some (.int i64 y.body.number) ∧ w'.cell? (aj g2 (o2 + j * 9 + 6)) = some (.int i64 y.body.line) ∧ w'.cell? (aj g2 (o2 + j * 9 + 7)) = some (.string y.body.text) ∧ w'.cell? (aj g2 (o2 + j * 9 + 8)) = some (.slice K2 y.body.kids.length l2) ∧ w'.cell? (aj g1 (o1 + j * 9 + 3)) = some (.int i64 x.body.kind) ∧ w'.cell? (aj g1 (o1 + j * 9 + 4)) = some (.int i64 x.body.op) ∧ w'.cell? (aj g1 (o1 + j * 9 + 5)) = some (.int i64 x.body.number) ∧ w'.cell? (aj g1 (o1 + j * 9 + 6)) = some (.int i64 x.body.line) ∧ w'.cell? (aj g1 (o1 + j * 9 + 7)) = some (.string x.body.text) ∧ w'.cell? (aj g1 (o1 + j * 9 + 8)) = some (.slice K1 x.body.kids.length l1)) 32 ?_
    have HW : Hid (Below wr.heap.size wr wr.drew) := (Same.refl wr).drew.below _
    clear cp
    generalize wr.drew = Wd at *
    have SP := HKA.out _ HW.out
    refine tkA 0 SP ?_
    refine tkA 1 SP ?_
    refine tkA 2 SP ?_
    refine tkA 3 SP ?_
    refine tkA 4 SP ?_
    refine tkA 5 SP ?_
    refine tkA 7 SP ?_
    refine tkA 8 SP ?_
    refine tkA 9 SP ?_
    refine tkA 10 SP ?_
    refine tkA 11 SP ?_
    refine tkA 12 SP ?_
    refine rdA 6 (fun K hK => ?_)
    go_simp
    have HE := lH (HFY.out K3 l3 Wd 0 pr (HKZ.out.below HW.out ah) Cm (YJ.out.later (HBX.out.trans (HW.out.mono hzX))) (YK.out.later (HBX.out.trans (HW.out.mono hzX))))
    go_at_call 14
    refine HE.out.mono ?_
    rintro e Wa ⟨rfl, hb⟩
    replace HW := lH (HW.out.trans (hb.mono HW.out.size))
    clear SP HE hb
    have SP := HKA.out _ HW.out
    refine fM hK SP ?_
    clear hK K
    refine rdA 13 (fun K hK => ?_)
    go_simp
    have HE := lH (HFY.out K2 l2 Wa 0 pq (HKY.out.below HW.out ah) Cm (YJ.out.later (HBX.out.trans (HW.out.mono hzX))) (YK.out.later (HBX.out.trans (HW.out.mono hzX))))
    go_at_call 14
    refine HE.out.mono ?_
    rintro e Wb ⟨rfl, hb⟩
    replace HW := lH (HW.out.trans (hb.mono HW.out.size))
    clear SP HE hb
    have SP := HKA.out _ HW.out
    refine fM hK SP ?_
    clear hK K
    refine tkA 14 SP ?_
    refine tkA 15 SP ?_
    refine tkA 16 SP ?_
    refine tkA 17 SP ?_
    refine tkA 18 SP ?_
    refine tkA 19 SP ?_
    refine tkA 20 SP ?_
    refine tkA 21 SP ?_
    refine tkA 23 SP ?_
    refine tkA 24 SP ?_
    refine tkA 25 SP ?_
    refine tkA 26 SP ?_
    refine tkA 27 SP ?_
    refine tkA 28 SP ?_
    refine rdA 22 (fun K hK => ?_)
    go_simp
    have HE := lH (HCY.out _ Wb 0 pq (ak.mk_ (HKY.out.below HW.out ah)) Cm ah)
    go_at_call 15
    refine HE.out.mono ?_
    rintro e Wc ⟨rfl, hb⟩
    replace HW := lH (HW.out.trans (hb.mono HW.out.size))
    clear SP HE hb
    have SP := HKA.out _ HW.out
    refine fM hK SP ?_
    clear hK K
    refine rdA 29 (fun K hK => ?_)
    go_simp
    have HE := lH (HCX.out _ Wc 0 pp (ak.mk_ (HKX.out.below HW.out ah)) Cm ah)
    go_at_call 15
    refine HE.out.mono ?_
    rintro e We ⟨rfl, hb⟩
    replace HW := lH (HW.out.trans (hb.mono HW.out.size))
    clear SP HE hb
    have SP := HKA.out _ HW.out
    refine fM hK SP ?_
    clear hK K
    refine tkA 30 SP ?_
    refine tkA 31 SP ?_
    refine bY aI ?_ _
    have HZ := lH (HBX.out.trans (HW.out.mono hzX))
    clear SP HW
    go_wp2_with fail
    go_roundw
    case rel => exact ⟨j + 1, ah, by go_num, HZ⟩
    simp [intOf]; omega
   have hje : ¬ (j : Int) < (c.au.length : Int) := ah
   clear hlt
   go_wp2_with fail
   go_ret
   exact ⟨rfl, HB6.out⟩
end
section
open Go.ChangeShapes Go.WideShapes Go.ChangeAt Go.RowKit
open Go.ChangeMaps (open_string)
theorem vH : laidOutB Tryz.prog = true := by kernel_rfl
theorem uw (H : Type) (enc : TypeId × Value → H) (W : World) (base : Nat) (args : Array Value) (ds gs : List (DataW H)) (before : List MemPlace)
 (hval0 : ∀ (j : Nat) t v, Tryz.f4.params[j]? = some t → args[j]? = some v → Value.okWide Tryz.prog W .any base t v)
 (hW : DataW.Whole enc Tryz.prog Tryz.f4.params.toList Rows.fnFoldedOnceSpec.vars false W args.toList ds gs before) (hL : laidMetH Tryz.prog Rows.fnFoldedOnceRow.laid W) (hSh : W.ShapedOpen Tryz.prog) :
 Calls Tryz.prog 4 args W fun e W' => ∃ v, e = .returned v ∧ Rows.fnFoldedOnceSpec.post enc Tryz.prog Tryz.f4 false true false false W args v W' := by
 have hval := hval0
 have hW' := hW
 obtain ⟨p, q, hA0, hV, rfl, hfz, hnd⟩ := hW
 have hA : DataW.TrodAll enc Tryz.prog W 0 (fun _ => true) true Tryz.f4.params.toList args.toList ds p := hA0
 rw [Tryz.params4] at hA hval
 obtain ⟨v0, vs0, d0, ds0, p0, q0, hargs, rfl, rfl, h0, r0⟩ := trodAll_cons hA
 obtain ⟨rfl, rfl, rfl⟩ := trodAll_nil r0
 obtain rfl : args = #[v0] := by cases args; simp_all
 obtain ⟨rfl, rfl⟩ := trodVars_none hV
 have lt0 : ∀ x ∈ p0, x.block < W.heap.size := by obtain ⟨m, hm⟩ := h0; exact DataW.trod_lt m _ _ _ hm
 obtain ⟨A0, n0, k0, rfl⟩ := okWide_slice Tryz.underlying22 (hval 0 22 v0 rfl rfl)
 have hh0 := h0
 obtain ⟨fu0, aeN⟩ := hh0
 obtain ⟨_, _, _, bs0, e0, w0⟩ := Nl aeN
 injection e0 with e1 e2 e3
 subst e1 e2 e3
 clear hA0 hval0
 refine (Ev A0 n0 k0 W.heap.size bs0 W w0 (nR _) (Mc (laid := Rows.fnFoldedOnceRow.laid) (by kernel_rfl) (by rw [MakeChecks.laidMetH_plain _ _ _ (by kernel_rfl)] at hL; exact hL)) (QI (laid := Rows.fnFoldedOnceRow.laid) (by kernel_rfl) (by rw [MakeChecks.laidMetH_plain _ _ _ (by kernel_rfl)] at hL; exact hL))).mono fun e W' ⟨he, bel⟩ => ?_
 subst he
 exact ⟨_, rfl, _, _, _, [], _, [], hW', trodAll_mk1 (shut_bool Tryz.underlying4 _), (trodAll_cons_mk (Below.trod vH (by kernel_rfl) (of_decide_eq_true (by kernel_rfl)) h0 bel lt0) trodAll_mk0), rfl, bel.frame _, fun h => by cases h⟩
theorem vI (os : Os) {H : Type} (enc : TypeId × Value → H) : ∃ (w : World) (tape : Tape) (i : Input), w.os = os ∧ (w.forCall tape i).Shaped Tryz.checked.prog ∧ i.vars = [] ∧ Input.okWide Tryz.checked.prog (w.forCall tape i) .any w.heap.size 4 i ∧
 (OpenSpec.ofChange Rows.fnFoldedOnceSpec).preRow enc Tryz.checked.prog Tryz.f4 Rows.fnFoldedOnceRow.domain false Rows.fnFoldedOnceRow.laid (w.forCall tape i).memory i.args ∧ ({ modest := false } : Assume).holds Tryz.checked.prog (lone (Frame.enter Tryz.checked.prog 4 i.args .normal) [] (w.forCall tape i)) := by
 have hok : Input.okWideB Tryz.checked.prog ((World.laidAll Tryz.prog os Rows.fnFoldedOnceRow.laid).forCall (fun _ _ => 0) ⟨#[], #[.slice none 0 0], []⟩) 4 ⟨#[], #[.slice none 0 0], []⟩ = true := by kernel_rfl
 have hx : ∃ d places, DataW.whole enc Tryz.prog ((World.laidAll Tryz.prog os Rows.fnFoldedOnceRow.laid).forCall (fun _ _ => 0) ⟨#[], #[.slice none 0 0], []⟩).memory Tryz.f4.params.toList Rows.fnFoldedOnceSpec.vars false #[.slice none 0 0].toList 8 = some (d, [], places) := by
  have h : (DataW.whole enc Tryz.prog ((World.laidAll Tryz.prog os Rows.fnFoldedOnceRow.laid).forCall (fun _ _ => 0) ⟨#[], #[.slice none 0 0], []⟩).memory Tryz.f4.params.toList Rows.fnFoldedOnceSpec.vars false #[.slice none 0 0].toList 8).map (fun x => x.2.1) = some [] := by kernel_rfl
  revert h
  generalize DataW.whole enc Tryz.prog ((World.laidAll Tryz.prog os Rows.fnFoldedOnceRow.laid).forCall (fun _ _ => 0) ⟨#[], #[.slice none 0 0], []⟩).memory Tryz.f4.params.toList Rows.fnFoldedOnceSpec.vars false #[.slice none 0 0].toList 8 = y
  intro h
  match y, h with
  | some (d, g, p), h => exact ⟨d, p, by injection h with h; rw [show g = [] from h]⟩
 obtain ⟨d, places, hx⟩ := hx
 refine ⟨World.laidAll Tryz.prog os Rows.fnFoldedOnceRow.laid, fun _ _ => 0, ⟨#[], #[.slice none 0 0], []⟩, World.laidAll_os _ _ _, World.shaped_of_ZipB (by kernel_rfl) (by kernel_rfl), (Input.okWide_of_okWideB (base := 0) hok).1, (Input.okWide_of_okWideB hok).2,
  OpenSpec.preRow_of_cond 8 hx (by kernel_rfl) (fun k hk => by cases hk) (by kernel_rfl) (laidMet_laidAll _ (by kernel_rfl) (by kernel_rfl)), ?_⟩
 simp only [Assume.holds]
 exact ⟨by simp, by simp, fun _ => Modest.zero, by simp, by simp⟩
theorem wV (os : Os) (started : os.Started) (H : Type) (enc : TypeId × Value → H) (F : Stop.Interp) :
 ReturnsInHanded {} Tryz.checked os 4 .any ((OpenSpec.ofChange Rows.fnFoldedOnceSpec).preRow enc Tryz.prog Tryz.f4 Rows.fnFoldedOnceRow.domain false Rows.fnFoldedOnceRow.laid) (((OpenSpec.ofChange Rows.fnFoldedOnceSpec).at F).post enc Tryz.prog Tryz.f4 false true false false) := by
 refine returnsInHanded_of_row (C := Tryz.checked) (s := OpenSpec.ofChange Rows.fnFoldedOnceSpec) GI started (by kernel_rfl) Tryz.func4 (vI os enc) ?_
 intro W base args ds gs before hval hW _ _ _ hL hSh _
 exact uw H enc W base args ds gs before hval hW hL hSh
theorem zK : Rows.FnFoldedOnceSaid :=
 OpenClaim.holds_of_cond 4 Tryz.f4 rfl rfl rfl rfl rfl rfl rfl ⟨rfl, rfl, rfl, rfl, rfl⟩ rfl rfl rfl rfl rfl (by kernel_rfl) Tryz.func4 (by kernel_rfl)
  (of_decide_eq_true (by kernel_rfl)) (by unfold Func.isWrapper; first | (rw [if_pos (by decide +kernel)]; kernel_rfl) | (rw [if_neg (by decide +kernel)]; exact ⟨rfl, rfl⟩))
  (fun os started H enc _ F => by rw [OpenClaim.pre_eq_preRow]; exact wV os started H enc F)
theorem yu (f : FuncId) (fn : Func) (hf : Tryz.pinned.checked.prog.funcNamed "loop.example/g03106/laws.FnFoldedOnce" = some f) (hfn : Tryz.pinned.checked.prog.funcs[f]? = some fn) :
 false = Tryz.pinned.checked.prog.looks [] ∧ ∀ (j : Nat) t, fn.params[j]? = some t → Tryz.pinned.checked.prog.wantsStandIn t = false := by
 obtain rfl : f = 4 := Option.some.inj ((show Tryz.prog.funcNamed "loop.example/g03106/laws.FnFoldedOnce" = some 4 by kernel_rfl).symm.trans hf) |>.symm
 obtain rfl : fn = Tryz.f4 := (Option.some.inj (Tryz.func4.symm.trans hfn)).symm
 refine ⟨by kernel_rfl, fun j t ht => ?_⟩
 rw [Tryz.params4] at ht
 have hm : t ∈ [22] := by simpa using Array.mem_of_getElem? ht
 have hall : ([22].all fun u => !Tryz.prog.wantsStandIn u) = true := by kernel_rfl
 exact (show Tryz.prog.wantsStandIn t = false by simpa using List.all_eq_true.1 hall t hm)
theorem fnFoldedOnce_card : Rows.FnFoldedOnceCardSaid :=
 Claim7.holds_tied_plain_at .later [] _ _ _ _ zK (fun _ h => by cases h) (by kernel_rfl) (fun _ h => by cases h) fnFoldedOnce_row_tie rfl ⟨rfl, rfl⟩ (by kernel_rfl) rfl yu (by kernel_rfl)
#print axioms fnFoldedOnce_card
end
end Go.Proofs.YthbcamfejgghhaaGreatDoor
