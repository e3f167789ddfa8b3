/- WX proofs that many texts use. -/
import Derived.WalkKit
import Derived.ProofKit
import Derived.OpenShut
import Derived.ShutString
import Derived.ChangeSame
import Derived.Laws.BitsLemmas
import Derived.Deep.RegionHeld3
import Derived.StillTailTactics
import Derived.Lib.LaidTab
import Derived.Deep.DeepCutAuto
import Derived.Deep.LoopGhost
import Derived.Deep.CutBlock
import Derived.Lib.ItoaNum
import Derived.Lib.ItoaMem
import Derived.Lib.ItoaLen
import Derived.BigQuiet
import Derived.Deep.QuietTactic
import Derived.Shelf.Bits.Mul64
import Derived.Lib.Join
import Derived.BigRegion
import Derived.IntWalk
import Derived.LaidSub
import Derived.ChangeSlices
import Derived.Lib.SmallJoins
import Derived.Carry
set_option maxRecDepth 100000
set_option maxHeartbeats 8000000
set_option linter.unusedVariables false
set_option linter.unusedSimpArgs false
namespace Go.Proofs.YthbcamfejgghhaaGreatDoor
open Go.IntKind (i64)
theorem QZ {P : Prop} (h : P := by
 have has : a < s.size := ah
 have hby := jh s a has
 by_cases h43 : (s[a].toNat : Int) = 43
 ·have hB : cZ s a = 43 := by omega
  clear hby
  have HI := lH (show eB s = je s z (a + 1) false from by rw [Cq HA.out HZ.out, if_pos ⟨h1, hB⟩])
  exact IE
 by_cases h45 : (s[a].toNat : Int) = 45
 ·have hB : cZ s a = 45 := by omega
  have hC : ¬ cZ s a = 43 := ah
  clear hby
  have HI := lH (show eB s = je s z (a + 1) true from by rw [Cq HA.out HZ.out, if_neg (fun h => hC h.2), if_pos ⟨h1, hB⟩])
  exact IE
 have aeZ : ((s[a].toNat : Int) == 43) = false := bF h43
 have ae0 : ((s[a].toNat : Int) == 45) = false := bF h45
 have hB : ¬ cZ s a = 45 := ah
 have hC : ¬ cZ s a = 43 := ah
 clear hby
 have HI := lH (show eB s = je s z (a) false from by rw [Cq HA.out HZ.out, if_neg (fun h => hC h.2), if_neg (fun h => hB h.2)])
 clear HA HZ
 by_cases hr : z < (a) + 1
 ·exact IG
 by_cases hr2 : (a) + 12 < z
 ·exact II
 go_wp2_with fail
 go_loop [4, 7] (fun i n => ∃ (k : Nat) (acc : Int), (a) ≤ k ∧ k ≤ z ∧ i = .int i64 k ∧ n = .int i64 acc ∧ 0 ≤ acc ∧ acc < 10 ^ (k - (a)) ∧ Hid (iW s (z - (a)) (a) 0 = iW s (z - k) k acc)) (fun i _ => z - (intOf i).toNat)
 case atStart => exact ⟨a, 0, nR _, ah, by go_num, rfl, ah, av, rfl⟩
 obtain ⟨k, acc, hbk, hkz, rfl, rfl, WY, WZ, hd⟩ := hrel
 have hp := Q0 (k - (a)) ah
 by_cases hlt : k < z
 ·have hks : k < s.size := by omega
  have hby := jh s k hks
  have hp1 := xw (k - (a))
  rw [show k - (a) + 1 = k + 1 - (a) by omega] at hp1
  generalize hP : (10 : Int) ^ (k - (a)) = P at *
  exact IJ
 exact IK) : P := h
theorem Mr {P : Prop} (h : P := by
 obtain ⟨ba, bb, br, B0⟩ := kN w 141 (aD ka na 0 sa la ha) 141 (aD kb nb 0 sb lb hb) 141 (aD 0 0 0 ⟨#[]⟩ 0 0)
 go_in
 go_wp2_with fail
 refine (Ha.out _ B0).mono ?_; rintro e w1 ⟨rfl, hb⟩
 replace hb := gW B0 ba bb br hb
 clear ba bb br
 obtain ⟨B1, ba, cba, lba, fba, bb, cbb, lbb, fbb, br, cbr, lbr, fbr⟩ := hb
 go_wp2_with fail
 refine (Hb.out _ B1).mono ?_; rintro e w2 ⟨rfl, hb⟩
 replace hb := gW B1 ba bb br hb
 try clear cba lba fba cbb lbb fbb cbr lbr fbr
 clear ba bb br
 obtain ⟨B2, ba, cba, lba, fba, bb, cbb, lbb, fbb, br, cbr, lbr, fbr⟩ := hb
 go_wp2_with fail
 exact IL) : P := h
theorem Q5 {P : Prop} (h : P := by
 refine (Hb.out _ (B1.alloc mU _)).mono ?_; rintro e w2 ⟨rfl, hb⟩
 have B2 : Below w.heap.size w w2 := (B1.alloc mU _).trans (hb.mono mU)
 try clear cba lba fba
 try clear cbb lbb fbb
 try clear cbr lbr fbr
 replace ba := ((ba.alloc _)).later hb
 replace bb := ((bb.alloc _)).later hb
 replace br := ((br.alloc _)).later hb
 replace bx := bx.later hb
 clear hb
 obtain ⟨cbx, lbx, fbx⟩ := bx.all
 obtain ⟨cba, lba, fba⟩ := ba.all
 obtain ⟨cbb, lbb, fbb⟩ := bb.all
 obtain ⟨cbr, lbr, fbr⟩ := br.all
 go_wp2_with fail
 have hF := (((((((br.aF 0 (.int i64 0)).aF 1 (.int i64 (0))).aF 2 (.int i64 0)).aF 3 (.string aC)).aF 4 (.int i64 0)).aF 5 (.int i64 0)).alloc (.cells (aL 0 0) 110))
 have cF := hF.cell
 exact yw) : P := h
theorem Q6 {P : Prop} (h : P := by
 have HXB : eF We (w.heap.size + 1) g r.body.aG (r.body.cells Ak nk) := ⟨Kr, HKR.out.1.kept fun q hq => KP.out.keep ⟨by have := (HKR.out.2 q hq).2.1; omega, by have := (HKR.out.2 q hq).2.2; omega⟩, fun q hq => ⟨by have := (HKR.out.2 q hq).2.1; omega, (HKR.out.2 q hq).1⟩⟩
 have XP : eF We (w.heap.size + 1) g (ak.aG (ak.mk pk 0 0 0 aC ks)) (ak.cells (ak.mk pk 0 0 0 aC ks) (some (aj q10 0)) 1) := eF.node (l := ks) X10 pk 0 0 0 ⟨#[]⟩
 have X15 : eF (We.alloc (.cells (fZ r.body.kind r.body.op r.body.number r.body.line r.body.text Ak r.body.kids.length nk pk 0 0 0 aC (some (aj q10 0)) ks.length 1) 43)) (w.heap.size + 1) g [.row 6 2 (flat ak.aG [r.body, (ak.mk pk 0 0 0 aC ks)])] [.slice (some (aj We.heap.size 0)) 2 2] := eF.lit (e := 43) (eF.cons HXB (eF.one XP)) rfl aA ah ah
 refine rdA 15 (fun K hK => ?_)
 rw [if_pos aM]
 refine rP rfl rfl ?_
 replace KP := lH (KP.out.trans (CR.alloc cb We (.cells (fZ r.body.kind r.body.op r.body.number r.body.line r.body.text Ak r.body.kids.length nk pk 0 0 0 aC (some (aj q10 0)) ks.length 1) 43)))
 replace hz := KP.out.le
 refine fM hK (KP.out.six GX.out SX.out) ?_
 clear hK K
 clear HXB X10 XP b10
 generalize Xa : We.alloc (.cells (fZ r.body.kind r.body.op r.body.number r.body.line r.body.text Ak r.body.kids.length nk pk 0 0 0 aC (some (aj q10 0)) ks.length 1) 43) = W15 at *
 have ae1 : We.heap.size < W15.heap.size := by rw [← Xa]; simp
 clear Xa
 refine tkB 16 (KP.out.six GX.out SX.out) ?_
 have X17 : eF (W15.alloc (.cells (fZ 4 0 0 0 aC none 0 0 16 0 0 0 aC (some (aj We.heap.size 0)) 2 2) 43)) (w.heap.size + 1) g [.row 6 2 (flat ak.aG [(ak.mk 4 0 0 0 aC []), (ak.mk 16 0 0 0 aC [r.body, (ak.mk pk 0 0 0 aC ks)])])] [.slice (some (aj W15.heap.size 0)) 2 2] := eF.lit (e := 43) (eF.cons (eF.leaf 4 0 0 0 aC) (eF.one (eF.node (l := [r.body, (ak.mk pk 0 0 0 aC ks)]) X15 16 0 0 0 aC))) rfl aA ah ah
 refine rdA 17 (fun K hK => ?_)
 rw [if_pos aM]
 refine rP rfl rfl ?_
 replace KP := lH (KP.out.trans (CR.alloc cb W15 (.cells (fZ 4 0 0 0 aC none 0 0 16 0 0 0 aC (some (aj We.heap.size 0)) 2 2) 43)))
 replace hz := KP.out.le
 refine fM hK (KP.out.six GX.out SX.out) ?_
 clear hK K
 clear X15
 generalize W15.alloc (.cells (fZ 4 0 0 0 aC none 0 0 16 0 0 0 aC (some (aj We.heap.size 0)) 2 2) 43) = W17 at *
 refine tkB 18 (KP.out.six GX.out SX.out) ?_
 refine rdA 19 (fun K hK => ?_)
 go_simp
 refine fM hK (KP.out.six GX.out SX.out) ?_
 clear hK K
 refine tkB 20 (KP.out.six GX.out SX.out) ?_
 refine rdA 21 (fun K hK => ?_)
 obtain ⟨s3, s4, s5, s6, s7, s8⟩ := (KP.out.six GX.out SX.out)
 have f3 := (gV (KP.out.keep GX.out) _).trans (hfz 3)
 have f4 := (gV (KP.out.keep GX.out) _).trans (hfz 4)
 have f5 := (gV (KP.out.keep GX.out) _).trans (hfz 5)
 have f6 := (gV (KP.out.keep GX.out) _).trans (hfz 6)
 have f7 := (gV (KP.out.keep GX.out) _).trans (hfz 7)
 have f8 := (gV (KP.out.keep GX.out) _).trans (hfz 8)
 go_simp
 refine rE hK ?_
 clear hK K s3 s4 s5 s6 s7 s8 f3 f4 f5 f6 f7 f8
 refine bY aI ?_ _
 have HBK : (ak.mk 18 0 0 0 aC [(ak.mk 4 0 0 0 aC []), (ak.mk 16 0 0 0 aC [r.body, (ak.mk pk 0 0 0 aC ks)])]).bI ≤ r.body.bI + 100 := by simp only [ak.bI, eT]; have : ByteArray.size aC = 0 := rfl; simp only [List.length_cons, List.length_nil, this]; omega
 have HOT := (eF.node (l := [(ak.mk 4 0 0 0 aC []), (ak.mk 16 0 0 0 aC [r.body, (ak.mk pk 0 0 0 aC ks)])]) X17 18 0 0 0 aC).Ms
 have HS := lH (HTU.out (w.heap.size + 1) W17 3 [Value.int i64 18, .int i64 0, .int i64 0, .int i64 0, .string aC, .slice (some (aj W15.heap.size 0)) 2 2] ((some (aj W15.heap.size 0))) 2 { r with body := (ak.mk 18 0 0 0 aC [(ak.mk 4 0 0 0 aC []), (ak.mk 16 0 0 0 aC [r.body, (ak.mk pk 0 0 0 aC ks)])]) } ah F5 ah rfl av rfl HOT)
 have bpw := KP.out.blk bp6 ah
 have bzw := KP.out.blk bz6 ah
 go_wp2_with fail
 go_meet
 exact ⟨NK c kk { r with body := (ak.mk 18 0 0 0 aC [(ak.mk 4 0 0 0 aC []), (ak.mk 16 0 0 0 aC [r.body, (ak.mk pk 0 0 0 aC ks)])]) }, _, _, _, lH (bpw.PL ah), lH (bzw.PL ah), HS, HBD.out.turn HX.out (show bO.bI _ ≤ _ from nT (Nat.add_le_add_left HBK (r.name.size + (r.slots.length + sumOf ByteArray.size r.slots))) (Nat.le_of_eq (Nat.add_assoc _ _ _).symm)), lH (xx (Cr HB6.out KP.out ah) ah)⟩) : P := h
theorem Mt {P : Prop} (h : P := by
 obtain ⟨ba, bb, br, B0⟩ := kN w 141 (aD ka na 0 sa la ha) 141 (aD kb nb 0 sb lb hb) 141 (aD 0 0 0 ⟨#[]⟩ 0 0)
 go_in
 go_wp2_with fail
 refine (Ha.out _ B0).mono ?_; rintro e w1 ⟨rfl, hb⟩
 replace hb := gW B0 ba bb br hb
 clear ba bb br
 obtain ⟨B1, ba, cba, lba, fba, bb, cbb, lbb, fbb, br, cbr, lbr, fbr⟩ := hb
 go_wp2_with fail
 have bx := Blk.new w1 110 (aL x.lo.toInt x.hi.toInt)
 refine (Hb.out _ (B1.alloc mU _)).mono ?_; rintro e w2 ⟨rfl, hb⟩
 have B2 : Below w.heap.size w w2 := (B1.alloc mU _).trans (hb.mono mU)
 try clear cba lba fba
 try clear cbb lbb fbb
 try clear cbr lbr fbr
 replace ba := ((ba.alloc _)).later hb
 replace bb := ((bb.alloc _)).later hb
 replace br := ((br.alloc _)).later hb
 replace bx := bx.later hb
 clear hb
 obtain ⟨cbx, lbx, fbx⟩ := bx.all
 obtain ⟨cba, lba, fba⟩ := ba.all
 obtain ⟨cbb, lbb, fbb⟩ := bb.all
 obtain ⟨cbr, lbr, fbr⟩ := br.all
 go_wp2_with fail
 refine (HU.out _).mono ?_; rintro e w3 ⟨rfl, hb⟩
 have B3 : Below w.heap.size w w3 := (B2.alloc BH _).trans (hb.mono BH)
 try clear cbx lbx fbx
 try clear cba lba fba
 try clear cbb lbb fbb
 try clear cbr lbr fbr
 replace bx := ((bx.alloc _)).later hb
 replace ba := ((ba.alloc _)).later hb
 replace bb := ((bb.alloc _)).later hb
 replace br := ((br.alloc _)).later hb
 clear hb
 obtain ⟨cbx, lbx, fbx⟩ := bx.all
 obtain ⟨cba, lba, fba⟩ := ba.all
 obtain ⟨cbb, lbb, fbb⟩ := bb.all
 obtain ⟨cbr, lbr, fbr⟩ := br.all
 go_wp2_with fail
 have hF := ((((((br.aF 0 (.int i64 3)).aF 1 (.int i64 (0))).aF 2 (.int i64 0)).aF 3 (.string aC)).aF 4 (.int i64 z.lo.toInt)).aF 5 (.int i64 z.hi.toInt))
 have cF := hF.cell
 exact yw) : P := h
theorem xA {P : Prop} (h : P := by
 have HO := lH (UR (op := op) ah)
 have b70 : (op == 70) = false := bF ah
 have b71 : (op == 71) = false := bF ah
 have b72 : (op == 72) = false := bF ah
 have b73 : (op == 73) = false := bF ah
 have b74 : (op == 74) = false := bF ah
 have b75 : (op == 75) = false := bF ah
 have b76 : (op == 76) = false := bF ah
 have b77 : (op == 77) = false := bF ah
 have b78 : (op == 78) = false := bF ah
 have b79 : (op == 79) = false := bF ah
 have b81 : (op == 81) = false := bF ah
 go_in
 go_wp2_with fail
 go_ret
 exact ⟨_, rfl, by rw [HO.out]; decide +kernel, aA, bR _ _⟩) : P := h
theorem Q7 {P : Prop} (h : P := by
 obtain ⟨c6, l6, f6⟩ := be.all
 go_upto_region 18 with fail
 generalize hWq : World.setCell _ (aj (w2.heap.size + 1) 2) _ = W8
 have hM8 : Hid (Mv p ts w a bad true W8 _ _) := hWq ▸ hM.out.far lp (q := ⟨w2.heap.size + 1, 2, none⟩) qN (.int i64 r.length)
 have hD8 : Hid (Duo _ _ _ W8 _ _ _ _ _ _) := hWq ▸ hD.out.set (q := ⟨w2.heap.size + 1, 2, none⟩) (.inl av) (.int i64 r.length)
 have be8 : Blk W8 _ _ _ := hWq ▸ be.aF 2 (.int i64 r.length)
 have b48 : Blk W8 _ _ _ := hWq ▸ b4.far (p := ⟨w2.heap.size + 1, 2, none⟩) F6 (.int i64 r.length)
 have hz : w2.heap.size + 1 < W8.heap.size := be8.lt
 clear hWq c6 f6 l6 hM hD be b4
 have rQ := hD8.out.own
 have F7 := hD8.out.F7
 have hrd := Rds.dU F7
 have hone : ∀ u ∈ us, u.oneCell' = true := by obtain ⟨G, -, ⟨F, -, h, -⟩, -⟩ := hD8.out; exact zL h
 have AW := lH hD8.out.away
 have c8 := be8.cell
 clear F7
 go_wp2_with (first | (at_builtin; refine yx rfl _ _ 177 aM (w.heap.size + 1) 179 _ 5 64 mJ Tryz.underlying177 aM aA _ l.length _ aM rQ _ _ _ r.length us aM hrd hone jG ah ah ?_) | fail)
 rintro v' w9 F8 hgr hat
 obtain ⟨A9, n9, rfl, -⟩ := (Rds.dU F8).shape
 have hG9 := lH (hD8.out.all aJ F8 hgr F9)
 have hM9 := lH (hM8.out.own lp hgr BI)
 have be9 := be8.grown hgr (fun e => (AW.out _ e.symm).2.1 av)
 have b49 := b48.grown hgr (fun e => by have := (AW.out _ e.symm).1; omega)
 have hll : (l ++ r).length = l.length + r.length := List.length_append
 have hs9 := hgr.size
 clear F8 hgr hat rQ hrd hone c8 hM8 hD8 be8 b48 AW
 obtain ⟨c9, l9, f9⟩ := be9.all
 go_upto_region 19 with fail
 generalize hWq : World.setCell _ (aj (w2.heap.size + 1) 4) _ = W10
 have yA : Hid (Mv p ts w a bad true W10 _ _) := hWq ▸ hM9.out.far lp (q := ⟨w2.heap.size + 1, 4, none⟩) qN (.slice A9 (l.length + r.length) n9)
 have YW : Hid (dL _ _ _ 5 aH.aG W10 (l ++ r) _ _) := hWq ▸ hG9.out.set (q := ⟨w2.heap.size + 1, 4, none⟩) (.inl av) (.slice A9 (l.length + r.length) n9)
 have IP : Blk W10 _ _ _ := hWq ▸ be9.aF 4 (.slice A9 (l.length + r.length) n9)
 have PN : Blk W10 _ _ _ := hWq ▸ b49.far (p := ⟨w2.heap.size + 1, 4, none⟩) F6 (.slice A9 (l.length + r.length) n9)
 clear hWq c9 f9 l9 hM9 hG9 be9 b49
 have ce := IP.cell
 obtain ⟨c4, l4, f4⟩ := PN.all
 have hq : gq W10 _ _ (.mk 20 aC r.length line (l ++ r)) A9 n9 := gq.node (by have h := YW.out.row; rw [hll] at h ⊢; exact h) 20 aC r.length line
 have hQ := lH hq
 clear hq
 go_wp2_with fail
 refine bodyPost_ret (v := .agg (ay 20 ⟨#[]⟩ r.length line A9 (l.length + r.length) n9)) ?_ rfl ⟨.mk 20 ⟨#[]⟩ r.length line (l ++ r), A9, n9, _, _, by rw [← hll]; rfl, (by simpa using (yA.out.gU lp (nR _))), fun _ => trivial, nY _ _ _ _ _ (nZ _) ⟨hn0, hn1⟩ ⟨ah, ah⟩ (fun _ => by rw [hll]; exact ⟨ah, fun h => ah⟩) (by rw [hll]; omega) aA (fun x hx => by rcases mA hx with hx | hx; exact hO.out x hx; exact hOr.out x hx), (hQ.out.gU (.inr (Nat.lt_succ_self _))).to (Nat.le_succ _) (nR _)⟩
 simp [results, Tryz.results233, go_sem, c4]) : P := h
theorem Q8 {P : Prop} (h : P := by
 obtain ⟨x, hx⟩ : ∃ x, l[k]? = some x := ⟨_, gE ah⟩
 have hxs := hsz x (mG hx)
 have cg : wo.cell? (aj g k) = some (.string x) := by rw [(hB.same hSm).cell]; simp [hx]
 have k0 : (0 : Int) ≤ (k : Int) := ah
 have k1 : (k : Int) < 62 := ah
 clear hx
 by_cases hle : (x.size : Int) ≤ (s.size : Int) - (i : Int)
 ·have hwi : IntKind.i64.wrap ((i : Int) + (x.size : Int)) = (i : Int) + (x.size : Int) := IntWalk.i64_in _ ah
  have z1 : (i : Int) ≤ (i : Int) + (x.size : Int) := ah
  have z2 : (i : Int) + (x.size : Int) ≤ (s.size : Int) := ah
  cases heq : ((s.extract i (i + x.size)).toList == x.toList) with
  | true =>
    have hgn : g ≠ w.heap.size := by simp at hg; omega
    have hgn2 : w.heap.size ≠ g := fun h => hgn h.symm
    go_wp2_with fail
    go_quiet (fail)
    go_wp2_with fail
    go_region_held3 (fun w' => w'.cell? (aj g k) = some (.string x)) (go_keep) (fail)
    go_wp2_with fail
    refine bodyPost_ret (v := .tuple #[.agg (aV 7 x 0), .int i64 ((i : Int) + (x.size : Int))]) ?_ rfl ⟨⟨_, _, _, rfl, ?_, ?_⟩, ?_⟩
    ·simp [results, Tryz.results156, go_sem, cx]
    ·omega
    ·omega
    exact ko (hwo.trans (((Same.refl _).drewN _).below _)) _ _ _
  | false =>
    exact IQ
 have dl := dF hle
 exact IQ) : P := h
theorem Mw {P : Prop} (h : P := by
 skip
 obtain ⟨ba, bb, br, B0⟩ := kN w 141 (aD ka na 0 sa la ha) 141 (aD kb nb 0 sb lb hb) 141 (aD 0 0 0 ⟨#[]⟩ 0 0)
 go_in
 go_wp2_with fail
 refine (Ha.out _ B0).mono ?_; rintro e w1 ⟨rfl, hb⟩
 replace hb := gW B0 ba bb br hb
 clear ba bb br
 obtain ⟨B1, ba, cba, lba, fba, bb, cbb, lbb, fbb, br, cbr, lbr, fbr⟩ := hb
 go_wp2_with fail
 have bx := Blk.new w1 110 (aL 0 0)
 refine (Hb.out _ (B1.alloc mU _)).mono ?_; rintro e w2 ⟨rfl, hb⟩
 have B2 : Below w.heap.size w w2 := (B1.alloc mU _).trans (hb.mono mU)
 try clear cba lba fba
 try clear cbb lbb fbb
 try clear cbr lbr fbr
 replace ba := ((ba.alloc _)).later hb
 replace bb := ((bb.alloc _)).later hb
 replace br := ((br.alloc _)).later hb
 replace bx := bx.later hb
 clear hb
 obtain ⟨cbx, lbx, fbx⟩ := bx.all
 obtain ⟨cba, lba, fba⟩ := ba.all
 obtain ⟨cbb, lbb, fbb⟩ := bb.all
 obtain ⟨cbr, lbr, fbr⟩ := br.all
 go_wp2_with fail
 have hF := (((((((br.aF 0 (.int i64 0)).aF 1 (.int i64 (0))).aF 2 (.int i64 0)).aF 3 (.string aC)).aF 4 (.int i64 0)).aF 5 (.int i64 0)).alloc (.cells (aL y.lo.toInt y.hi.toInt) 110))
 have cF := hF.cell
 exact yw) : P := h
theorem dB {P : Prop} (h : P := by
 go_wp2_with fail
 go_ret
 exact ⟨_, rfl, rfl, aA, aA⟩) : P := h
theorem NL {P : Prop} (h : P := by
 refine rdA 7 (fun K hK => ?_)
 have YX := hMX.out.top
 have ae2 : li.length ≤ 20000 := ah
 refine kE rfl (.tmp 74) (.tmp 78) 177 rfl (w.heap.size + 1) 179 _ 5 64 mJ Tryz.underlying177 rfl aA _ 1 _ rfl hGX.out.own _ _ _ li.length us rfl Xb hone jG ah ah ?_
 intro v' w9 F8 hgr hat
 obtain ⟨A9, n9, rfl, -⟩ := (Rds.dU F8).shape
 have hgl : ∀ x, some x = (Value.slice (some (aj gx 0)) 1 1).ownBlock → x = gx := fun x e => by injection e
 have hG9 := lH (dL.joined (X := [w5.heap.size]) (Y := [gx, w5.heap.size]) (l := [c] ++ li) (B := w.heap.size + 1) (e := 179) (v' := .slice A9 (1 + li.length) n9) (K := 5) (by rw [jH]; simpa [cK, fC] using hQX.out) (fun x hx => List.mem_cons_of_mem _ hx) yB (fun g hg => by obtain rfl := hgl g hg.symm; exact ⟨List.mem_cons_self, fun hm => by have := mS hm; omega⟩) (by simpa [Nat.add_comm] using F8) hgr F9)
 have hM9 := lH (hMX.out.own lp hgr (fun x hx => by rw [hgl x hx.symm]; omega))
 have be9 := beX.grown hgr (fun e => by have := hgl _ e; omega)
 have b49 := b4X.grown hgr (fun e => by have := hgl _ e; omega)
 have hs9 := hgr.size
 clear cT F8 hgr hat hgl
 have cT := be9.cell
 refine fM hK cT ?_
 clear hK K
 refine tkB 8 cT ?_
 refine rdA 9 (fun K hK => ?_)
 have f9 := be9.frozen
 have l9 := be9.lt
 go_simp
 refine rE hK ?_
 clear hK K
 refine bY aI ?_ _
 go_wp2_with fail
 have hll : ([c] ++ li).length = 1 + li.length := by simp [Nat.add_comm]
 have hr9 : gJ w9 (w.heap.size + 1) [w5.heap.size] [.row 5 ([c] ++ li).length (flat aH.aG ([c] ++ li))] [.slice A9 ([c] ++ li).length n9] := by rw [hll]; have h := hG9.out.row; rw [hll] at h; exact h
 have hq9 := lH (gq.node hr9 10 aC 0 t.line)
 clear hr9
 have hb9 : Blk (Go.Proofs.YthbcamfejgghhaaGreatDoor.gU w9 w5.heap.size (.int i64 10) (.string aC) (.int i64 0) (.int i64 t.line) (.slice A9 (1 + li.length) n9)) w5.heap.size 179 (ay 10 aC 0 t.line A9 (([c] ++ li).length) n9) := by rw [hll]; exact be9.gU
 have YY := lH (nY 10 ⟨#[]⟩ 0 t.line ([c] ++ li) (nZ _) ⟨q2, q3⟩ aA l8 (by rw [hll]; omega) aA (fun x hx => by rcases mA hx with hx | hx; exact ok1 hOK.out x hx; exact hoi x hx))
 go_roundg (ts.length - a3)
 case measure => omega
 exact ⟨aH.mk 10 aC 0 t.line ([c] ++ li), A9, n9, a3, _, lH (hM9.out.gU lp (Nat.le_of_lt hse)), YY, lH (hq9.out.gU (.inl (List.mem_singleton.2 rfl))), hb9, b49.zM ah, by simp [World.setCell]; omega, rfl⟩) : P := h
theorem NM {P : Prop} (h : P := by
 clear HR
 have HI : Hid (∀ W : World, Calls Tryz.prog 212 (dI (1)) W fun e w' => e = .returned (.tuple #[.agg (aD 1 (1) 0 aC 0 0), .int i64 0]) ∧ Below W.heap.size W w') := fun W => by
  have h := eY (1) W
  exact yC
 unfold ig gu aY.val
 obtain ⟨br, B0⟩ := dQ w 141 (aD 0 0 0 ⟨#[]⟩ 0 0)
 go_in
 go_wp2_with fail
 refine (HI.out _).mono ?_; rintro e w1 ⟨rfl, hb⟩
 replace hb := jU B0 br hb
 clear br
 obtain ⟨B1, br, cbr, lbr, fbr⟩ := hb
 go_wp2_with fail
 have hF := ((((((br.aF 0 (.int i64 1)).aF 1 (.int i64 (1))).aF 2 (.int i64 0)).aF 3 (.string aC)).aF 4 (.int i64 0)).aF 5 (.int i64 0))
 have cF := hF.cell
 refine bodyPost_ret (v := .tuple #[.agg (aD 1 (1) 0 aC 0 0), .int i64 0]) ?_ rfl ⟨?_, ?_⟩
 ·exact uy
 ·rfl
 exact ji) : P := h
theorem pQ {P : Prop} (h : P := by
 go_wp2_with fail
 refine bodyPost_ret (v := .tuple #[.agg (aV 0 aC 0), .int i64 (-1)]) ?_ rfl ⟨⟨_, _, _, rfl, ?_, ?_⟩, ?_⟩
 ·simp [results, Tryz.results156, go_sem, cx]
 ·exact zero_le s
 ·omega
 first | exact ko hw _ _ _ | exact (bR w.heap.size w).alloc (nR _) _) : P := h
theorem jy {P : Prop} (h : P := by
 clear h hr
 go_in
 exact IU) : P := h
theorem vJ {P : Prop} (h : P := by
 rw [HR.out]
 exact (((((((HO.out.aF (p := ⟨w.heap.size + 1, 0, none⟩) dn _).aF (p := ⟨w.heap.size + 1, 1, none⟩) dn _).aF (p := ⟨w.heap.size + 1, 2, none⟩) dn _).aF (p := ⟨w.heap.size + 1, 3, none⟩) dn _).aF (p := ⟨w.heap.size + 1, 4, none⟩) dn _).aF (p := ⟨w.heap.size + 1, 5, none⟩) dn _)).weak fun g hg => ⟨ah, aJ⟩) : P := h
theorem Te {P : Prop} (h : P := by
 go_in
 exact IU) : P := h
theorem mV {P : Prop} (h : P := by
 have HO := lH (UR (op := op) ah)
 have b1 : (op == 81) = false := bF ah
 refine ⟨⟨#[]⟩, by rw [HO.out]; decide +kernel, aA, fun w ht => ?_⟩
 go_in
 exact Ct) : P := h
theorem yD {P : Prop} (h : P := by
 go_wp2_with (first | (at_builtin; refine dO rfl _ _ 22 aM 5 _ 1 1 BJ Tryz.underlying22 rfl aA aA w.heap.size _ _ _ aM hown _ 1 _ aM aM eZ ah hb.size ?_))
 rintro v' w1 ho1 hg1 -
 have hb1 := gN hb hb.size hown hg1
 clear hown
 go_wp2_with fail
 go_roundw
 case rel => exact ⟨k + 2, ah, ah, by go_num, vL.push rfl ho1 hxs ah, hb1⟩
 simp [intOf]; omega) : P := h
theorem NN {P : Prop} (h : P := by
 cases hh : c.has k with
 | true =>
   rw [hh] at HC
   have HS := lH (Ga hh)
   clear hh
   go_wp2_with fail
   refine (HC.out _).mono ?_; rintro e w1 ⟨rfl, hb1⟩
   have hown1 := fA hown hb1
   have ha1 := ha.later hb1
   have hb2 := hb.trans (hb1.mono hz)
   clear hown ca ha hb1 hsl
   go_wp2_with (first | (at_builtin; refine dO rfl (.tmp 14) (.tmp 17) 22 rfl 5 _ 1 1 BJ Tryz.underlying22 rfl aA aA w.heap.size v _ _ rfl hown1 #[.int .u8 k] 1 _ rfl rfl eZ ah hb2.size ?_))
   rintro v' w2 hown2 hgrow hat
   have hb3 := gN hb2 hb2.size hown1 hgrow
   have ha3 := ha1.grown hgrow (fun e => hne e.symm)
   have YZ : v'.ownBlock ≠ some w.heap.size := by
    rcases hat with e | e
    ·rw [e]; exact hne
    rw [e]; intro h; injection h with h; have := hb2.size; omega
   obtain ⟨g, cap, hv', -⟩ := hown2.form ah
   have ho3 : w2.ownsRow w.heap.size 5 1 v' (eP c (k + 1)).length ((eP c (k + 1)).map fun (j : Nat) => Value.int .u8 (j : Int)) := by rw [HS.out]; simpa using hown2
   have hs3 : Q9 v' (eP c (k + 1)).length := ⟨g, cap, by rw [HS.out, hv']; simp⟩
   clear hown2 hgrow hat hown1 hv' ha1 hne
   go_wp2_with fail
   go_roundw
   case rel => exact ⟨k + 1, ah, by go_num, ho3, hs3, ha3, YZ, hb3⟩
   simp [intOf]; omega
 | false =>
   rw [hh] at HC
   have HS := lH (IV hh)
   clear hh
   go_wp2_with fail
   refine (HC.out _).mono ?_; rintro e w1 ⟨rfl, hb1⟩
   have hown1 := fA hown hb1
   have ha1 := ha.later hb1
   have hb2 := hb.trans (hb1.mono hz)
   clear hown ca ha hb1
   go_wp2_with fail
   go_roundw
   case rel => exact ⟨k + 1, ah, by go_num, by rw [HS.out]; exact hown1, by rw [HS.out]; exact hsl, ha1, hne, hb2⟩
   simp [intOf]; omega) : P := h
theorem yE {P : Prop} (h : P := by
 have cF := hF.cell
 exact yw) : P := h
theorem NP {P : Prop} (h : P := by
 cases hl : iB s[k].toNat with
 | true =>
   rw [hl] at HL
   have HN : Hid (∀ j, j < k + 1 → uf (cZ s j) = true) := by
    intro j hj
    by_cases e : j = k
    ·rw [e, HK.out, uf, hl]; rfl
    exact hgo.out j ah
   clear hl hgo
   go_wp2_with fail
   refine (HL.out _).mono ?_; rintro e w2 ⟨rfl, rfl⟩
   go_wp2_with fail
   exact Cu
 | false =>
   rw [hl] at HL
   cases hg : mh s[k].toNat with
   | true =>
     rw [hg] at HG
     have HN : Hid (∀ j, j < k + 1 → uf (cZ s j) = true) := by
      intro j hj
      by_cases e : j = k
      ·rw [e, HK.out, uf, hg]; simp
      exact hgo.out j ah
     clear hl hg hgo
     go_wp2_with fail
     refine (HL.out _).mono ?_; rintro e w2 ⟨rfl, rfl⟩
     go_wp2_with fail
     refine (HG.out _).mono ?_; rintro e w2 ⟨rfl, rfl⟩
     go_wp2_with fail
     exact Cu
   | false =>
     rw [hg] at HG
     have H := lH (Vf hlt (by rw [HK.out, uf, hl, hg]; rfl))
     clear hl hg hgo
     go_wp2_with fail
     refine (HL.out _).mono ?_; rintro e w2 ⟨rfl, rfl⟩
     go_wp2_with fail
     refine (HG.out _).mono ?_; rintro e w2 ⟨rfl, rfl⟩
     go_wp2_with fail
     go_ret
     exact ⟨bD H.out.symm, hb⟩) : P := h
theorem BK {P : Prop} (h : P := by
 rintro v' w1 hown' hgrow -
 have hb1 := gN hb hb.size hown hgrow
 have ho2 : w1.ownsRow w.heap.size 5 1 v' (iC q s (k + 1)).length ((iC q s (k + 1)).map (.int .u8)) := by rw [HS2.out]; simpa using hown'
 clear hown' hgrow
 go_wp2_with fail
 go_roundw
 case rel => exact ⟨k + 1, ah, by go_num, ho2, hb1⟩
 simp [intOf]; omega) : P := h
theorem NQ {P : Prop} (h : P := by
 have HO := lH (qh (op := op) ah)
 have hm := Cv (op - 200) ah ah
 rw [show op - 200 - 20 = op - 220 by omega] at hm
 have hs := hm.2
 have hj : (op - 220).toNat < 44 := ah
 clear hm
 have b70 : (op == 70) = false := bF ah
 have b71 : (op == 71) = false := bF ah
 have b72 : (op == 72) = false := bF ah
 have b73 : (op == 73) = false := bF ah
 have b74 : (op == 74) = false := bF ah
 have b75 : (op == 75) = false := bF ah
 have b76 : (op == 76) = false := bF ah
 have b77 : (op == 77) = false := bF ah
 have b78 : (op == 78) = false := bF ah
 have b79 : (op == 79) = false := bF ah
 have b81 : (op == 81) = false := bF ah
 go_in
 go_wp2_with fail
 refine (uz _).mono ?_; rintro e w1 ⟨rfl, hB, hb⟩
 have hc := lS hB (op - 220).toNat (by rw [Ba]; exact hj)
 clear hB
 generalize oJ.getD (op - 220).toNat ByteArray.empty = t at *
 go_wp2_with fail
 go_ret
 exact ⟨_, rfl, by rw [HO.out, ByteArray.toList_eq, ByteArray.data_append, Array.toList_append]; simp, by rw [ByteArray.size_append]; have : (⟨#[58, 61]⟩ : ByteArray).size = 2 := rfl; omega, hb⟩) : P := h
theorem Tf {P : Prop} (h : P := by
 go_wp2_with fail
 exact IL) : P := h
theorem NR {P : Prop} (h : P := by
 skip
 have HR : Hid (og a b = (.int (-1), 0)) := lH (by rw [og, if_neg c1, if_pos (.inr c4), if_pos ⟨c4, c5⟩])
 rw [HR.out]
 subst c4
 have f2 : (b.tmod 2 != 0) = true := by simpa using c5
 have f3 : (b % 2 != 0) = true := by simpa using (fun h => c5 ((US b).1 h))
 clear HR
 have HI : Hid (∀ W : World, Calls Tryz.prog 212 (dI (-1)) W fun e w' => e = .returned (.tuple #[.agg (aD 1 (-1) 0 aC 0 0), .int i64 0]) ∧ Below W.heap.size W w') := fun W => by
  have h := eY (-1) W
  exact yC
 unfold ig gu aY.val
 obtain ⟨br, B0⟩ := dQ w 141 (aD 0 0 0 ⟨#[]⟩ 0 0)
 go_in
 go_wp2_with fail
 refine (HI.out _).mono ?_; rintro e w1 ⟨rfl, hb⟩
 replace hb := jU B0 br hb
 clear br
 obtain ⟨B1, br, cbr, lbr, fbr⟩ := hb
 go_wp2_with fail
 have hF := ((((((br.aF 0 (.int i64 1)).aF 1 (.int i64 (-1))).aF 2 (.int i64 0)).aF 3 (.string aC)).aF 4 (.int i64 0)).aF 5 (.int i64 0))
 have cF := hF.cell
 refine bodyPost_ret (v := .tuple #[.agg (aD 1 (-1) 0 aC 0 0), .int i64 0]) ?_ rfl ⟨?_, ?_⟩
 ·exact uy
 ·rfl
 exact ji) : P := h
theorem qO {P : Prop} (h : P := by first | exact ko hw _ _ _ | exact (bR w.heap.size w).alloc (nR _) _) : P := h
theorem fQ {P : Prop} (h : P := by simp [results, Tryz.results223, go_sem, cF]) : P := h
theorem NS {P : Prop} (h : P := by
 go_wp2_with fail
 refine (jI c.name _ (hst.below hwa hst.2)).mono ?_; rw [N1.out]; rintro e w1 ⟨rfl, hb1⟩
 have hw1 := hwa.trans (hb1.mono (nT hz av))
 have a1 := a0.later hb1
 have hf1 := hf0.below hb1 (nT (nT hhi hz) av)
 have ca := a1.cell
 have la := a1.lt
 clear hb1 q0 q1 q2
 go_wp2_with fail
 refine (oK c.fields _ _ lo hi hf1 (nT hhi hw1.size) (hst.below hw1 hst.2)).mono ?_; rw [N3.out]; rintro e w2 ⟨rfl, hb2⟩
 have hw2 := hw1.trans (hb2.mono hw1.size)
 have a2 := a1.later hb2
 have hf2 := hf1.below hb2 (nT hhi hw1.size)
 clear ca la hb2
 have ca := a2.cell
 have la := a2.lt
 go_wp2_with fail
 refine (wW c.fields _ _ lo hi hf2).mono ?_; rw [N4.out]; rintro e w3 ⟨rfl, hs3⟩
 have hw3 := hw2.trans ((hs3.below w2.heap.size).mono hw2.size)
 have a3 := a2.later (hs3.below _)
 clear ca la
 have ca := a3.cell
 have la := a3.lt
 go_wp2_with fail
 go_ret
 exact ⟨bD HV.out.symm, hw3⟩) : P := h
theorem NT {P : Prop} (h : P := by
 intro v' w3 mP hgr hat
 have HP3 := lH (hP.out.push HX.out HLS.out.1 HLS.out.2 rfl bX ah mP hgr ah)
 have B3 : Below w.heap.size w w3 := (B1.trans (bX.mono B1.size)).grown hgr (by have := bX.size; omega) (fun b hb => by have := (hown.lt b hb).1; omega)
 have bk3 := (bk.below bX lbk).grown hgr BL
 have br3 := (br.below bX lbr).grown hgr BL
 have hs3 : w.heap.size + 3 ≤ w3.heap.size := by have := bX.size; have := hgr.size; omega
 have HK3 : Hid (fF c.kids.length 0 c.kids = (l' ++ [x]) ++ fF c.kids.length (k + 1) (c.kids.drop (k + 1))) := lH (by rw [hK.out, HN, List.append_assoc])
 clear mP hgr hat jD hown
 go_wp2_with fail
 go_roundw
 case rel => exact ⟨k + 1, l' ++ [x], _, ah, by go_num, HP3, HK3, aJ, B3, bk3, br3, hs3⟩
 simp [intOf] <;> omega) : P := h
theorem fI {P : Prop} (h : P := by
 unfold wI at E
 exact E _ _ _ _ _) : P := h
theorem lU {P : Prop} (h : P := by simp [results, Tryz.results156, go_sem, cx]) : P := h
theorem mW {P : Prop} (h : P := by
 go_in
 go_wp2_with fail
 go_ret
 exact ⟨_, rfl, gP, aA, bR _ _⟩) : P := h
theorem NU {P : Prop} (h : P := by
 clear hlx HB
 go_wp2_with fail
 refine (HC.out _).mono ?_; rintro e w2 ⟨rfl, hb2⟩
 replace bX := bX.trans (hb2.mono bX.size)
 replace bx := bx.later hb2
 clear hb2 cx q0 q1 q2 q3 q4 q5 cbk fbk cbr fbr
 have cx := bx.cell
 have Xc : ¬ rR c.kids.length k x = true := by rw [HKB.out]; decide
 rw [if_neg Xc] at HN
 have HK3 : Hid (fF c.kids.length 0 c.kids = l' ++ fF c.kids.length (k + 1) (c.kids.drop (k + 1))) := lH (by rw [hK.out, HN, List.nil_append])
 have HP3 := lH ((hP.out.later bX).skip HX.out)
 clear HN Xc hown
 go_wp2_with fail
 go_roundw
 case rel => exact ⟨k + 1, l', _, ah, by go_num, HP3, HK3, ah, B1.trans (bX.mono B1.size), bk.below bX lbk, br.below bX lbr, by have := bX.size; omega⟩
 simp [intOf] <;> omega) : P := h
theorem yF {P : Prop} (h : P := by
 go_wp2_with fail
 go_meet
 exact ⟨congrArg Value.bool (by rw [Ra ah]; first | rfl | (simp; omega) | simp), rfl⟩) : P := h
theorem lV {P : Prop} (h : P := by intro w' hSw; obtain ⟨hT, hO⟩ := hSw; go_simp; try with_reducible rfl) : P := h
theorem Gb {P : Prop} (h : P := by
 unfold ig gu
 rw [ea, eb]
 try simp only [aY.val]
 go_in
 go_wp2_with fail
 refine bodyPost_ret ?_ rfl ⟨rfl, ?_⟩
 ·simp [results, Tryz.results148, go_sem]
 exact ji) : P := h
theorem NV {P : Prop} (h : P := by
 rw [HR.out] at HC ⊢
 unfold ig gu aY.val at HC ⊢
 clear HR h
 obtain ⟨br, B0⟩ := dQ w 141 (aD 0 0 0 ⟨#[]⟩ 0 0)
 go_in
 go_wp2_with fail
 refine (HC.out _).mono ?_; rintro e w1 ⟨rfl, hb⟩
 replace hb := jU B0 br hb
 clear br
 obtain ⟨B1, br, cbr, lbr, fbr⟩ := hb
 go_wp2_with fail
 have hF := ((((((br.aF 0 (.int i64 0)).aF 1 (.int i64 (0))).aF 2 (.int i64 0)).aF 3 (.string aC)).aF 4 (.int i64 0)).aF 5 (.int i64 0))
 have cF := hF.cell
 refine bodyPost_ret (v := .tuple #[.agg (aD 0 (0) 0 aC 0 0), .int i64 203]) ?_ rfl ⟨?_, ?_⟩
 ·simp [results, Tryz.results183, go_sem, cF]
 ·rfl
 exact ji) : P := h
theorem vM {P : Prop} (h : P := by repeat' first | with_reducible exact B2 | with_reducible refine Below.setCell ?_ BM _) : P := h
theorem vN {P : Prop} (h : P := by repeat' first | with_reducible exact B1 | with_reducible refine Below.setCell ?_ BM _) : P := h
theorem NW {P : Prop} (h : P := by
 unfold ig gu aY.val
 obtain ⟨ba, br, B0⟩ := kK w 141 (aD ka na 0 sa la ha) 141 (aD 0 0 0 ⟨#[]⟩ 0 0)
 go_in
 go_wp2_with fail
 refine (HWF.out _).mono ?_; rintro e w1 ⟨rfl, hb⟩
 replace hb := lF B0 ba br hb
 clear ba br
 obtain ⟨B1, ba, cba, lba, fba, br, cbr, lbr, fbr⟩ := hb
 go_wp2_with fail
 refine (Ha.out _ B1).mono ?_; rintro e w2 ⟨rfl, hb⟩
 replace hb := lF B1 ba br hb
 try clear cba lba fba cbr lbr fbr
 clear ba br
 obtain ⟨B2, ba, cba, lba, fba, br, cbr, lbr, fbr⟩ := hb
 go_wp2_with fail
 refine bodyPost_ret ?_ rfl ⟨rfl, ?_⟩
 ·simp [results, Tryz.results101, go_sem, cbr]
 exact ji) : P := h
theorem Gc {P : Prop} (h : P := by repeat' first | exact B0 | exact ((((bR w.heap.size w).alloc (nR _) _).alloc dn _).alloc dn _) | refine Below.setCell ?_ BN _ | refine Below.alloc ?_ BN _) : P := h
theorem Gd {P : Prop} (h : P := by
 as_aux_lemma =>
  go_wp2_with fail
  go_meet
  exact ⟨congrArg Value.bool (by rw [Fb ah ah ah ah]; first | rfl | (simp; omega) | simp), rfl⟩) : P := h
theorem BO {P : Prop} (h : P := by
 go_in
 go_wp2_with fail
 all_goals
  go_ret
  first | exact ⟨rfl, ((bR w.heap.size w).alloc (nR _) _)⟩ | exact ⟨bD (dT ah), ((bR w.heap.size w).alloc (nR _) _)⟩) : P := h
theorem sK {P : Prop} (h : P := by intro w' hSw; obtain ⟨h1, h2, h3, h4, h5, h6, h7⟩ := hSw; go_simp; try with_reducible rfl) : P := h
theorem Gf {P : Prop} (h : P := by exact ⟨_, _, rfl, lH (bn.Mx _ _ _ _ _ _), lH (eF.Tg (eF.cons (eF.leaf 5 0 next c.line aC) (eF.one (HXw.out.later (HW.out.trans (HBF.out.mono HW.out.size))))) (br.Xd hne _ _ _ _ _ _) rfl aA ah ah), HBF, by omega⟩) : P := h
theorem Gg {P : Prop} (h : P := by
 have hb0 : Below w.heap.size w (w.alloc (.cells (ay k t n l A m cap) 179)) := bA _ _
 subst h
 go_in
 go_wp2_with fail
 refine (iH _ _).mono ?_
 rintro e w1 ⟨rfl, hb⟩
 go_wp2_with fail
 go_ret
 exact ⟨_, rfl, hb0.trans (hb.mono hb0.size)⟩) : P := h
theorem Gh {P : Prop} (h : P := by
 go_wp2_with (first | (go_at_call 68; refine (iD _ _ (Nat.le_of_lt_succ (UInt8.toNat_lt _))).mono ?_; rw [H1.out]; rintro e w2 ⟨rfl, rfl⟩) | fail)
 go_round
 case rel => exact ⟨j + 1, ah, ah, by go_num⟩
 simp [intOf]; omega) : P := h
theorem NY {P : Prop} (h : P := by
 have hk1 : k - 1 < s.size := ah
 have hby := jh s (k - 1) hk1
 have hn1 : ((k : Int) - 1).toNat = k - 1 := ah
 by_cases h32 : (s[k - 1].toNat : Int) = 32
 ·have H := lH (PO hl.out hlt ah)
  clear hl hby
  go_wp2_with fail
  go_round
  case rel => exact ⟨k - 1, ah, ah, by go_num, H.out⟩
  simp [intOf]; omega
 have H := lH (Cw hl.out ah)
 clear hl hby
 go_wp2_with fail
 go_meet
 exact ⟨k, hak, hk, rfl, H.out, rfl⟩) : P := h
theorem BP {P : Prop} (h : P := by
 as_aux_lemma =>
  exact IW) : P := h
theorem sM {P : Prop} (h : P := by
 rw [HW.out l hd] at hc
 clear hd hne hl hB
 go_wp2_with fail
 go_ret
 exact ⟨rfl, hb⟩) : P := h
theorem Gi {P : Prop} (h : P := by
 obtain ⟨F, h1, h2⟩ := h
 refine ⟨F, ?_, h2⟩
 rw [ak.mX]
 exact aO.aN (F1 := []) .mkInt (aO.aN (F1 := []) .mkInt (aO.aN (F1 := []) .mkInt (aO.aN (F1 := []) .mkInt (aO.aN (F1 := []) .mkStr h1))))) : P := h
theorem NZ {P : Prop} (h : P := by
 go_wp2_with fail
 exact Cu) : P := h
theorem sN {P : Prop} (h : P := by
 go_wp2_with fail
 go_ret
 exact ⟨bD HV.out.symm, (bA _ _).alloc av _⟩) : P := h
theorem N5 {P : Prop} (h : P := by
 show iM _ _ _ _ _ _ _
 first | with_reducible refine iM.Vg ?_ _ _ _ _ | with_reducible refine iM.Vh ?_ _
 with_reducible refine iM.mk_ hrA hoB (fun g hg => ?_) ?_ ?_
 ·have hl := (hlB g hg).2
  rcases Vi with e | e <;> rw [hg] at e <;> injection e with e <;> (try simp only [iX, kS] at e ⊢) <;> omega
 ·(try simp only [iX, kS]); omega
 (try simp only [iX, kS]); omega) : P := h
theorem yG {P : Prop} (h : P := by
 clear c2
 go_wp2_with fail
 go_meet
 exact ⟨congrArg Value.bool HT.out.symm, congrArg Value.bool HN.out.symm, hf1⟩) : P := h
theorem Gj {P : Prop} (h : P := by
 injection hx with hx
 have hx := congrArg Array.toList hx
 simp only [List.cons.injEq, Value.slice.injEq, and_true, true_and] at hx
 obtain ⟨⟨rfl, rfl⟩, ⟨rfl, rfl⟩, ⟨rfl, rfl⟩⟩ := hx
 exact ⟨l0, l1, l2⟩) : P := h
theorem N6 {P : Prop} (h : P := by
 go_round
 case rel => exact ⟨j + 1, ah, ah, by go_num⟩
 simp [intOf]; omega) : P := h
theorem N7 {P : Prop} (h : P := by
 intro c w0 w hA
 go_in
 go_wp2_with (first
  | (go_at_call 127; refine (jV (k := 24) aU aM aI).mono ?_; rintro e w1 ⟨_, rfl, hA, s, rfl, hs⟩)
  | fail)
 all_goals go_ret
 all_goals refine ⟨_, rfl, aU, _, rfl, ?_⟩
 all_goals (try simp only [ByteArray.size_append, oh, List.size_toArray, List.length_cons, List.length_nil])
 all_goals omega) : P := h
theorem N8 {P : Prop} (h : P := by
 have HT := lH HT
 refine ⟨t ++ ⟨#[58, 61]⟩, by rw [HO.out, ByteArray.toList_eq, ByteArray.data_append, Array.toList_append]; simp, by rw [ByteArray.size_append]; have : (⟨#[58, 61]⟩ : ByteArray).size = 2 := rfl; omega, fun w ht => ?_⟩
 go_in
 go_wp2_with fail
 refine (HT.out _ ht).mono ?_; rintro e w1 ⟨rfl, hb⟩
 go_wp2_with fail
 go_ret
 exact ⟨rfl, hb⟩) : P := h
theorem N9 {P : Prop} (h : P := by
 go_wp2_with fail
 refine (jI c.name _ (hst.below hwa hst.2)).mono ?_; rw [N1.out]; rintro e w1 ⟨rfl, hb1⟩
 have hw1 := hwa.trans (hb1.mono (nT hz av))
 have a1 := a0.later hb1
 have hf1 := hf0.below hb1 (nT (nT hhi hz) av)
 have ca := a1.cell
 have la := a1.lt
 clear hb1 q0 q1 q2
 go_wp2_with fail
 go_ret
 exact ⟨bD HV.out.symm, hw1⟩) : P := h
theorem Oa {P : Prop} (h : P := by
 have ce := be.cell
 obtain ⟨c4, l4, f4⟩ := b4.all
 go_wp2_with fail
 refine bodyPost_ret (v := .agg (ay c.kind c.text c.number c.line Ac c.kids.length nc)) ?_ rfl ⟨c, Ac, nc, _, _, rfl, hM.out.gU lp (nR _), fun _ => HDD.out, hOK.out, (hQ.out.gU (.inr (Nat.lt_succ_self _))).to (Nat.le_succ _) (nR _)⟩
 simp [results, Tryz.results207, go_sem, c4]) : P := h
theorem Ob {P : Prop} (h : P := by
 have h0 := World.ownsRow_lit (w.alloc (.cells (aL c.lo.toInt c.hi.toInt) 110)) #[] 0 (e := 5) (size := 1) (nR _) aA rfl
 have h1 := vO h0 (base' := w.heap.size) av
 refine ⟨0, nZ _, rfl, ?_, ⟨w.heap.size + 1, 0, rfl⟩, (Blk.new w _ _).alloc _, (by simp [Value.ownBlock]), (bA _ _).alloc av _⟩
 simpa [eP] using h1) : P := h
theorem Oc {P : Prop} (h : P := by
 have hby := jh s k hlt
 by_cases h32 : (s[k].toNat : Int) = 32
 ·have H := lH (Rb hl.out hlt ah)
  clear hl hby
  go_wp2_with fail
  go_round
  case rel => exact ⟨k + 1, ah, by go_num, H.out⟩
  simp [intOf]; omega
 have H := lH (Ti hl.out hlt ah)
 clear hl hby
 go_wp2_with fail
 go_meet
 exact ⟨k, hk, rfl, H.out, rfl⟩) : P := h
theorem Od {P : Prop} (h : P := by
 have HR : Hid (mQ n = (.null, 203)) := lH (by rw [mQ, if_neg ah])
 rw [HR.out]
 unfold aY.val
 obtain ⟨br, B0⟩ := dQ w 141 (aD 0 0 0 ⟨#[]⟩ 0 0)
 go_in
 go_wp2_with fail
 refine bodyPost_ret (v := .tuple #[.agg (aD 0 0 0 aC 0 0), .bool false]) ?_ rfl ⟨?_, ?_⟩
 ·simp [results, Tryz.results227, go_sem]
 ·rfl
 exact ji) : P := h
theorem Oe {P : Prop} (h : P := by
 go_wp2_with fail
 go_roundw
 case rel => exact ⟨j, ln, false, ah, rfl, rfl, hl0, ah, rfl, mY.push (ts := us ++ [y]) (m := 2 * k + 1) (t := ⟨kd, t, ln⟩) rfl (by simpa [eX.cells] using ho9) aJ ah hok ⟨hl0, BQ, BR⟩, hb9⟩
 simp [intOf]; omega) : P := h
theorem pR {P : Prop} (h : P := by simp [results, Tryz.results183, go_sem, cF]) : P := h
theorem Og {P : Prop} (h : P := by
 refine ⟨k + 1, ah, by go_num, HG, (hr1.far (p := ⟨w.heap.size + 1, 0, none⟩) av _).far (p := ⟨w.heap.size + 1, 1, none⟩) av _, ?_, (hb2.setCell (p := ⟨w.heap.size + 1, 0, none⟩) av _).setCell (p := ⟨w.heap.size + 1, 1, none⟩) av _⟩
 rw [HS.out, HK.out]
 exact (hc1.aF 0 _).aF 1 _) : P := h
theorem BS {P : Prop} (h : P := by
 have cF := hF.cell
 refine bodyPost_ret ?_ rfl ⟨rfl, ?_⟩
 ·simp [results, Tryz.results101, go_sem, cF]
 exact ji) : P := h
theorem Oh {P : Prop} (h : P := by
 have h1 := Rc (c.au.take (k + 1)) (fun y hy => by have h2 := p9 (b := bO.bI) (List.mem_of_mem_take hy); unfold bg.bI at hbk; have h3 : y.body.bI ≤ y.bI := (by unfold bO.bI; omega); omega)
 have h4 : (c.au.take (k + 1)).length ≤ 12 := by rw [List.length_take]; omega
 omega) : P := h
theorem Gl {P : Prop} (h : P := by
 obtain ⟨F, a1, a2⟩ := h
 obtain ⟨G, b1, b2⟩ := h'
 exact ⟨F ++ G, a1.app b1, fun g hg => by rcases mA hg with hg | hg; exact a2 g hg; exact b2 g hg⟩) : P := h
theorem Oi {P : Prop} (h : P := by
 by_cases h3 : 3 ≤ k
 all_goals
  go_in
  go_wp2_with (first | (go_at_call 105; refine (zN _ av aM aI aA).mono ?_; rintro e w1 ⟨b, rfl, hb⟩) | fail)
  all_goals go_ret
  all_goals first | exact ⟨_, rfl, hb0⟩ | exact ⟨_, rfl, hb0.trans (hb.mono hb0.size)⟩) : P := h
theorem oL {P : Prop} (h : P := by simp [results, Tryz.results32, go_sem, cF]) : P := h
theorem Oj {P : Prop} (h : P := by
 rw [HR.out]
 clear HR
 unfold ig gu aY.val
 obtain ⟨br, B0⟩ := dQ w 141 (aD 0 0 0 ⟨#[]⟩ 0 0)
 go_in
 go_wp2_with fail
 refine bodyPost_ret (v := .tuple #[.agg (aD 0 0 0 aC 0 0), .int i64 201]) ?_ rfl ⟨?_, ?_⟩
 ·simp [results, Tryz.results183, go_sem]
 ·rfl
 exact ji) : P := h
theorem Ol {P : Prop} (h : P := by
 cases b with
 | true =>
   go_wp2_with fail
   go_ret
   exact ⟨false, rfl, hbE, fun h => by cases h⟩
 | false =>
   have H6 := lH (HLL.out rfl)
   go_wp2_with fail
   go_roundw
   case rel => exact ⟨j + 1, hlt, by go_num, bxx, hbE, lH (Ew HC.out hF.out H6.out)⟩
   simp [intOf]; omega) : P := h
theorem Om {P : Prop} (h : P := by
 go_wp2_with fail
 refine (Cx _).mono ?_
 rintro e w2 ⟨⟨A, l, rfl, hl, hr⟩, hb⟩
 have HF := lH (iq l s _ w2 _ _ hr)
 have HB2 := lH hb
 clear hr hb
 go_wp2_with fail
 refine HF.out.mono ?_
 rintro e w3 ⟨rfl, rfl⟩
 go_wp2_with fail
 go_ret
 exact ⟨_, rfl, HB2.out⟩) : P := h
theorem On {P : Prop} (h : P := by
 subst h1
 go_in
 go_wp2_with (first | (go_at_call 105; refine (zN _ av aM aI aA).mono ?_; rintro e w1 ⟨b, rfl, hb⟩) | fail)
 all_goals go_ret
 all_goals first | exact ⟨_, rfl, hb0⟩ | exact ⟨_, rfl, hb0.trans (hb.mono hb0.size)⟩) : P := h
theorem Oo {P : Prop} (h : P := by
 clear HR hgo
 as_aux_lemma =>
  go_wp2_with fail
  go_roundw
  case rel => first | exact ⟨kk + 1, ah, by go_num, HG, hf4⟩ | ((repeat apply Exists.intro); refine ⟨?_, ?_⟩; rotate_left; rfl; exact ⟨kk + 1, ah, by go_num, HG, hf4⟩)
  simp [intOf]; omega) : P := h
theorem BU {P : Prop} (h : P := by
 go_wp2_with fail
 go_ret
 exact ⟨bD H.out.symm, hb⟩) : P := h
theorem Oq {P : Prop} (h : P := by
 show Below _ _ _
 (repeat' first | with_reducible exact bX | with_reducible refine Below.alloc ?_ oM _ | with_reducible refine Below.setCell ?_ oM _)) : P := h
theorem BV {P : Prop} (h : P := by
 obtain ⟨s, -, hs⟩ := List.mem_flatMap.1 hd
 simp [aR] at hs; subst hs; trivial) : P := h
theorem Ot {P : Prop} (h : P := by
 have HF := lH hF
 have HY := lH hy
 obtain ⟨c5, l5, f5⟩ := b5.all
 clear hcell hF hy K5 hG
 go_wp2_with fail
 go_meet
 exact ⟨rfl, y, Ay, ny, lH (b5.Mx _ _ _ _ _ _), lH (mq hb5.out (nR _) _ _ _ _ _ _), HF, lH (.inr HY.out)⟩) : P := h
theorem Ou {P : Prop} (h : P := by
 clear hc
 rcases bE (c.name.toList == s.toList) with hq | hq
 ·exact IX
 go_wp2_with fail
 go_round
 case rel => exact ⟨j + 1, hlt, by go_num⟩
 simp [intOf]; omega) : P := h
theorem Gm {P : Prop} (h : P := by
 intro c hc h55
 obtain ⟨l, h1, h2⟩ := Tj (w := w) h55 hc aA 9
 exact ⟨⟨_, l, rfl, h1, h2⟩, bA _ _⟩) : P := h
theorem BX {P : Prop} (h : P := by
 go_wp2_with fail
 go_meet
 exact ⟨congrArg Value.bool (by rw [HW.out]; rfl), hf2⟩) : P := h
theorem Ov {P : Prop} (h : P := by exact (((HB5.out.setCell (p := ⟨w.heap.size, 0, none⟩) (nR _) _).setCell (p := ⟨w.heap.size, 1, none⟩) (nR _) _).setCell (p := ⟨w.heap.size, 2, none⟩) (nR _) _).setCell (p := ⟨w.heap.size, 3, none⟩) (nR _) _) : P := h
theorem yH {P : Prop} (h : P := by
 go_wp2_with fail
 go_ret
 exact ⟨bD HV.out.symm, hw2⟩) : P := h
theorem Gn {P : Prop} (h : P := by exact ⟨by have := (n2 g hg).1; omega, fun hx => by have := hX g hx; have := (n2 g hg).1; omega, (n2 g hg).2⟩) : P := h
theorem Ow {P : Prop} (h : P := by
 clear HR hgo
 as_aux_lemma =>
  go_wp2_with fail
  go_roundw
  case rel =>
   repeat apply Exists.intro
   refine ⟨?_, ?_⟩
   rotate_left
   ·rfl
   exact ⟨kk + 1, ah, by go_num, HG, hf3⟩
  simp [intOf]; omega) : P := h
theorem Ox {P : Prop} (h : P := by
 have k1 : decide (21 ≤ c.kind) = true := dT ah
 have k3 : decide (c.kind ≤ 23) = false := dF ah
 clear e0
 cases loop
 all_goals go_wp2_with fail
 all_goals go_meet
 all_goals exact ⟨_, rfl, rfl⟩) : P := h
theorem Oy {P : Prop} (h : P := by
 as_aux_lemma =>
  go_wp2_with fail
  go_meet
  exact ⟨congrArg Value.bool (by rw [My ah ah ah ah ah ah]; first | rfl | (simp; omega) | simp), rfl⟩) : P := h
theorem Gp {P : Prop} (h : P := by
 unfold aY.val
 go_in
 go_wp2_with fail
 go_ret2
 first | exact ⟨rfl, bR _ _⟩ | exact ⟨rfl, bA _ _⟩) : P := h
theorem Oz {P : Prop} (h : P := by
 clear hd
 go_wp2_with fail
 go_roundw
 case rel => exact ⟨u / 10, _, ah, by simp only [List.length_cons]; omega, by go_num, by rw [Cy], H.out, hb.alloc hb.size _⟩
 simp [intOf]; omega) : P := h
theorem OA {P : Prop} (h : P := by
 have hI : vP deep := Rf deep hL
 have hS : IY deep := Vj deep hL
 have hC : CaseOk deep := Tk deep h0 h1 hL
 exact ⟨hL, hU, Tm deep h0 h1 hL hI hS hC, hI, hS⟩) : P := h
theorem OB {P : Prop} (h : P := by
 go_roundg (ts.length - a8)
 case measure => omega
 exact ⟨ll', Al, nl, a8, uD, lH hM.out.weak, hKe, PAR, LOC, hLS, br, bu, b2, ah, lH (by have := hLL.out; omega), ah, rfl⟩) : P := h
theorem BZ {P : Prop} (h : P := by
 go_in
 go_wp2_with fail
 go_ret
 exact H1.out _ aI aM) : P := h
theorem OC {P : Prop} (h : P := by
 rw [hd] at HC0
 clear hd
 go_in
 go_wp2_with fail
 rw [← HB.out]
 refine (HC0.out _).mono ?_; rintro e w1 ⟨rfl, rfl⟩
 go_wp2_with fail
 go_ret
 exact ⟨bD H.out.symm, bR _ _⟩) : P := h
theorem sO {P : Prop} (h : P := by simpa [ByteArray.toList_eq] using this) : P := h
theorem OD {P : Prop} (h : P := by
 obtain ⟨F, h1, h2, h3, h4, h5⟩ := h
 exact ⟨F, dR h1 fun g hg => hk g (h5 g hg).1 (h1.lt g hg).2, h2.kept fun g hg => hk g (h4 g hg) (h2.lt g hg), h3, h4, h5⟩) : P := h
theorem B6 {P : Prop} (h : P := by intro w' hSw; obtain hT := hSw; go_simp; try with_reducible rfl) : P := h
theorem IZ {P : Prop} (h : P := by
 show _ = _
 unfold lW
 rw [hmn, dT (show (0 : Int) ≤ (mn : Int) by omega), dT (show (mn : Int) < (c.au.length : Int) by omega), Int.toNat_natCast, hr0]
 rfl) : P := h
theorem I1 {P : Prop} (h : P := by
 injection hx with hx
 have hx := congrArg Array.toList hx
 simp only [List.cons.injEq, Value.slice.injEq, and_true, true_and] at hx
 obtain ⟨rfl, rfl⟩ := hx
 exact l0) : P := h
theorem I4 {P : Prop} (h : P := by
 go_in
 go_wp2_with fail
 refine (OE s aM aI aA).mono ?_
 rintro e w1 ⟨b, rfl, hb⟩
 go_wp2_with fail
 go_ret
 exact ⟨_, rfl, hb⟩) : P := h
theorem I5 {P : Prop} (h : P := by
 go_wp2_with fail
 go_roundw
 case rel => exact ⟨k + 1, ln, b, ah, by go_num, rfl, ah, ah, rfl, hT.wide ah, hb⟩
 simp [intOf]; omega) : P := h
theorem I6 {P : Prop} (h : P := by
 have hb2 := hb.trans (hb1.mono hz)
 clear q0 hb1
 go_wp2_with fail
 go_roundw
 case rel => exact ⟨k + 1, ah, by go_num, HN, hb2⟩
 simp [intOf]; omega) : P := h
theorem Cz {P : Prop} (h : P := by
 go_wp2_with fail
 go_meet
 exact ⟨true, rfl, bR _ _, lH (fun h => by cases h)⟩) : P := h
theorem I7 {P : Prop} (h : P := by
 go_wp2_with fail
 go_quiet (fail)
 go_wp2_with fail
 go_roundw
 case rel => exact ⟨k + 1, ah, by go_num, HN, hsm.drewN _⟩
 simp [intOf]; omega) : P := h
theorem I8 {P : Prop} (h : P := by
 clear z
 go_wp2_with fail
 go_meet
 exact ⟨congrArg Value.bool HT.out.symm, congrArg Value.bool (by rw [HN.out, HZ.out]; first | rfl | simp), hf1⟩) : P := h
theorem I9 {P : Prop} (h : P := by
 go_wp2_with fail
 refine C1.out.mono ?_
 rintro e w3 ⟨rfl, hb3⟩
 go_wp2_with fail
 go_meet
 exact ⟨true, rfl, hb3, lH (fun h => by cases h)⟩) : P := h
theorem yI {P : Prop} (h : P := by
 simp only [bits, IntKind.bits, BitVec.ofInt_toInt]
 rfl) : P := h
theorem CB {P : Prop} (h : P := by
 go_wp2_with fail
 go_meet
 exact ⟨congrArg (Value.int i64) EK.out, bw, bv⟩) : P := h
theorem CF {P : Prop} (h : P := by
 obtain ⟨j, hj⟩ := List.getElem?_of_mem hx
 exact ih x hx _ _ (hk j x hj)) : P := h
theorem Ja {P : Prop} (h : P := by
 clear k
 as_aux_lemma =>
  go_wp2_with fail
  go_meet
  exact ⟨congrArg Value.bool (by rw [HI.out, Bool.eq_iff_iff]; simp <;> omega), rfl⟩) : P := h
theorem Jb {P : Prop} (h : P := by
 clear hgo
 go_wp2_with fail
 go_ret
 exact ⟨bD (by rw [HV.out, Bool.eq_iff_iff, decide_eq_true_eq, decide_eq_true_eq]; omega), hw6⟩) : P := h
theorem yJ {P : Prop} (h : P := by
 rcases mC h with rfl | h
 ·omega
 have := ih h; omega) : P := h
theorem Jc {P : Prop} (h : P := by
 rcases mA hm with hm | hm
 ·exact h5 g vQ hm
 have := hv g vQ; have := hg g hm; omega) : P := h
theorem yK {P : Prop} (h : P := by
 go_wp2_with fail
 go_ret
 exact ⟨_, rfl, HB.out⟩) : P := h
theorem Jd {P : Prop} (h : P := by
 obtain rfl : k = c.kids.length := by omega
 rw [List.take_length]
 go_wp2_with fail
 go_ret
 exact ⟨pU (by rw [HN.out]), hb⟩) : P := h
theorem Je {P : Prop} (h : P := by simp only [Below.heap_setCell _ _ _ g (show g ≠ (⟨w.heap.size, _, none⟩ : Addr).block by show g ≠ w.heap.size; omega)]) : P := h
theorem yL {P : Prop} (h : P := by
 go_wp2_with fail
 go_meet
 exact ⟨_, rfl, rfl⟩) : P := h
theorem Jf {P : Prop} (h : P := by
 unfold wI at E
 simp only [List.length_append, List.length_cons, List.length_nil, Nat.zero_add] at E
 exact E _ _ _ _ _) : P := h
theorem CG {P : Prop} (h : P := by
 go_wp2_with fail
 go_ret
 exact ⟨bD HV.out.symm, hf2.1⟩) : P := h
theorem Jg {P : Prop} (h : P := by
 go_in
 go_wp2_with fail
 all_goals
  go_ret
  exact ⟨bD (by rw [Bool.eq_iff_iff]; simp [iB]; omega), rfl⟩) : P := h
theorem yM {P : Prop} (h : P := by
 go_wp2_with fail
 go_meet
 exact ⟨rfl, rfl⟩) : P := h
theorem Jh {P : Prop} (h : P := by
 go_in
 go_wp2_with fail
 all_goals
  go_ret
  exact ⟨bD (by rw [Bool.eq_iff_iff]; simp [mh]; omega), rfl⟩) : P := h
theorem Ji {P : Prop} (h : P := by exact (HS.out.grown hgr (nR _) yN).wide ah kr) : P := h
theorem CJ {P : Prop} (h : P := by
 go_wp2_with fail
 go_ret2
 exact ⟨⟨_, _, rfl⟩, HT.out.2⟩) : P := h
theorem CK {P : Prop} (h : P := by
 go_wp2_with fail
 go_ret
 exact ⟨bD HV.out.symm, hwx⟩) : P := h
theorem CL {P : Prop} (h : P := by
 go_wp2_with fail
 go_ret
 exact ⟨bD HV.out.symm, hwa⟩) : P := h
theorem CO {P : Prop} (h : P := by
 go_wp2_with fail
 go_ret
 exact ⟨bD HV.out.symm, hw6⟩) : P := h
theorem Jj {P : Prop} (h : P := by
 go_in
 go_wp2_with fail
 all_goals
  go_ret
  exact ⟨bD (by rw [Bool.eq_iff_iff]; simp [inB]; omega), rfl⟩) : P := h
theorem Jk {P : Prop} (h : P := by exact (hb.setCell (p := ⟨w.heap.size, 0, none⟩) (nR _) _).setCell (p := ⟨w.heap.size, 1, none⟩) (nR _) _) : P := h
theorem Jl {P : Prop} (h : P := by
 go_wp2_with fail
 go_ret2
 exact ⟨Fg HV.out.1.symm HV.out.2.symm, (bA _ _).trans (hb1.mono av)⟩) : P := h
theorem Jm {P : Prop} (h : P := by
 obtain ⟨F, g1, g2, g3⟩ := h
 exact ⟨F, g1, g2, fun g hg => ⟨nT h1 (g3 g hg).1, nL (g3 g hg).2 h2⟩⟩) : P := h
theorem yO {P : Prop} (h : P := by simp [results, Tryz.results65, go_sem, cF]) : P := h
theorem Jn {P : Prop} (h : P := by
 go_wp2_with fail
 go_quiet (fail)
 go_wp2_with fail
 go_ret2
 exact ⟨⟨_, _, rfl⟩, (HN.out.drewN _).bl⟩) : P := h
theorem Jo {P : Prop} (h : P := by
 obtain ⟨F, g1, g2, g3⟩ := h
 exact ⟨F, g1.kept fun g hg => hk g (g3 g hg).1 (g3 g hg).2, g2, g3⟩) : P := h
theorem Jp {P : Prop} (h : P := by
 have H := lH HB
 clear HB
 go_in
 go_wp2_with fail
 go_ret
 exact ⟨rfl, H.out _ aI, bA _ _⟩) : P := h
theorem Jq {P : Prop} (h : P := by
 go_wp2_with fail
 go_quiet (fail)
 go_wp2_with fail
 go_ret
 exact ⟨bD HN.out.symm, hsm.drewN _⟩) : P := h
theorem Jr {P : Prop} (h : P := by
 rintro e w1 ⟨b, rfl, hb⟩
 go_wp2_with fail
 go_ret
 exact ⟨_, rfl, hb0.trans (hb.mono hb0.size)⟩) : P := h
theorem Js {P : Prop} (h : P := by
 clear hN
 go_wp2_with fail
 go_meet
 exact ⟨congrArg Value.bool (by rw [HW.out, HD.out]; rfl), hf3⟩) : P := h
theorem Jt {P : Prop} (h : P := by
 show _ = _
 apply vR
 unfold jR
 rw [dF (show ¬ c.au.length ≤ 12 by omega)]
 simp) : P := h
theorem CP {P : Prop} (h : P := by
 show -999999999999 ≤ _ ∧ _ ≤ 999999999999
 omega) : P := h
theorem Ju {P : Prop} (h : P := by
 show _ = _
 apply vR
 unfold jR
 rw [dF (show ¬ 1 ≤ c.au.length by omega)]
 simp) : P := h
theorem CQ {P : Prop} (h : P := by exact Fb h11 ah ah ah) : P := h
theorem CS {P : Prop} (h : P := by
 have := congrArg List.length hl
 simp at this; omega) : P := h
theorem Jv {P : Prop} (h : P := by
 clear hN
 go_wp2_with fail
 go_meet
 exact ⟨congrArg Value.bool (by rw [HW.out]; rfl), hf3⟩) : P := h
theorem Jw {P : Prop} (h : P := by
 rw [show (c.with (c.kids.map aX)).kids.length = c.kids.length from HLL.out] at h
 exact h) : P := h
theorem Jy {P : Prop} (h : P := by
 clear hgo
 as_aux_lemma =>
  go_wp2_with fail
  go_ret
  exact ⟨bD HV.out.symm, hf.1⟩) : P := h
theorem Jz {P : Prop} (h : P := by
 clear HR
 as_aux_lemma =>
  go_wp2_with fail
  go_ret
  exact ⟨bD HV.out.symm, hf4.1⟩) : P := h
theorem JA {P : Prop} (h : P := by
 clear HR
 as_aux_lemma =>
  go_wp2_with fail
  go_ret
  exact ⟨bD HV.out.symm, hf3.1⟩) : P := h
theorem JB {P : Prop} (h : P := by first | with_reducible exact Blk.new _ _ _ | with_reducible exact Blk.Vg bZ _ _ _ _) : P := h
theorem JC {P : Prop} (h : P := by
 obtain ⟨g, cap, hv, -⟩ := h.form ah
 exact ⟨g, cap, by rw [hv]; simp⟩) : P := h
theorem JD {P : Prop} (h : P := by
 intro j hj
 by_cases e : j = k
 ·rw [e, HK.out]; exact hb7
 exact hgo.out j ah) : P := h
theorem JE {P : Prop} (h : P := by
 have hg : some gr = some g := hg
 injection hg with hg
 exact ⟨ah, ah⟩) : P := h
theorem CU {P : Prop} (h : P := by
 go_wp2_with fail
 go_ret
 exact ⟨_, rfl, hb0⟩) : P := h
theorem JF {P : Prop} (h : P := by first | with_reducible exact Rh _ _ | with_reducible exact Tn _ _ _ _ _ _) : P := h
theorem JG {P : Prop} (h : P := by
 go_wp2_with fail
 go_meet
 exact ⟨congrArg Value.bool (by rw [HW.out]; rfl), rfl⟩) : P := h
theorem CW {P : Prop} (h : P := by
 go_wp2_with fail
 go_ret2
 exact ⟨rfl, hb1⟩) : P := h
theorem JH {P : Prop} (h : P := by
 go_wp2_with fail
 go_ret
 exact ⟨bD HF.out.symm, hb.trans (hb1.mono hz)⟩) : P := h
theorem JI {P : Prop} (h : P := by exact (h6 g (by rcases gm g hg with q | q; exact .inl q; exact .inr (.inl q))).1) : P := h
theorem IE {P : Prop} (h : P := by
 clear HA HZ
 by_cases hr : z < (a + 1) + 1
 ·exact IG
 by_cases hr2 : (a + 1) + 12 < z
 ·exact II
 go_wp2_with fail
 go_loop [4, 7] (fun i n => ∃ (k : Nat) (acc : Int), (a + 1) ≤ k ∧ k ≤ z ∧ i = .int i64 k ∧ n = .int i64 acc ∧ 0 ≤ acc ∧ acc < 10 ^ (k - (a + 1)) ∧ Hid (iW s (z - (a + 1)) (a + 1) 0 = iW s (z - k) k acc)) (fun i _ => z - (intOf i).toNat)
 case atStart => exact ⟨a + 1, 0, nR _, ah, by go_num, rfl, ah, av, rfl⟩
 obtain ⟨k, acc, hbk, hkz, rfl, rfl, WY, WZ, hd⟩ := hrel
 have hp := Q0 (k - (a + 1)) ah
 by_cases hlt : k < z
 ·have hks : k < s.size := by omega
  have hby := jh s k hks
  have hp1 := xw (k - (a + 1))
  rw [show k - (a + 1) + 1 = k + 1 - (a + 1) by omega] at hp1
  generalize hP : (10 : Int) ^ (k - (a + 1)) = P at *
  exact IJ
 exact IK) : P := h
theorem JJ {P : Prop} (h : P := by
 go_wp2_with (first | (go_at_call 68; refine (iD _ _ (Nat.le_of_lt_succ (UInt8.toNat_lt _))).mono ?_; (first | rw [HL.out]); rintro e w2 ⟨rfl, rfl⟩) | (go_at_call 70; refine (kH _ _ (Nat.le_of_lt_succ (UInt8.toNat_lt _))).mono ?_; rw [HD.out]; rintro e w2 ⟨rfl, rfl⟩) | fail)
 refine (rT _).mono ?_
 rintro e w3 ⟨⟨g, rfl, l, hB, hln, hsz, hg⟩, hb3⟩
 have hw : Below w.heap.size w w3 := ((bR w.heap.size w).alloc (nR _) _).trans (hb3.mono av)
 have bx3 := bx.below hb3 av
 clear cx fx bx
 obtain ⟨cx, lx, fx⟩ := bx3.all
 go_wp2_with fail
 go_loopw [16] (fun m wr => ∃ k : Nat, k ≤ 62 ∧ m = .int i64 k ∧ Same w3 wr) (fun m _ => 62 - (intOf m).toNat)
 case atStart => exact ⟨0, ah, rfl, Same.refl _⟩
 obtain ⟨k, hk, rfl, hSm⟩ := hrel
 obtain ⟨wo, rfl⟩ := nW wr
 have bo := bx3.same hSm
 clear cx fx lx
 have cx := bo.cell
 have fx := bo.frozen
 have hwo : Below w.heap.size w wo := hw.trans (hSm.below _)
 by_cases hlt : k < 62
 ·exact Q8
 obtain rfl : k = 62 := by omega
 go_wp2_with fail
 refine bodyPost_ret (v := .tuple #[.agg (aV 0 aC 0), .int i64 (-1)]) ?_ rfl ⟨⟨_, _, _, rfl, ?_, ?_⟩, ?_⟩
 ·exact lU
 ·exact zero_le s
 ·omega
 first | exact ko hwo _ _ _ | exact (bR w.heap.size w).alloc (nR _) _) : P := h
theorem CX {P : Prop} (h : P := by
 skip
 obtain ⟨ba, bb, br, B0⟩ := kN w 141 (aD ka na 0 sa la ha) 141 (aD kb nb 0 sb lb hb) 141 (aD 0 0 0 ⟨#[]⟩ 0 0)
 go_in
 go_wp2_with fail
 refine (Ha.out _ B0).mono ?_; rintro e w1 ⟨rfl, hb⟩
 replace hb := gW B0 ba bb br hb
 clear ba bb br
 obtain ⟨B1, ba, cba, lba, fba, bb, cbb, lbb, fbb, br, cbr, lbr, fbr⟩ := hb
 go_wp2_with fail
 have bx := Blk.new w1 110 (aL x.lo.toInt x.hi.toInt)
 exact Q5) : P := h
theorem CY {P : Prop} (h : P := by
 skip
 obtain ⟨ba, bb, br, B0⟩ := kN w 141 (aD ka na 0 sa la ha) 141 (aD kb nb 0 sb lb hb) 141 (aD 0 0 0 ⟨#[]⟩ 0 0)
 go_in
 go_wp2_with fail
 refine (Ha.out _ B0).mono ?_; rintro e w1 ⟨rfl, hb⟩
 replace hb := gW B0 ba bb br hb
 clear ba bb br
 obtain ⟨B1, ba, cba, lba, fba, bb, cbb, lbb, fbb, br, cbr, lbr, fbr⟩ := hb
 go_wp2_with fail
 have bx := Blk.new w1 110 (aL 0 0)
 exact Q5) : P := h
theorem JK {P : Prop} (h : P := by
 rintro e w1 ⟨k, rfl, hb⟩
 have HV := lH (HD.out.later hp hb)
 replace R := R.later hb
 clear hb cT
 have cT := HV.out.b0.cell
 refine fM hK cT ?_
 clear hK K
 refine rdA 6 (fun K hK => ?_)
 go_simp
 go_at_call 173
 refine (iY _ _ _ _ _ _).mono ?_
 rintro e w2 ⟨rfl, hb⟩
 have HU := lH (HV.out.later hp hb)
 replace R := R.later hb
 clear hb cT
 have cT := HU.out.b0.cell
 refine fM hK cT ?_
 clear hK K cT
 refine rdA 7 (fun K hK => ?_)
 have c1 := HU.out.b1.cell
 have f1 := HU.out.b1.frozen
 have l1 := HU.out.b1.lt
 go_simp
 refine rE hK ?_
 clear hK K
 refine bY aI ?_ _
 go_wp2_with fail
 have E := fun x0 x1 x2 x3 r => HU.out.end_ (x0 := x0) (x1 := x1) (x2 := x2) (x3 := x3) (rest := r) hp (dA.node R.top 11 k 0 c.line aC) ah hn1 hn2 fJ
 exact fI) : P := h
theorem JL {P : Prop} (h : P := by
 as_aux_lemma =>
  have hkd := HOK.out.kind
  have hw : IntKind.i64.wrap (59 + c.kind) = 59 + c.kind := IntWalk.i64_in _ ah
  obtain ⟨vs, hG⟩ := HK.out.K
  have R := hG.row
  clear hG
  go_wp2_with fail
  refine (iY _ _ _ _ _ _).mono ?_
  rintro e w1 ⟨rfl, hb⟩
  have HU := lH (HT.out.later hp hb)
  replace R := R.later hb
  clear hb c0 c1 f1 l1
  have c1 := HU.out.b1.cell
  have f1 := HU.out.b1.frozen
  have l1 := HU.out.b1.lt
  go_wp2_with fail
  have E := fun x0 x1 x2 x3 r => HU.out.end_ (x0 := x0) (x1 := x1) (x2 := x2) (x3 := x3) (rest := r) hp (dA.node R.top 11 (59 + c.kind) 0 c.line aC) ah hn1 hn2 fJ
  exact fI) : P := h
theorem JM {P : Prop} (h : P := by
 obtain ⟨vs, hG⟩ := HK.out.K
 have R := hG.row
 clear hG
 go_wp2_with fail
 refine (iY _ _ _ _ _ _).mono ?_
 rintro e w1 ⟨rfl, hb⟩
 have HU := lH (HT.out.later hp hb)
 replace R := R.later hb
 clear hb c0 c1 f1 l1
 have c1 := HU.out.b1.cell
 have f1 := HU.out.b1.frozen
 have l1 := HU.out.b1.lt
 go_wp2_with fail
 have E := fun x0 x1 x2 x3 r => HU.out.end_ (x0 := x0) (x1 := x1) (x2 := x2) (x3 := x3) (rest := r) hp (dA.node R.top 11 73 0 c.line aC) ah hn1 hn2 fJ
 exact fI) : P := h
theorem JN {P : Prop} (h : P := by
 go_wp2_with fail
 refine (jJ hM.out.ps HT.out).mono ?_
 rintro e w4 ⟨Bt, rfl, hmv, h4⟩
 replace hM := lH (hM.out.step hmv)
 replace be := be.grown hmv.gr aK
 replace b4 := b4.grown hmv.gr aK
 clear hmv h4
 have ce := be.cell
 obtain ⟨c4, l4, f4⟩ := b4.clf
 go_wp2_with fail
 refine mD b4 (fun W' cF => ?_) rfl (gy 0 aC 0 hM lp (okL q2 q3) (.leaf (X := []) _ _ _ _))
 exact fQ) : P := h
theorem JO {P : Prop} (h : P := by
 have HS2 : Hid (iC q s (k + 1) = iC q s k ++ ([92, (s[k].toNat : Int)] : List Int)) := lH yP
 clear HS
 go_wp2_with (first | (at_builtin; refine kT rfl (.tmp 31) (.tmp 33) 22 rfl 5 _ 1 1 qb Tryz.underlying22 rfl aA aA w.heap.size v _ _ rfl hown #[.int .u8 92, .int .u8 s[k].toNat] 2 2 _ rfl rfl eZ ah hb.size ?_))
 exact BK) : P := h
theorem CZ {P : Prop} (h : P := by
 unfold rU at Ca Cb
 have Ha := lH Ca
 clear Ca
 have Hb := lH Cb
 clear Cb
 unfold ig gu om aY.val
 rcases hop with hop | hop
 ·obtain ⟨o3, o4⟩ := hop
  exact Mr
 subst hop
 exact Mr) : P := h
theorem JQ {P : Prop} (h : P := by
 have E4 := lH e4
 have e5 : IntKind.i64.wrap (t.kind - 2) = t.kind - 2 := IntWalk.i64_in _ ah
 clear e4
 obtain ⟨c4, l4, f4⟩ := b4.clf
 go_wp2_with fail
 refine mD b4 (fun W' cF => ?_) rfl (gy (t.kind - 2) t.text 0 hM lp (okL q2 q3 q1 aA (by have := E4.out; omega) (by have := E4.out; omega)) (.leaf (X := []) _ _ _ _))
 exact fQ) : P := h
theorem JR {P : Prop} (h : P := by
 have H2 := lH h2
 clear h2
 go_wp2_with (first | (go_at_call 68; refine (iD _ _ (Nat.le_of_lt_succ (UInt8.toNat_lt _))).mono ?_; rw [H1.out]; rintro e w2 ⟨rfl, rfl⟩) | (go_at_call 70; refine (kH _ _ (Nat.le_of_lt_succ (UInt8.toNat_lt _))).mono ?_; rw [H2.out]; rintro e w2 ⟨rfl, rfl⟩) | fail)
 exact N6) : P := h
theorem JU {P : Prop} (h : P := by
 have b13 : (c.kind == 13) = false := bF ah
 have b15 : (c.kind == 15) = false := bF ah
 have b18 : (c.kind == 18) = false := bF ah
 have b19 : (c.kind == 19) = false := bF ah
 have b22 : (c.kind == 22) = false := bF ah
 have b25 : (c.kind == 25) = true := beq_iff_eq.2 h
 exact jy) : P := h
theorem JV {P : Prop} (h : P := by
 as_aux_lemma =>
  go_wp2_with fail
  have E := fun x0 x1 x2 x3 r => HT.out.end_ (x0 := x0) (x1 := x1) (x2 := x2) (x3 := x3) (rest := r) hp (dA.leaf (lo := w.heap.size + 2) (hi := 0) (c.kind) 0 (0) c.line c.text) ah hn1 hn2 fJ
  exact fI) : P := h
theorem yw {P : Prop} (h : P := by
 refine bodyPost_ret ?_ rfl ⟨rfl, ?_⟩
 ·simp [results, Tryz.results148, go_sem, cF]
 exact ji) : P := h
theorem JW {P : Prop} (h : P := by
 have b14 : (c.kind == 14) = false := bF ah
 have b20 : (c.kind == 20) = false := bF ah
 have b23 : (c.kind == 23) = false := bF ah
 have b26 : (c.kind == 26) = false := bF ah
 have b27 : (c.kind == 27) = true := beq_iff_eq.2 h
 exact jy) : P := h
theorem JX {P : Prop} (h : P := by
 have b13 : (c.kind == 13) = false := bF ah
 have b15 : (c.kind == 15) = false := bF ah
 have b18 : (c.kind == 18) = false := bF ah
 have b19 : (c.kind == 19) = false := bF ah
 have b22 : (c.kind == 22) = true := beq_iff_eq.2 h
 exact jy) : P := h
theorem JY {P : Prop} (h : P := by
 skip
 have HR : Hid (og a b = (.int (1), 0)) := lH (by rw [og, if_neg c1, if_pos (.inr c4), if_neg (fun h => h.2 c5)])
 rw [HR.out]
 subst c4
 have f2 : (b.tmod 2 != 0) = false := by simp [c5]
 have f3 : (b % 2 != 0) = false := by simp [(US b).2 c5]
 exact NM) : P := h
theorem JZ {P : Prop} (h : P := by
 obtain ⟨cba, lba, fba⟩ := ba.all
 obtain ⟨cbb, lbb, fbb⟩ := bb.all
 obtain ⟨cbr, lbr, fbr⟩ := br.all
 exact Tf) : P := h
theorem C4 {P : Prop} (h : P := by
 unfold iZ at Ca Cb
 have Ha := lH Ca
 clear Ca
 have Hb := lH Cb
 clear Cb
 unfold ig gu uE aY.val
 exact Mr) : P := h
theorem J2 {P : Prop} (h : P := by
 by_cases s0 : c.text.size = 0
 ·have i1 := PU s0
  have sa : c.text.size ≤ 0 := ah
  clear s0
  exact Gd
 have i1 := Ri s0
 have sa : 0 < c.text.size := ah
 clear s0
 as_aux_lemma =>
  exact yF) : P := h
theorem J3 {P : Prop} (h : P := by
 have b14 : (c.kind == 14) = false := bF ah
 have b20 : (c.kind == 20) = false := bF ah
 have b23 : (c.kind == 23) = false := bF ah
 have b26 : (c.kind == 26) = true := beq_iff_eq.2 h
 exact jy) : P := h
theorem J4 {P : Prop} (h : P := by
 have b13 : (c.kind == 13) = false := bF ah
 have b15 : (c.kind == 15) = false := bF ah
 have b18 : (c.kind == 18) = false := bF ah
 have b19 : (c.kind == 19) = true := beq_iff_eq.2 h
 exact jy) : P := h
theorem J5 {P : Prop} (h : P := by
 obtain ⟨A, cap, rfl, -, -, -⟩ := hr.form
 have HV := lH (Tp (op := c.op) h)
 have b11 : (c.kind == 11) = false := bF ah
 have b12 : (c.kind == 12) = true := beq_iff_eq.2 h
 exact jy) : P := h
theorem J6 {P : Prop} (h : P := by
 clear k
 have HP := lH (Gq (loop := loop) (made := made) (show c.kind = 20 ∨ c.kind = 21 by omega))
 cases loop with
 | false =>
   exact BP
 | true =>
   exact BP) : P := h
theorem J7 {P : Prop} (h : P := by
 have b14 : (c.kind == 14) = false := bF ah
 have b20 : (c.kind == 20) = false := bF ah
 have b23 : (c.kind == 23) = true := beq_iff_eq.2 h
 exact jy) : P := h
theorem J8 {P : Prop} (h : P := by
 have b13 : (c.kind == 13) = false := bF ah
 have b15 : (c.kind == 15) = false := bF ah
 have b18 : (c.kind == 18) = true := beq_iff_eq.2 h
 exact jy) : P := h
theorem Cu {P : Prop} (h : P := by
 go_round
 case rel => exact ⟨k + 1, ah, by go_num, HN⟩
 simp [intOf]; omega) : P := h
theorem J9 {P : Prop} (h : P := by
 skip
 have HR : Hid (og a b = (.int (1), 0)) := lH (by rw [og, if_neg c1, if_pos (.inl c2), if_neg ah])
 rw [HR.out]
 subst c2
 exact NM) : P := h
theorem IQ {P : Prop} (h : P := by
 go_wp2_with fail
 go_quiet (fail)
 go_wp2_with fail
 go_roundw
 case rel => exact ⟨k + 1, ah, by go_num, hSm.drewN _⟩
 simp [intOf]; omega) : P := h
theorem uy {P : Prop} (h : P := by simp [results, Tryz.results214, go_sem, cF]) : P := h
theorem Kc {P : Prop} (h : P := by
 simp only [iZ]
 have hw : Below w.heap.size w _ := (bR w.heap.size w).alloc (nR _) (.cells (aV 0 aC 0) 171)
 exact pQ) : P := h
theorem C5 {P : Prop} (h : P := by
 first | rw [zO HE] | rw [zP HE]
 clear HE HN
 exact Gb) : P := h
theorem Ke {P : Prop} (h : P := by
 have b17 : (c.kind == 17) = false := bF (h17)
 clear h11 h12 h13 h14 h15 h16 h17 h18 h19 h20 h22 h23 h25 h26 h27 hr
 exact Te) : P := h
theorem Kg {P : Prop} (h : P := by
 have b14 : (c.kind == 14) = false := bF ah
 have b20 : (c.kind == 20) = true := beq_iff_eq.2 h
 exact jy) : P := h
theorem Kh {P : Prop} (h : P := by
 have b13 : (c.kind == 13) = false := bF ah
 have b15 : (c.kind == 15) = true := beq_iff_eq.2 h
 exact jy) : P := h
theorem IL {P : Prop} (h : P := by
 refine bodyPost_ret ?_ rfl ⟨rfl, ?_⟩
 ·simp [results, Tryz.results148, go_sem, cbr]
 exact ji) : P := h
theorem yC {P : Prop} (h : P := by
 rw [yQ aA] at h
 exact h) : P := h
theorem Ct {P : Prop} (h : P := by
 go_wp2_with fail
 go_ret
 exact ⟨rfl, bR _ _⟩) : P := h
theorem IW {P : Prop} (h : P := by
 go_wp2_with fail
 go_meet
 exact ⟨congrArg Value.bool (by rw [HP.out]; rfl), rfl⟩) : P := h
theorem IU {P : Prop} (h : P := by
 go_wp2_with fail
 go_ret2
 exact ⟨Fg HV.out.1.symm HV.out.2.symm, bA _ _⟩) : P := h
theorem Ki {P : Prop} (h : P := by
 have f0 : (c.op != 0) = true := by simpa using o0
 as_aux_lemma =>
  exact yF) : P := h
theorem IX {P : Prop} (h : P := by
 go_wp2_with fail
 go_ret2
 exact ⟨⟨_, _, rfl, aA, aA⟩, hb0⟩) : P := h
theorem IJ {P : Prop} (h : P := by
 have HP1 := lH hp1
 clear hP hp1
 have Rj := PV s k
 rw [hby] at Rj
 by_cases h48 : s[k].toNat < 48
 have H := lH (Rk hd.out hlt ah)
 clear hd hby
 rotate_left
 by_cases h57 : 57 < s[k].toNat
 have H := lH (Rk hd.out hlt ah)
 clear hd hby
 rotate_left
 rotate_right 2
 iterate 2 focus
  go_wp2_with fail
  go_ret2
  exact ⟨oo (by rw [HI.out, Rl H.out]), rfl⟩
 have H := lH (Tq hd.out hlt ah ah)
 rw [hby] at H
 clear hd hby
 go_wp2_with fail
 go_round
 case rel => exact ⟨k + 1, 10 * acc + ((s[k].toNat : Int) - 48), ah, ah, by go_num, by go_num, ah, by rw [HP1.out]; omega, H.out⟩
 simp [intOf]; omega) : P := h
theorem IK {P : Prop} (h : P := by
 have H := lH (Tt hd.out hlt)
 clear hd
 go_wp2_with fail
 go_ret2
 exact ⟨Fh (by rw [HI.out, PW ah H.out]) av, rfl⟩) : P := h
theorem IG {P : Prop} (h : P := by
 go_wp2_with fail
 all_goals (go_ret2; exact ⟨oo (by rw [HI.out, vS (.inl hr)]), rfl⟩)) : P := h
theorem II {P : Prop} (h : P := by
 go_wp2_with fail
 go_ret2
 exact ⟨oo (by rw [HI.out, vS (.inr hr2)]), rfl⟩) : P := h
theorem Kj {P : Prop} (h : P := by
 go_wp2_with fail
 refine (HH2.out _).mono ?_; rintro e wz ⟨rfl, rfl⟩
 exact JZ) : P := h
theorem ah {P : Prop} (h : P := by omega) : P := h
theorem av {P : Prop} (h : P := by simp) : P := h
theorem aJ {P : Prop} (h : P := by simp; omega) : P := h
theorem aA {P : Prop} (h : P := by decide) : P := h
theorem eZ {P : Prop} (h : P := by simp [Value.oneCell']) : P := h
theorem aM {P : Prop} (h : P := by rfl) : P := h
theorem l8 {P : Prop} (h : P := by exact fun h => by cases h) : P := h
theorem aI {P : Prop} (h : P := by kernel_rfl) : P := h
theorem gP {P : Prop} (h : P := by decide +kernel) : P := h
theorem jK {P : Prop} (h : P := by simpa using hg) : P := h
theorem mZ {P : Prop} (h : P := by simp [hg]) : P := h
theorem oN {P : Prop} (h : P := by simp [hb]) : P := h
theorem aK {P : Prop} (h : P := by exact fun e => by injection e with e; omega) : P := h
theorem vQ {P : Prop} (h : P := by rw [← e]; exact hvg) : P := h
theorem Gr {P : Prop} (h : P := by exact fun e => by have := hr _ e.symm; omega) : P := h
theorem kr {P : Prop} (h : P := by simp [World.setCell]) : P := h
theorem fJ {P : Prop} (h : P := by (try simp [eT, ak.bI]); omega) : P := h
theorem qP {P : Prop} (h : P := by exact fun g e => by injection e with e; omega) : P := h
theorem yR {P : Prop} (h : P := by show w.heap.size + 5 ≤ go; omega) : P := h
theorem vT {P : Prop} (h : P := by show w.heap.size + 5 ≤ gt; omega) : P := h
theorem Gs {P : Prop} (h : P := by rcases hat with h | h; exact .inl h; exact .inr ⟨_, h, by omega⟩) : P := h
theorem OG {P : Prop} (h : P := by rw [List.length_append, zQ]; simp [eT, ak.bI]; omega) : P := h
theorem iJ {P : Prop} (h : P := by show g < _; omega) : P := h
theorem Cc {P : Prop} (h : P := by exact fun e => by subst e; rcases hq with hq | hq; exact h2 hq; omega) : P := h
theorem Gt {P : Prop} (h : P := by rw [cK, fC, List.append_nil]; exact hm) : P := h
theorem sP {P : Prop} (h : P := by simp [hq]) : P := h
theorem jG {P : Prop} (h : P := by unfold maxLen; omega) : P := h
theorem fB {P : Prop} (h : P := by trivial) : P := h
theorem Ce {P : Prop} (h : P := by show w2.heap.size ≠ p; omega) : P := h
theorem qQ {P : Prop} (h : P := by show w.heap.size ≠ p; omega) : P := h
theorem vU {P : Prop} (h : P := by unfold maxLen; simp) : P := h
theorem yS {P : Prop} (h : P := by exact fun x hx => by rcases mC hx with rfl | hx; exact .inr (.inl (nR _)); exact .inl hx) : P := h
theorem BI {P : Prop} (h : P := by exact fun x hx => by have := (AW.out x hx).1; omega) : P := h
theorem yB {P : Prop} (h : P := by exact fun x hx => by rw [mS hx]; omega) : P := h
theorem Gu {P : Prop} (h : P := by show w2.heap.size + 1 ≠ p; omega) : P := h
theorem qN {P : Prop} (h : P := by show w.heap.size ≤ w2.heap.size + 1; omega) : P := h
theorem yT {P : Prop} (h : P := by show w.heap.size ≠ w2.heap.size + 1; omega) : P := h
theorem Cf {P : Prop} (h : P := by exact fun q => by injection q with q; omega) : P := h
theorem oO {P : Prop} (h : P := by simpa using be) : P := h
theorem Cg {P : Prop} (h : P := by simpa using PX.out) : P := h
theorem Ch {P : Prop} (h : P := by simpa using PY.out) : P := h
theorem Gv {P : Prop} (h : P := by rcases hat with h | h; exact .inl h; exact .inr ⟨_, h, Nat.le_succ _⟩) : P := h
theorem F6 {P : Prop} (h : P := by show _ ≠ w2.heap.size + 1; omega) : P := h
theorem vV {P : Prop} (h : P := by rw [hq]; decide) : P := h
theorem BR {P : Prop} (h : P := by show t.size ≤ 100000; omega) : P := h
theorem BQ {P : Prop} (h : P := by show ln ≤ 100000; omega) : P := h
theorem OH {P : Prop} (h : P := by exact fun x hx => by rcases mC hx with rfl | hx; exact .inr (nR _); exact .inl hx) : P := h
theorem Gw {P : Prop} (h : P := by show W0.heap.size ≤ w1.heap.size + 1; omega) : P := h
theorem Gx {P : Prop} (h : P := by show w.heap.size ≠ w1.heap.size + 1; omega) : P := h
theorem F9 {P : Prop} (h : P := by rcases hat with h | h; exact .inl h; exact .inr ⟨_, h, nR _⟩) : P := h
theorem qR {P : Prop} (h : P := by show W0.heap.size ≤ w8.heap.size; omega) : P := h
theorem qT {P : Prop} (h : P := by show w1.heap.size + 1 ≠ w8.heap.size; omega) : P := h
theorem qU {P : Prop} (h : P := by show w.heap.size ≠ w8.heap.size; omega) : P := h
theorem jS {P : Prop} (h : P := by show w8.heap.size < _; omega) : P := h
theorem Gy {P : Prop} (h : P := by exact fun e => by have := (AL.out _ e.symm).1; omega) : P := h
theorem Ci {P : Prop} (h : P := by exact fun k e => by have e' : some Wd.heap.size = some k := e; injection e' with e'; omega) : P := h
theorem OI {P : Prop} (h : P := by rcases Gz with h | h; exact .inl h; exact .inr ⟨_, h, by omega⟩) : P := h
theorem aU {P : Prop} (h : P := by assumption) : P := h
theorem yU {P : Prop} (h : P := by rw [PZ]; omega) : P := h
theorem yN {P : Prop} (h : P := by exact fun q e => by injection e with e; omega) : P := h
theorem F5 {P : Prop} (h : P := by exact fun q h1 h2 => KP.out.keep ⟨by omega, by omega⟩) : P := h
theorem sQ {P : Prop} (h : P := by rw [h]; simp [fD]) : P := h
theorem Cj {P : Prop} (h : P := by rw [HB.out, n1]; simp) : P := h
theorem pV {P : Prop} (h : P := by rw [h]; simp) : P := h
theorem yP {P : Prop} (h : P := by rw [HS.out, hL.out]) : P := h
theorem oM {P : Prop} (h : P := by (try simp only [iX, kS]); omega) : P := h
theorem GA {P : Prop} (h : P := by (try simp only [iX]); omega) : P := h
theorem kL {P : Prop} (h : P := by exact fun e => by injection e with e; (try simp only [iX, kS] at e); omega) : P := h
theorem dn {P : Prop} (h : P := by simp <;> omega) : P := h
theorem BM {P : Prop} (h : P := by first | exact nR _ | omega | (simp; omega) | simp) : P := h
theorem gG {P : Prop} (h : P := by rw [hok]; decide) : P := h
theorem OJ {P : Prop} (h : P := by rintro (h | h | h | h | h | h | h | h | h | h | h | h | h | h | h) <;> contradiction) : P := h
theorem Ck {P : Prop} (h : P := by rw [HV.out, HK.out, hN]; rfl) : P := h
theorem OL {P : Prop} (h : P := by (try have s0 := B0.size); (try have s1 := B1.size); (try have s2 := B2.size); (try have s3 := B3.size); (try have s4 := B4.size); first | omega | (simp; omega) | simp) : P := h
theorem BN {P : Prop} (h : P := by have hs := B0.size; first | omega | (simp; omega) | simp) : P := h
theorem BH {P : Prop} (h : P := by have hs := B2.size; first | exact hs | omega | (simp; omega)) : P := h
theorem vW {P : Prop} (h : P := by rw [h]; decide) : P := h
theorem mU {P : Prop} (h : P := by have hs := B1.size; first | exact hs | omega | (simp; omega)) : P := h
theorem BL {P : Prop} (h : P := by exact fun e => by have := (hown.lt _ e.symm).1; omega) : P := h
theorem vX {P : Prop} (h : P := by show g3 < _; omega) : P := h
theorem vY {P : Prop} (h : P := by show g2 < _; omega) : P := h
theorem vZ {P : Prop} (h : P := by show g1 < _; omega) : P := h
theorem Cm {P : Prop} (h : P := by have := HW.out.size; omega) : P := h
theorem GB {P : Prop} (h : P := by exact fun e => by have h1 := AW.out _ e.symm; first | omega | exact absurd av h1.2.1) : P := h
theorem Cn {P : Prop} (h : P := by rw [HV.out]; exact dT ah) : P := h
end Go.Proofs.YthbcamfejgghhaaGreatDoor
