/- Vb of the program. iL of the program. YI of the program. -/
import Derived.Test.YthbcamfejgghhaaGreatDoorQ37
import Derived.Test.YthbcamfejgghhaaGreatDoorQ48
set_option maxRecDepth 100000
set_option maxHeartbeats 8000000
set_option linter.unusedVariables false
set_option linter.unusedSimpArgs false
namespace Go.Proofs.YthbcamfejgghhaaGreatDoor
open Go.IntKind (i64)
open Go.RowKit
theorem AZ (c : ak) (A : Option Addr) (n : Nat) (w : World) (lo hi : Nat) (hk : aW w lo hi 6 ak.aG (.slice A c.kids.length n) c.kids) (hhi : hi ≤ w.heap.size) (hop : sU c.op = true) (har : dH c.op ≤ c.kids.length ∧ (c.kids.length : Int) ≤ dM c.op) (hlc : ∀ x ∈ c.kids, zq x) (hst : bT w) (ht : jw w) :
 Calls Tryz.prog 65 #[.agg (aB c.kind c.op c.number c.line c.text A c.kids.length n)] w (Gives (rD c A n) w) := by
 have hkA := hk
 obtain ⟨A', n', hv, hc1, hc2⟩ := hk.shape
 injection hv with hv1 hv2 hv3
 subst hv1 hv3
 unfold maxLen at hc2
 have HAR := lH (NJ hop har)
 have HLC := lH hlc
 have HFN : Hid (∀ x ∈ c.kids, pz x = false → oI c = false) := fun x hm h => S9 hm h
 have HFE : Hid (c.kids.all pz = true → oI c = (decide ((opR c).2 = -1) || decide ((opR c).2 = 0))) := Er
 have HOP := lH hop
 obtain ⟨kv, nv, sv, lv, hv0, ev⟩ := (opR c).1.form
 have EV := lH ev
 clear har hlc hop ev
 obtain ⟨bk, br, B0⟩ := kK w 43 (aB c.kind c.op c.number c.line c.text A c.kids.length n) 43 (aB 0 0 0 0 ⟨#[]⟩ none 0 0)
 go_in
 go_wp2_with fail
 go_loopw [12] (fun i wr => ∃ k : Nat, k ≤ c.kids.length ∧ i = .int i64 k ∧ Hid ((c.kids.take k).all pz = true) ∧ Below ((w.alloc (.cells (aB c.kind c.op c.number c.line c.text A c.kids.length n) 43)).alloc (.cells (aB 0 0 0 0 aC none 0 0) 43)).heap.size ((w.alloc (.cells (aB c.kind c.op c.number c.line c.text A c.kids.length n) 43)).alloc (.cells (aB 0 0 0 0 aC none 0 0) 43)) wr) (fun i _ => c.kids.length - (intOf i).toNat)
 case atStart => exact ⟨0, nZ _, rfl, by simp [Hid], bR _ _⟩
 obtain ⟨k, hkl, rfl, hgo, hb⟩ := hrel
 have B1 := B0.trans (hb.mono B0.size)
 replace bk := bk.later hb
 replace br := br.later hb
 obtain ⟨cbk, lbk, fbk⟩ := bk.all
 obtain ⟨cbr, lbr, fbr⟩ := br.all
 have hkr := hk.below B1 hhi
 have hiw : hi ≤ wr.heap.size := nT hhi B1.size
 by_cases hlt : k < c.kids.length
 ·obtain ⟨x, hx⟩ : ∃ x, c.kids[k]? = some x := ⟨_, gE hlt⟩
  obtain ⟨g, off, Ax, nx, rfl, hg1, hg2, hmem, -, q0, q1, q2, q3, q4, q5⟩ := ak.at_ hkr hx
  have HS := lH (nC (q := pz) hx)
  have HC := lH (fun W : World => oH x Ax x.kids.length nx W)
  cases hl : pz x with
  | false =>
    have HV := lH (HFN.out x hmem hl)
    rw [hl] at HC
    clear hx hl hgo HS
    go_wp2_with fail
    refine (HC.out _).mono ?_; rintro e w2 ⟨rfl, hb⟩
    have B2 : Below w.heap.size w w2 := (B1.alloc mU _).trans (hb.mono mU)
    try clear cbk lbk fbk
    try clear cbr lbr fbr
    replace bk := ((bk.alloc _)).later hb
    replace br := ((br.alloc _)).later hb
    clear hb
    obtain ⟨cbk, lbk, fbk⟩ := bk.all
    obtain ⟨cbr, lbr, fbr⟩ := br.all
    go_wp2_with fail
    have hF := ((((((br.aF 0 (.int i64 c.kind)).aF 1 (.int i64 c.op)).aF 2 (.int i64 c.number)).aF 3 (.int i64 c.line)).aF 4 (.string c.text)).aF 5 (.slice (some (aj g off)) c.kids.length n))
    have cF := hF.cell
    refine bodyPost_ret (v := .agg (aB c.kind c.op c.number c.line c.text (some (aj g off)) c.kids.length n)) ?_ rfl ⟨?_, ?_⟩
    ·exact yO
    ·rw [yt HV.out]
    ·exact ji
    | true =>
      have HG : Hid ((c.kids.take (k + 1)).all pz = true) := lH (by rw [HS.out, hgo.out, hl]; rfl)
      rw [hl] at HC
      clear hx hl hgo HS
      go_wp2_with fail
      refine (HC.out _).mono ?_; rintro e w2 ⟨rfl, hb2⟩
      have hb3 := (hb.alloc hb.size (.cells (aB x.kind x.op x.number x.line x.text Ax x.kids.length nx) 43)).trans (hb2.mono (by have hs := hb.size; simp at hs ⊢; omega))
      clear q0 q1 q2 q3 q4 q5 cbk cbr fbk fbr lbk lbr
      go_wp2_with fail
      go_roundw
      case rel => exact ⟨k + 1, ah, by go_num, HG, hb3⟩
      simp [intOf] <;> omega
 obtain rfl : k = c.kids.length := by omega
 have QX : Hid (c.kids.all pz = true) := by have := hgo; rwa [List.take_length] at this
 clear hgo hlt
 have Qb := hst.below B1 hst.2
 have ht1 := ht.below B1 ht.2
 have b0 : w.heap.size ≤ wr.heap.size := B1.size
 have bv := Blk.new wr 141 (aD 0 0 0 aC 0 0)
 have HIN : Hid (∀ (j : Nat) (x : ak), c.kids[j]? = some x → pz x = true) := fun j x hj => by have := QX.out; rw [List.all_eq_true] at this; exact this x (mG hj)
 go_upto_block 2 with fail
 go_cut [6] (fun v wx => v = .int i64 (opR c).2 ∧ Below wr.heap.size wr wx ∧ Blk wx wr.heap.size 141 (aD kv nv 0 sv lv hv0))
 case first =>
  go_upto_region 9 with fail
  go_cut [22] (fun v wx => (∃ b : Bool, Hid (decide (c.op = 1 ∨ c.op = 2 ∨ c.op = 6) = b) ∧ v = .bool b) ∧ Below wr.heap.size wr wx ∧ Blk wx wr.heap.size 141 (aD 0 0 0 aC 0 0))
  case first =>
   have bw : Below wr.heap.size wr (wr.alloc (.cells (aD 0 0 0 aC 0 0) 141)) := (bR wr.heap.size wr).alloc (nR _) _
   have afF := (bk.alloc (.cells (aD 0 0 0 aC 0 0) 141)).cell
   by_cases h1 : c.op = 1
   ·have e1 : (c.op == 1) = true := by simp [h1]
    have hd : Hid (decide (c.op = 1 ∨ c.op = 2 ∨ c.op = 6) = true) := dT (.inl h1)
    clear h1
    as_aux_lemma =>
     go_wp2_with fail
     go_meet
     exact ⟨⟨_, hd, rfl⟩, bw, bv⟩
   have e1 : (c.op == 1) = false := by simpa using h1
   by_cases h2 : c.op = 2
   have e2 : (c.op == 2) = true := by simp [h2]
   have hd : Hid (decide (c.op = 1 ∨ c.op = 2 ∨ c.op = 6) = true) := dT (.inr (.inl h2))
   clear h1 h2
   rotate_left
   have e2 : (c.op == 2) = false := by simpa using h2
   have hd : Hid (decide (c.op = 1 ∨ c.op = 2 ∨ c.op = 6) = (c.op == 6)) := lH (by rw [Bool.eq_iff_iff]; simp; omega)
   clear h1 h2
   iterate 2 focus
    as_aux_lemma =>
     go_wp2_with fail
     go_meet
     exact ⟨⟨_, hd, rfl⟩, bw, bv⟩
  clear bv
  obtain ⟨⟨b, hbu, rfl⟩, bw, bv⟩ := hcut
  clear hk hkA B0 hb cbk fbk lbk cbr fbr lbr hkl hc1
  have bk0 := bk.below bw bk.lt
  have br0 := br.below bw br.lt
  have cx := bk0.cell
  have fx := bv.frozen
  have lx := bv.lt
  cases b with
  | true =>
    have hu := of_decide_eq_true hbu.out
    obtain ⟨a, zJ⟩ := HAR.out.1 hu
    have hx : c.kids[0]? = some a := by rw [zJ]; rfl
    have hl0 : (0 : Int) < (c.kids.length : Int) := by rw [zJ]; simp
    have hl1 : 0 < c.kids.length := by rw [zJ]; simp
    obtain ⟨g, off, Ax, nx, rfl, hg1, hg2, hmem, -, q0, q1, q2, q3, q4, q5⟩ := ak.at_ hkr hx
    have HL1 : Hid (∀ W : World, Below wr.heap.size wr W → Calls Tryz.prog 102 (jW (some (aj g off)) 0) W (Gives (jP a).val W)) := fun W hW => qL a (HIN.out 0 a hx) (HLC.out a hmem).2 g off W (by have := hW.size; omega) ((hW.cell (p := ⟨g, _, none⟩) iJ).trans (by simpa using q0)) ((hW.cell (p := ⟨g, _, none⟩) iJ).trans (by simpa using q2)) ((hW.cell (p := ⟨g, _, none⟩) iJ).trans (by simpa using q4))
    have HU : Hid (∀ W : World, Below wr.heap.size wr W → Calls Tryz.prog 101 #[.int i64 c.op, (jP a).val] W fun e w' => e = .returned (.tuple #[.agg (aD kv nv 0 sv lv hv0), .int i64 (opR c).2]) ∧ Below W.heap.size W w') := fun W hW => by
     have h := NG c.op (jP a) (HLC.out a hmem).1 W (ht1.later hW) hu
     rw [← UN zJ hu] at h
     unfold ig gu at h
     rw [EV.out] at h
     exact h
    have hne : w.heap.size ≠ wr.heap.size := by have := bk.lt; omega
    have cxd := bk0.drew.cell
    clear hx zJ q0 q1 q2 q3 q4 q5 HAR hu
    go_wp2_with fail
    go_region_held3 (fun w' => ∀ i, w'.cell? (aj w.heap.size i) = (aB c.kind c.op c.number c.line c.text (some (aj g off)) c.kids.length n : Array Value)[i]?)
     (first | with_reducible exact cxd | with_reducible exact (bk0.drew.later hbA).cell | with_reducible exact ((bk0.drew.later hbA).later hbB).cell | exact (((((((((bk0.drew.later hbA).later hbB).far hne _).far hne _).far hne _).far hne _).far hne _).far hne _)).cell)
     (first | (go_at_call 102; refine (HL1.out _ bw.drew).mono ?_; rintro e wA ⟨rfl, hbA⟩) | (go_at_call 101; refine (HU.out _ (bw.drew.trans (hbA.mono bw.size))).mono ?_; rintro e wB ⟨rfl, hbB⟩; have cvB := ((bv.drew.later hbA).later hbB).cell; have fvB := ((bv.drew.later hbA).later hbB).frozen; have lvB := ((bv.drew.later hbA).later hbB).lt))
    have bA := bw.drew.trans (hbA.mono bw.size)
    have bB := bA.trans (hbB.mono bA.size)
    have bvB := (bv.drew.later hbA).later hbB
    obtain ⟨cv, lv0, fv⟩ := bvB.all
    go_wp2_with fail
    go_meet
    exact ⟨rfl, ((((((bB.setCell (p := ⟨wr.heap.size, 0, none⟩) (nR _) _).setCell (p := ⟨wr.heap.size, 1, none⟩) (nR _) _).setCell (p := ⟨wr.heap.size, 2, none⟩) (nR _) _).setCell (p := ⟨wr.heap.size, 3, none⟩) (nR _) _).setCell (p := ⟨wr.heap.size, 4, none⟩) (nR _) _).setCell (p := ⟨wr.heap.size, 5, none⟩) (nR _) _), ((((((bvB.aF 0 (.int i64 kv)).aF 1 (.int i64 nv)).aF 2 (.int i64 0)).aF 3 (.string sv)).aF 4 (.int i64 lv)).aF 5 (.int i64 hv0))⟩
  | false =>
    have hu := of_decide_eq_false hbu.out
    by_cases ht2 : 20 ≤ c.op ∧ c.op ≤ 54 ∧ ¬ c.op = 51
    ·obtain ⟨a, a', zJ⟩ := HAR.out.2 ht2
     have hx : c.kids[0]? = some a := by rw [zJ]; rfl
     have hx' : c.kids[1]? = some a' := by rw [zJ]; rfl
     have hl0 : (0 : Int) < (c.kids.length : Int) := by rw [zJ]; simp
     have hl1 : 0 < c.kids.length := by rw [zJ]; simp
     have hl2 : (1 : Int) < (c.kids.length : Int) := by rw [zJ]; simp
     have hl3 : 1 < c.kids.length := by rw [zJ]; simp
     obtain ⟨g, off, Ax, nx, rfl, hg1, hg2, hmem, -, q0, q1, q2, q3, q4, q5⟩ := ak.at_ hkr hx
     obtain ⟨g', off', Ay, ny, hA2, -, -, Vd, -, r0, r1, r2, r3, r4, r5⟩ := ak.at_ hkr hx'
     injection hA2 with hA2
     injection hA2 with hA3 hA4
     subst hA3 hA4
     have HL1 : Hid (∀ W : World, Below wr.heap.size wr W → Calls Tryz.prog 102 (jW (some (aj g off)) 0) W (Gives (jP a).val W)) := fun W hW => qL a (HIN.out 0 a hx) (HLC.out a hmem).2 g off W (by have := hW.size; omega) ((hW.cell (p := ⟨g, _, none⟩) iJ).trans (by simpa using q0)) ((hW.cell (p := ⟨g, _, none⟩) iJ).trans (by simpa using q2)) ((hW.cell (p := ⟨g, _, none⟩) iJ).trans (by simpa using q4))
     have HL2 : Hid (∀ W : World, Below wr.heap.size wr W → Calls Tryz.prog 102 (jW (some (aj g (off + 6))) 0) W (Gives (jP a').val W)) := fun W hW => qL a' (HIN.out 1 a' hx') (HLC.out a' Vd).2 g (off + 6) W (by have := hW.size; omega) ((hW.cell (p := ⟨g, _, none⟩) iJ).trans (by simpa using r0)) ((hW.cell (p := ⟨g, _, none⟩) iJ).trans (by simpa using r2)) ((hW.cell (p := ⟨g, _, none⟩) iJ).trans (by simpa using r4))
     obtain ⟨lv1, hlv⟩ : ∃ lv1 : Nat → Value, Hid (lv1 off = (jP a).val ∧ lv1 (off + 6) = (jP a').val) := ⟨fun q => if q = off then (jP a).val else (jP a').val, if_pos rfl, if_neg ah⟩
     have HL : Hid (∀ (q : Nat) (W : World), Below wr.heap.size wr W → (q = off ∨ q = off + 6) → Calls Tryz.prog 102 (jW (some (aj g q)) 0) W fun e w' => e = .returned (lv1 q) ∧ Below W.heap.size W w') := fun q W hW hq => by
      rcases hq with rfl | rfl
      ·have h := HL1.out W hW
       rw [← hlv.out.1] at h
       exact h
      have h := HL2.out W hW
      rw [← hlv.out.2] at h
      exact h
     have HU : Hid (∀ W : World, Below wr.heap.size wr W → Calls Tryz.prog 103 #[.int i64 c.op, lv1 off, lv1 (off + 6)] W fun e w' => e = .returned (.tuple #[.agg (aD kv nv 0 sv lv hv0), .int i64 (opR c).2]) ∧ Below W.heap.size W w') := fun W hW => by
      have h := Me c.op (jP a) (jP a') (HLC.out a hmem).1 (HLC.out a' Vd).1 W (ht1.later hW) HOP.out ht2.1 ht2.2.1 ht2.2.2 (Qb.later hW)
      rw [← UO zJ ht2] at h
      unfold ig gu at h
      rw [EV.out, ← hlv.out.1, ← hlv.out.2] at h
      exact h
     clear HL1 HL2
     have bkX := bk0.drew
     have bvX := bv.drew
     have bwX := bw.drew
     have hne : w.heap.size ≠ wr.heap.size := by have := bk.lt; omega
     have cxd := bk0.drew.cell
     have t1 := ht2.1
     have t2 := ht2.2.1
     have t3 : (c.op != 51) = true := by simp [ht2.2.2]
     clear hx hx' zJ q0 q1 q2 q3 q4 q5 r0 r1 r2 r3 r4 r5 HAR hu ht2
     go_wp2_with fail
     go_region_held3 (fun w' => ∀ i, w'.cell? (aj w.heap.size i) = (aB c.kind c.op c.number c.line c.text (some (aj g off)) c.kids.length n : Array Value)[i]?)
      (first | with_reducible exact bkX.cell | exact (((((((bkX.far hne _).far hne _).far hne _).far hne _).far hne _).far hne _)).cell)
      (first
       | (go_at_call 102; refine (HL.out _ _ bwX ah).mono ?_; rintro e wA ⟨rfl, hbA⟩; replace bkX := bkX.later hbA; replace bvX := bvX.later hbA; replace bwX := bwX.trans (hbA.mono bwX.size); clear hbA)
       | (go_at_call 103; refine (HU.out _ bwX).mono ?_; rintro e wB ⟨rfl, hbB⟩; replace bkX := bkX.later hbB; replace bvX := bvX.later hbB; replace bwX := bwX.trans (hbB.mono bwX.size); clear hbB; have cvB := bvX.cell; have fvB := bvX.frozen; have lvB := bvX.lt))
     all_goals
      go_wp2_with fail
      go_meet
      exact ⟨rfl, ((((((bwX.setCell (p := ⟨wr.heap.size, 0, none⟩) (nR _) _).setCell (p := ⟨wr.heap.size, 1, none⟩) (nR _) _).setCell (p := ⟨wr.heap.size, 2, none⟩) (nR _) _).setCell (p := ⟨wr.heap.size, 3, none⟩) (nR _) _).setCell (p := ⟨wr.heap.size, 4, none⟩) (nR _) _).setCell (p := ⟨wr.heap.size, 5, none⟩) (nR _) _), ((((((bvX.aF 0 (.int i64 kv)).aF 1 (.int i64 nv)).aF 2 (.int i64 0)).aF 3 (.string sv)).aF 4 (.int i64 lv)).aF 5 (.int i64 hv0))⟩
    have HR := WN hu ht2
    have EZ : ((aD kv nv 0 sv lv hv0 : Array Value) : Array Value) = (aD 0 0 0 aC 0 0 : Array Value) := Value.agg.inj (EV.out.symm.trans (by rw [HR]; rfl))
    have EK : Hid ((205 : Int) = (opR c).2) := lH (by rw [HR])
    rw [← EZ] at bv
    have HZ := lH EZ
    clear HR EZ
    by_cases t1 : 20 ≤ c.op
    ·by_cases t2 : c.op ≤ 54
     ·have h51 : c.op = 51 := by omega
      have t3 : (c.op != 51) = false := by simp [h51]
      clear hu ht2 h51
      exact CB
     clear hu ht2
     exact CB
    clear hu ht2
    exact CB
 clear bv cbk lbk fbk cbr lbr fbr hk hkA B0 hb hkl hc1 hkr HIN HAR HOP
 obtain ⟨rfl, hcw, bv⟩ := hcut
 have B2 : Below w.heap.size w wc := B1.trans (hcw.mono b0)
 replace bk := bk.below hcw bk.lt
 replace br := br.below hcw br.lt
 have HL : Hid (∀ W : World, Calls Tryz.prog 104 #[.agg (aD kv nv 0 sv lv hv0), c.line] W fun e w' => e = .returned (.tuple #[Bq (jF c.line (opR c).1), .bool true]) ∧ Below W.heap.size W w') := fun W => by
  have h := Ep (opR c).1 c.line W
  rw [EV.out] at h
  exact h
 unfold Bq at HL
 clear hcw B1 Qb ht1
 obtain ⟨cbk, lbk, fbk⟩ := bk.all
 obtain ⟨cbr, lbr, fbr⟩ := br.all
 obtain ⟨cbv, lbv, fbv⟩ := bv.all
 by_cases km : (opR c).2 = -1
 ·have em : ((opR c).2 == -1) = true := by simp [km]
  have HV : Hid (rD c A n = .agg (aB 28 0 0 c.line aC none 0 0)) := lH (by rw [vG (by rw [HFE.out QX.out, km]; rfl), Br QX.out km]; rfl)
  clear km
  go_wp2_with fail
  have hF := ((((((br.aF 0 (.int i64 28)).aF 1 (.int i64 0)).aF 2 (.int i64 0)).aF 3 (.int i64 c.line)).aF 4 (.string aC)).aF 5 (.slice none 0 0))
  have cF := hF.cell
  refine bodyPost_ret (v := .agg (aB 28 0 0 c.line aC none 0 0)) ?_ rfl ⟨?_, ?_⟩
  ·exact yO
  ·rw [HV.out]
  exact ji
 have em : ((opR c).2 == -1) = false := by simpa using km
 by_cases kz : (opR c).2 = 0
 ·have ez : ((opR c).2 != 0) = false := by simp [kz]
  have HV : Hid (rD c A n = Bq (jF c.line (opR c).1)) := lH (by rw [vG (by rw [HFE.out QX.out, kz]; rfl), Es QX.out kz])
  unfold Bq at HV
  generalize jF c.line (opR c).1 = z at *
  clear km kz
  go_wp2_with fail
  refine (HL.out _).mono ?_; rintro e w3 ⟨rfl, hb⟩
  replace hb := gW B2 bk br bv hb
  try clear cbk lbk fbk cbr lbr fbr cbv lbv fbv
  clear bk br bv
  obtain ⟨B3, bk, cbk, lbk, fbk, br, cbr, lbr, fbr, bv, cbv, lbv, fbv⟩ := hb
  go_wp2_with fail
  have hF := (((((((br.aF 0 (.int i64 z.kind)).aF 1 (.int i64 z.op)).aF 2 (.int i64 z.number)).aF 3 (.int i64 z.line)).aF 4 (.string z.text)).aF 5 (.slice none 0 0)).alloc (.cells (aB z.kind z.op z.number z.line z.text none 0 0) 43))
  have cF := hF.cell
  refine bodyPost_ret (v := .agg (aB z.kind z.op z.number z.line z.text none 0 0)) ?_ rfl ⟨?_, ?_⟩
  ·exact yO
  ·rw [HV.out]
  exact ji
 have ez : ((opR c).2 != 0) = true := by simpa using kz
 have HV := lH (yt (A := A) (n := n) (c := c) (by rw [HFE.out QX.out]; simp [km, kz]))
 generalize jF c.line (opR c).1 = z at *
 clear km kz
 go_wp2_with fail
 refine (HL.out _).mono ?_; rintro e w3 ⟨rfl, hb⟩
 replace hb := gW B2 bk br bv hb
 try clear cbk lbk fbk cbr lbr fbr cbv lbv fbv
 clear bk br bv
 obtain ⟨B3, bk, cbk, lbk, fbk, br, cbr, lbr, fbr, bv, cbv, lbv, fbv⟩ := hb
 go_wp2_with fail
 have hF := (((((((br.aF 0 (.int i64 c.kind)).aF 1 (.int i64 c.op)).aF 2 (.int i64 c.number)).aF 3 (.int i64 c.line)).aF 4 (.string c.text)).aF 5 (.slice A c.kids.length n)).alloc (.cells (aB z.kind z.op z.number z.line z.text none 0 0) 43))
 have cF := hF.cell
 refine bodyPost_ret (v := .agg (aB c.kind c.op c.number c.line c.text A c.kids.length n)) ?_ rfl ⟨?_, ?_⟩
 ·exact yO
 ·rw [HV.out]
 exact ji
def Ta (lo : Nat) (c : ak) (w : World) (e : Ending) (w' : World) : Prop := ∃ cs : List Value, e = .returned (.agg cs.toArray) ∧ eu w' lo w'.heap.size c.aG cs ∧ Below w.heap.size w w'
theorem E9 {c x : ak} (h : fF c.kids.length 0 c.kids = [x]) : iL c = x := by unfold iL; rw [h]
theorem Et {c : ak} {l : List ak} (h : fF c.kids.length 0 c.kids = l) (hl : ¬ l.length = 1) : iL c = c.with l := by
 unfold iL; rw [h]
 match l with
 | [] => rfl
 | [x] => exact absurd rfl hl
 | x :: y :: l => rfl
theorem Eu (c : ak) (A : Option Addr) (n : Nat) (w : World) (lo : Nat) (hlo : lo ≤ w.heap.size) (ho : eu w lo w.heap.size c.aG [Value.int i64 c.kind, .int i64 c.op, .int i64 c.number, .int i64 c.line, .string c.text, .slice A c.kids.length n]) (hl : c.kids.length ≤ 34359738368) :
 Calls Tryz.prog 66 #[.agg (aB c.kind c.op c.number c.line c.text A c.kids.length n)] w (Ta lo (iL c) w) := by
 obtain ⟨F, ho, hnd, hF⟩ := ho
 obtain ⟨A', n', F', rfl, he, hk⟩ := ak.pK ho
 have he' : Value.slice A c.kids.length n = .slice A' c.kids.length n' := by have := congrArg (fun l => l[5]?) he; simpa using this
 injection he' with e1 e2 e3
 subst e1 e3
 clear he e2
 obtain ⟨t, ls, F', hrow, rfl, hels⟩ := hk.uG
 have hnd' := (List.nodup_append.1 hnd).2.1
 have hF' : ∀ g ∈ F', lo ≤ g ∧ g < w.heap.size := fun g hg => hF g (List.mem_append_right _ hg)
 clear ho hk hnd hF
 obtain ⟨bk, br, B0⟩ := kK w 43 (aB c.kind c.op c.number c.line c.text A c.kids.length n) 43 (aB 0 0 0 0 ⟨#[]⟩ none 0 0)
 go_in
 go_wp2_with fail
 have jQ := World.ownsRow_made (base := w.heap.size + 2) (e := 43) (size := 6) ((w.alloc (.cells (aB c.kind c.op c.number c.line c.text A c.kids.length n) 43)).alloc (.cells (aB 0 0 0 0 aC none 0 0) 43)) #[] 0 av jG rfl
 have B1 : Below w.heap.size w (((w.alloc (.cells (aB c.kind c.op c.number c.line c.text A c.kids.length n) 43)).alloc (.cells (aB 0 0 0 0 aC none 0 0) 43)).alloc (.cells #[] 43)) := B0.alloc aJ _
 have P0 : Hid (sH w.heap.size (w.heap.size + 2) lo 43 (((w.alloc (.cells (aB c.kind c.op c.number c.line c.text A c.kids.length n) 43)).alloc (.cells (aB 0 0 0 0 aC none 0 0) 43)).alloc (.cells #[] 43)) c.kids ls 0 [] (.slice (some (aj (w.heap.size + 2) 0)) 0 0) []) := sH.start (hels.kept fun g hg => B1.block g (hF' g hg).2) hnd' hF' (by simpa using jQ)
 have bk0 := bk.alloc (.cells #[] 43)
 have br0 := br.alloc (.cells #[] 43)
 have HP : Hid (fF c.kids.length 0 c.kids = [] ++ fF c.kids.length 0 (c.kids.drop 0)) := by show _ = _; simp
 clear jQ hels hnd' hF' bk br B0
 go_loopw [3, 14] (fun v i wr => ∃ (k : Nat) (l' : List ak) (vs : List Value), k ≤ c.kids.length ∧ i = .int i64 k ∧ Hid (sH w.heap.size (w.heap.size + 2) lo 43 wr c.kids ls k l' v vs) ∧ Hid (fF c.kids.length 0 c.kids = l' ++ fF c.kids.length k (c.kids.drop k)) ∧ l'.length ≤ k ∧ Below w.heap.size w wr ∧ Blk wr w.heap.size 43 (aB c.kind c.op c.number c.line c.text A c.kids.length n) ∧ Blk wr (w.heap.size + 1) 43 (aB 0 0 0 0 aC none 0 0) ∧ w.heap.size + 3 ≤ wr.heap.size) (fun _ i _ => c.kids.length - (intOf i).toNat)
 case atStart => exact ⟨0, [], [], nZ _, rfl, P0, HP, nR _, B1, bk0, br0, av⟩
 clear P0 HP B1 bk0 br0
 obtain ⟨k, l', vs, hkl, rfl, hP, hK, hlk, B1, bk, br, hsz⟩ := hrel
 obtain ⟨cbk, lbk, fbk⟩ := bk.all
 obtain ⟨cbr, lbr, fbr⟩ := br.all
 by_cases hlt : k < c.kids.length
 ·obtain ⟨x, hx⟩ : ∃ x, c.kids[k]? = some x := ⟨_, gE hlt⟩
  obtain ⟨va, Ax, nx, vb, hls, hva⟩ := hP.out.at_ hx
  obtain ⟨g, cap, hv, -⟩ := hrow.form ah
  injection hv with hv1 hv2 hv3
  subst hv1 hv3
  clear hv2
  have hrw := Si (fA hrow B1) hls
  have q0 : wr.cell? (aj g (k * 6)) = some (.int i64 x.kind) := by simpa using pY hrw hva (i := 0) ah rfl
  have q1 : wr.cell? (aj g (k * 6 + 1)) = some (.int i64 x.op) := pY hrw hva (i := 1) ah rfl
  have q2 : wr.cell? (aj g (k * 6 + 2)) = some (.int i64 x.number) := pY hrw hva (i := 2) ah rfl
  have q3 : wr.cell? (aj g (k * 6 + 3)) = some (.int i64 x.line) := pY hrw hva (i := 3) ah rfl
  have q4 : wr.cell? (aj g (k * 6 + 4)) = some (.string x.text) := pY hrw hva (i := 4) ah rfl
  have q5 : wr.cell? (aj g (k * 6 + 5)) = some (.slice Ax x.kids.length nx) := pY hrw hva (i := 5) ah rfl
  have HX := lH hx
  have HLS := lH (And.intro hls hva)
  have HN := lH (Ni (n := c.kids.length) hx)
  have hown := hP.out.own
  obtain ⟨v0, n0, hvv, -⟩ : ∃ v0 n0, u3 = .slice v0 l'.length n0 ∧ True := by obtain ⟨v0, n0, h0, -⟩ := (Rds.dU hown).shape; exact ⟨v0, n0, h0, trivial⟩
  subst hvv
  have hwn : IntKind.i64.wrap ((c.kids.length : Int) - 1) = (c.kids.length : Int) - 1 := IntWalk.i64_in _ ah
  clear hls hva hx hrw
  have hN := HN.out
  clear HN
  have HN := hN
  clear hN
  have bX : Below wr.heap.size wr (wr.alloc (.cells (aB x.kind x.op x.number x.line x.text Ax x.kids.length nx) 43)) := bA _ _
  have bx := Blk.new wr 43 (aB x.kind x.op x.number x.line x.text Ax x.kids.length nx)
  have cx := bx.cell
  by_cases hlast : k + 1 = c.kids.length
  ·have ek : ((k : Int) == (c.kids.length : Int) - 1) = true := by simp; omega
   have HKB : Hid (rR c.kids.length k x = true) := by show _ = _; unfold rR; rw [dT hlast]; rfl
   clear hlast
   rw [if_pos HKB.out] at HN
   have jD := fA hown bX
   have hroom : (l'.length + 1) * 72 ≤ 140737488355328 := ah
   have hbase : w.heap.size + 2 ≤ (wr.alloc (.cells (aB x.kind x.op x.number x.line x.text Ax x.kids.length nx) 43)).heap.size := by have := bX.size; omega
   go_wp2_with (first | (at_builtin; refine vv (wr.heap.size + 1) av rfl (.tmp 33) (.tmp 35) 41 rfl 43 _ 6 72 ow Tryz.underlying41 rfl aA aA (w.heap.size + 2) _ _ _ rfl jD (aB x.kind x.op x.number x.line x.text Ax x.kids.length nx) 1 _ rfl rfl eZ hroom hbase ?_))
   exact NT
  have ek : ((k : Int) == (c.kids.length : Int) - 1) = false := aJ
  have HC := lH (fun W : World => oH x Ax x.kids.length nx W)
  have HB : Hid (rR c.kids.length k x = (!pz x && !decide (x.kind = 28))) := by show _ = _; unfold rR; rw [dF hlast]; rfl
  clear hlast
  cases hlx : pz x with
  | true =>
    rw [hlx] at HC HB
    have HKB : Hid (rR c.kids.length k x = false) := lH (by rw [HB.out]; rfl)
    exact NU
  | false =>
    rw [hlx] at HC HB
    by_cases k28 : x.kind = 28
    ·have e28 : (x.kind != 28) = false := by simp [k28]
     have HKB : Hid (rR c.kids.length k x = false) := lH (by rw [HB.out, dT k28]; rfl)
     clear k28
     exact NU
    have e28 : (x.kind != 28) = true := by simpa using k28
    have HKB : Hid (rR c.kids.length k x = true) := lH (by rw [HB.out, dF k28]; rfl)
    clear k28
    clear hlx HB
    go_wp2_with fail
    refine (HC.out _).mono ?_; rintro e w2 ⟨rfl, hb2⟩
    replace bX := bX.trans (hb2.mono bX.size)
    replace bx := bx.later hb2
    clear hb2 cx q0 q1 q2 q3 q4 q5 cbk fbk cbr fbr
    have cx := bx.cell
    rw [if_pos HKB.out] at HN
    have jD := fA hown bX
    have hroom : (l'.length + 1) * 72 ≤ 140737488355328 := ah
    have hbase : w.heap.size + 2 ≤ w2.heap.size := by have := bX.size; omega
    go_wp2_with (first | (at_builtin; refine vv w2.heap.size av rfl (.tmp 33) (.tmp 35) 41 rfl 43 _ 6 72 ow Tryz.underlying41 rfl aA aA (w.heap.size + 2) _ _ _ rfl jD (aB x.kind x.op x.number x.line x.text Ax x.kids.length nx) 1 _ rfl rfl eZ hroom hbase ?_))
    exact NT
 obtain rfl : k = c.kids.length := by omega
 have HKL : Hid (fF c.kids.length 0 c.kids = l') := by have h := hK.out; rw [List.drop_length, fF, List.append_nil] at h; exact h
 have hM := hP.out.made ah ah
 have hown := hP.out.own
 obtain ⟨v0, n0, hvv, -⟩ : ∃ v0 n0, u3 = .slice v0 l'.length n0 ∧ True := by obtain ⟨v0, n0, h0, -⟩ := (Rds.dU hown).shape; exact ⟨v0, n0, h0, trivial⟩
 subst hvv
 clear hK hlt hown
 by_cases h1 : l'.length = 1
 ·obtain ⟨x, rfl⟩ : ∃ x, l' = [x] := by match l', h1 with | [x], _ => exact ⟨x, rfl⟩
  obtain ⟨g, cap, Ax, nx, hv, hg, hc, hX⟩ := hM.elem (j := 0) rfl
  injection hv with hv1 hv2 hv3
  subst hv1 hv3
  have q0 : wr.cell? (aj g 0) = some (.int i64 x.kind) := by simpa using hc 0 _ rfl
  have q1 : wr.cell? (aj g 1) = some (.int i64 x.op) := by simpa using hc 1 _ rfl
  have q2 : wr.cell? (aj g 2) = some (.int i64 x.number) := by simpa using hc 2 _ rfl
  have q3 : wr.cell? (aj g 3) = some (.int i64 x.line) := by simpa using hc 3 _ rfl
  have q4 : wr.cell? (aj g 4) = some (.string x.text) := by simpa using hc 4 _ rfl
  have q5 : wr.cell? (aj g 5) = some (.slice Ax x.kids.length nx) := by simpa using hc 5 _ rfl
  have HR := lH (E9 HKL.out)
  have HM := lH hX
  clear hM hX hc h1 hv2
  go_wp2_with fail
  have hF := ((((((br.aF 0 (.int i64 x.kind)).aF 1 (.int i64 x.op)).aF 2 (.int i64 x.number)).aF 3 (.int i64 x.line)).aF 4 (.string x.text)).aF 5 (.slice Ax x.kids.length nx))
  have cF := hF.cell
  refine bodyPost_ret (v := .agg (aB x.kind x.op x.number x.line x.text Ax x.kids.length nx)) ?_ rfl ⟨((aB x.kind x.op x.number x.line x.text Ax x.kids.length nx : Array Value) : Array Value).toList, rfl, ?_, ?_⟩
  ·simp [results, Tryz.results66, go_sem, cF]
  ·rw [HR.out]
   exact (((((((HM.out.aF (p := ⟨w.heap.size + 1, 0, none⟩) dn _).aF (p := ⟨w.heap.size + 1, 1, none⟩) dn _).aF (p := ⟨w.heap.size + 1, 2, none⟩) dn _).aF (p := ⟨w.heap.size + 1, 3, none⟩) dn _).aF (p := ⟨w.heap.size + 1, 4, none⟩) dn _).aF (p := ⟨w.heap.size + 1, 5, none⟩) dn _)).weak fun g hg => ⟨hg.1, by simp; exact hg.2.1⟩
  exact vN
 have HR := lH (Et HKL.out h1)
 have e1 : ((l'.length : Int) == 1) = false := aJ
 have HM := lH hM
 clear hM h1
 go_wp2_with fail
 have hF := (((((((br.far (p := ⟨w.heap.size, 5, none⟩) av (.slice v0 l'.length n0)).aF 0 (.int i64 c.kind)).aF 1 (.int i64 c.op)).aF 2 (.int i64 c.number)).aF 3 (.int i64 c.line)).aF 4 (.string c.text)).aF 5 (.slice v0 l'.length n0))
 have cF := hF.cell
 refine bodyPost_ret (v := .agg (aB c.kind c.op c.number c.line c.text v0 l'.length n0)) ?_ rfl ⟨((aB c.kind c.op c.number c.line c.text v0 l'.length n0 : Array Value) : Array Value).toList, rfl, ?_, ?_⟩
 ·simp [results, Tryz.results66, go_sem, cF]
 ·rw [HR.out]
  exact ((((((((HM.out.node (c := c).aF (p := ⟨w.heap.size, 5, none⟩) dn _).aF (p := ⟨w.heap.size + 1, 0, none⟩) dn _).aF (p := ⟨w.heap.size + 1, 1, none⟩) dn _).aF (p := ⟨w.heap.size + 1, 2, none⟩) dn _).aF (p := ⟨w.heap.size + 1, 3, none⟩) dn _).aF (p := ⟨w.heap.size + 1, 4, none⟩) dn _).aF (p := ⟨w.heap.size + 1, 5, none⟩) dn _)).weak fun g hg => ⟨hg.1, by simp; exact hg.2.1⟩
 repeat' first | with_reducible exact B1 | with_reducible refine Below.setCell ?_ BM _
def IB (c : ak) : Prop := ∀ (A : Option Addr) (n : Nat) (w : World) (lo hi : Nat) (h : aW w lo hi 6 ak.aG (.slice A c.kids.length n) c.kids) (hhi : hi ≤ w.heap.size) (hc : kg c) (hbk : c.bI ≤ 34359738368) (hst : bT w) (ht : jw w),
 Calls Tryz.prog 32 #[.agg (aB c.kind c.op c.number c.line c.text A c.kids.length n)] w (FK ak.aG (aX c) w)
theorem IC {l : List ak} {k : Nat} {x : ak} (h : l[k]? = some x) : (l.take (k + 1)).map aX = (l.take k).map aX ++ [aX x] := by rw [gB h, List.map_append]; rfl
theorem nS.P7 {w : World} {P : Nat → Prop} {lo hi : Nat} {l : List ak} {v : Value} (h : nS w P [.row 6 l.length (flat ak.aG l)] [v]) (hp : ∀ g, P g → lo ≤ g ∧ g < hi) : aW w lo hi 6 ak.aG v l := by
 obtain ⟨F, h1, h2, h3⟩ := h
 obtain ⟨F1, F2, v', vs', rfl, hv, h4, h5⟩ := h1.out
 injection hv with hv1 hv2
 subst hv1 hv2
 exact h4.rep fun g hg => hp g (h3 g (List.mem_append_left _ hg))
theorem Tc {w : World} {P : Nat → Prop} {y : ak} (h : y.kids = []) : nS w P y.aG [Value.int i64 y.kind, .int i64 y.op, .int i64 y.number, .int i64 y.line, .string y.text, .slice none 0 0] := by
 have H : aO w [.int i64 y.kind, .int i64 y.op, .int i64 y.number, .int i64 y.line, .str y.text, .row 6 0 []] [] [Value.int i64 y.kind, .int i64 y.op, .int i64 y.number, .int i64 y.line, .string y.text, .slice none 0 0] := aO.aN (F1 := []) .mkInt (aO.aN (F1 := []) .mkInt (aO.aN (F1 := []) .mkInt (aO.aN (F1 := []) .mkInt (aO.aN (F1 := []) .mkStr (aO.aN (F1 := []) dK.rH .eO)))))
 exact ⟨[], by rw [ak.mX, h]; exact H, List.nodup_nil, av⟩
theorem Mh {c : ak} (h : oI c = true) : (lG c).kids = [] := by
 have ha : c.kids.all pz = true := by unfold oI at h; simp only [Bool.and_eq_true] at h; exact h.1
 rw [Er ha] at h
 by_cases k : (opR c).2 = -1
 ·rw [Br ha k]; rfl
 have k0 : (opR c).2 = 0 := by simpa [k] using h
 rw [Es ha k0]
 cases (opR c).1 <;> rfl
theorem Mi {c : ak} (h : c.kind = 11) : eH c = lG c := by unfold eH; rw [if_pos h]
theorem Mj {c : ak} (h : c.kind = 13) : eH c = tQ c := by unfold eH; rw [if_neg ah, if_pos h]
theorem Mk {c : ak} (h : c.kind = 16) : eH c = iL c := by unfold eH; rw [if_neg ah, if_neg ah, if_pos h]
theorem Ml {c : ak} (h : c.kind = 17) : eH c = xN c := by unfold eH; rw [if_neg ah, if_neg ah, if_neg ah, if_pos h]
theorem Mm {c : ak} (h1 : ¬ c.kind = 11) (h2 : ¬ c.kind = 13) (h3 : ¬ c.kind = 16) (h4 : ¬ c.kind = 17) : eH c = c := by unfold eH; rw [if_neg h1, if_neg h2, if_neg h3, if_neg h4]
theorem Mq (c : ak) (H : ∀ x ∈ c.kids, IB x) : IB c := by
 intro A n w lo hi hk hhi hfc hbk hst ht
 obtain ⟨A', n', hv, hc1, hc2⟩ := hk.shape
 injection hv with hv1 hv2 hv3
 subst hv1 hv3
 unfold maxLen at hc2
 have HH := lH H
 have HFC := lH hfc
 rw [ak.kX] at hbk
 have hb1 : c.kids.length ≤ 34359738368 := ah
 have HBK : Hid (∀ x ∈ c.kids, x.bI ≤ 34359738368) := fun x hx => by have := qo hx; omega
 clear H hfc hbk hv2
 obtain ⟨bk, br, B0⟩ := kK w 43 (aB c.kind c.op c.number c.line c.text A c.kids.length n) 43 (aB 0 0 0 0 ⟨#[]⟩ none 0 0)
 go_in
 go_wp2_with fail
 have jQ := World.ownsRow_made (base := w.heap.size + 2) (e := 43) (size := 6) ((w.alloc (.cells (aB c.kind c.op c.number c.line c.text A c.kids.length n) 43)).alloc (.cells (aB 0 0 0 0 aC none 0 0) 43)) #[] 0 av jG rfl
 have B1 : Below w.heap.size w (((w.alloc (.cells (aB c.kind c.op c.number c.line c.text A c.kids.length n) 43)).alloc (.cells (aB 0 0 0 0 aC none 0 0) 43)).alloc (.cells #[] 43)) := B0.alloc aJ _
 have P0 : Hid (Grow (w.heap.size + 2) 43 6 ak.aG (((w.alloc (.cells (aB c.kind c.op c.number c.line c.text A c.kids.length n) 43)).alloc (.cells (aB 0 0 0 0 aC none 0 0) 43)).alloc (.cells #[] 43)) ((c.kids.take 0).map aX) (.slice (some (aj (w.heap.size + 2) 0)) 0 0) []) := Grow.start (by simpa using jQ)
 have bk0 := bk.alloc (.cells #[] 43)
 have br0 := br.alloc (.cells #[] 43)
 clear jQ bk br B0
 go_loopw [3, 10] (fun v i wr => ∃ (k : Nat) (vs : List Value), k ≤ c.kids.length ∧ i = .int i64 k ∧ Hid (Grow (w.heap.size + 2) 43 6 ak.aG wr ((c.kids.take k).map aX) v vs) ∧ Below w.heap.size w wr ∧ Blk wr w.heap.size 43 (aB c.kind c.op c.number c.line c.text A c.kids.length n) ∧ Blk wr (w.heap.size + 1) 43 (aB 0 0 0 0 aC none 0 0) ∧ w.heap.size + 3 ≤ wr.heap.size) (fun _ i _ => c.kids.length - (intOf i).toNat)
 case atStart => exact ⟨0, [], nZ _, rfl, P0, B1, bk0, br0, av⟩
 clear P0 B1 bk0 br0
 obtain ⟨k, vs, hkl, rfl, hP, B1, bk, br, hsz⟩ := hrel
 have hln : ((c.kids.take k).map aX).length = k := by rw [List.length_map, List.length_take]; omega
 have HLN := lH hln
 have hown := hP.out.own
 rw [hln] at hown
 clear hln
 obtain ⟨cbk, lbk, fbk⟩ := bk.all
 obtain ⟨cbr, lbr, fbr⟩ := br.all
 obtain ⟨v0, n0, hvv, -⟩ : ∃ v0 n0, u3 = .slice v0 k n0 ∧ True := by obtain ⟨v0, n0, h0, -⟩ := (Rds.dU hown).shape; exact ⟨v0, n0, h0, trivial⟩
 subst hvv
 by_cases hlt : k < c.kids.length
 ·obtain ⟨x, hx⟩ : ∃ x, c.kids[k]? = some x := ⟨_, gE hlt⟩
  have hkr := hk.below B1 hhi
  have hiw : hi ≤ wr.heap.size := nT hhi B1.size
  obtain ⟨g, off, Ax, nx, rfl, hg1, hg2, hmem, hcr, q0, q1, q2, q3, q4, q5⟩ := ak.at_ hkr hx
  have bX : Below wr.heap.size wr (wr.alloc (.cells (aB x.kind x.op x.number x.line x.text Ax x.kids.length nx) 43)) := bA _ _
  have bx := Blk.new wr 43 (aB x.kind x.op x.number x.line x.text Ax x.kids.length nx)
  have cx := bx.cell
  have HC : Hid (Calls Tryz.prog 32 #[.agg (aB x.kind x.op x.number x.line x.text Ax x.kids.length nx)] (wr.alloc (.cells (aB x.kind x.op x.number x.line x.text Ax x.kids.length nx) 43)) (FK ak.aG (aX x) (wr.alloc (.cells (aB x.kind x.op x.number x.line x.text Ax x.kids.length nx) 43)))) := HH.out x hmem Ax nx _ lo hi ((ak.rows hcr).below bX hiw) aJ (HFC.out.kids x hmem) (HBK.out x hmem) (hst.later (B1.trans (bX.mono B1.size))) (ht.later (B1.trans (bX.mono B1.size)))
  have HX := lH (IC hx)
  clear hkr hcr hmem hx
  go_wp2_with fail
  refine HC.out.mono ?_; rintro e w2 ⟨cs, rfl, ⟨G, hG1, hG2, hG3⟩, hb2⟩
  obtain ⟨Ay, ny, G', rfl, rfl, hG4⟩ := ak.pK hG1
  clear hG4
  have b2 := bX.trans (hb2.mono bX.size)
  have hbs := hb2.size
  clear cx bx HC q0 q1 q2 q3 q4 q5 cbk fbk cbr fbr hb2
  have jD := fA hown b2
  have hroom : (k + 1) * 72 ≤ 140737488355328 := ah
  have hbase : w.heap.size + 2 ≤ w2.heap.size := by have := b2.size; omega
  go_wp2_with (first | (at_builtin; refine dO rfl (.tmp 14) (.tmp 17) 41 rfl 43 _ 6 72 ow Tryz.underlying41 rfl aA aA (w.heap.size + 2) _ _ _ rfl jD (aB ((aX x).kind) ((aX x).op) ((aX x).number) ((aX x).line) ((aX x).text) Ay ((aX x).kids.length) ny) 1 _ rfl rfl eZ hroom hbase ?_))
  intro v' w3 mP hgr hat
  have HP3 : Hid (Grow (w.heap.size + 2) 43 6 ak.aG w3 ((c.kids.take (k + 1)).map aX) v' (vs ++ [Value.int i64 (aX x).kind, .int i64 (aX x).op, .int i64 (aX x).number, .int i64 (aX x).line, .string (aX x).text, .slice Ay (aX x).kids.length ny])) := by
   show Grow _ _ _ _ _ _ _ _
   rw [HX.out]
   exact hP.out.push b2 ah hG1 hG2 (fun g hg => by have := (hG3 g hg).1; simp at this; omega) (by rw [HLN.out]; exact mP) hgr hat
  have B3 : Below w.heap.size w w3 := (B1.trans (b2.mono B1.size)).grown hgr (by have := b2.size; omega) (fun b hb => by have := (hown.lt b hb).1; omega)
  have bk3 := (bk.below b2 lbk).grown hgr BL
  have br3 := (br.below b2 lbr).grown hgr BL
  have hs3 : w.heap.size + 3 ≤ w3.heap.size := by have := b2.size; have := hgr.size; omega
  clear mP hgr hat jD hown hG1 hG2 hG3 HX
  go_wp2_with fail
  go_roundw
  case rel => exact ⟨k + 1, _, ah, by go_num, HP3, B3, bk3, br3, hs3⟩
  simp [intOf] <;> omega
 obtain rfl : k = c.kids.length := by omega
 have hM : nS wr (fun g => w.heap.size + 2 ≤ g ∧ g < wr.heap.size) [.row 6 (c.kids.map aX).length (flat ak.aG (c.kids.map aX))] [.slice v0 c.kids.length n0] := by
  have h := hP.out
  rw [List.take_length] at h
  obtain ⟨F, f1, f2, f3⟩ := h.made
  exact ⟨F ++ [], aO.aN f1 .eO, by simpa using f2, fun g hg => f3 g jK⟩
 have hLL : (c.kids.map aX).length = c.kids.length := List.length_map ..
 have HT := lH (pE c)
 have HLL := lH hLL
 have HM0 := lH hM
 clear hP hown hlt HLN hLL hM hk HH HBK
 go_upto_if 22 with fail
 go_cut [3] (fun v wx => wx = wr ∧ ∃ v1 n1, v = .slice v1 c.kids.length n1 ∧ Hid (nS wr (fun g => w.heap.size + 2 ≤ g ∧ g < wr.heap.size) [.row 6 (c.kids.map aX).length (flat ak.aG (c.kids.map aX))] [v]))
 case first =>
  by_cases z : c.kids.length = 0
  ·have ez : ((c.kids.length : Int) == 0) = true := beq_iff_eq.2 ah
   have HN : Hid (∃ v1 n1, Value.slice none 0 0 = .slice v1 c.kids.length n1 ∧ Hid (nS wr (fun g => w.heap.size + 2 ≤ g ∧ g < wr.heap.size) [.row 6 (c.kids.map aX).length (flat ak.aG (c.kids.map aX))] [Value.slice none 0 0])) := by
    have h0 : c.kids = [] := List.eq_nil_of_length_eq_zero z
    refine ⟨none, 0, by rw [z], ?_⟩
    show nS _ _ _ _
    rw [h0]
    exact ⟨[], aO.aN (show dK wr (.row 6 0 []) [] (Value.slice none 0 0) from dK.rH) .eO, List.nodup_nil, av⟩
   clear z
   go_wp2_with fail
   go_meet
   exact ⟨rfl, HN.out⟩
  have ez : ((c.kids.length : Int) == 0) = false := bF ah
  clear z
  go_wp2_with fail
  go_meet
  exact ⟨rfl, _, _, rfl, HM0⟩
 obtain ⟨rfl, v1, n1, rfl, HM⟩ := hcut
 have hk5 := HM.out.node (c := c)
 have Qb := hst.below B1 hst.2
 have ht1 := ht.below B1 ht.2
 have HW : Hid (nS (wc.setCell (aj w.heap.size 5) (.slice v1 c.kids.length n1)) (fun g => w.heap.size + 2 ≤ g ∧ g < wc.heap.size) [.row 6 (c.kids.map aX).length (flat ak.aG (c.kids.map aX))] [.slice v1 c.kids.length n1]) := HM.out.aF (p := ⟨w.heap.size, 5, none⟩) dn _
 have BW : Below w.heap.size w (wc.setCell (aj w.heap.size 5) (.slice v1 c.kids.length n1)) := B1.setCell (nR _) _
 have hsW : (wc.setCell (aj w.heap.size 5) (.slice v1 c.kids.length n1)).heap.size = wc.heap.size := by simp [World.setCell]
 by_cases k16 : c.kind = 16
 ·have e11 : (c.kind == 11) = false := by simp [k16]
  have e13 : (c.kind == 13) = false := by simp [k16]
  have e16 : (c.kind == 16) = true := by simp [k16]
  have HR : Hid (aX c = iL (c.with (c.kids.map aX))) := HT.out.trans (Mk (c := c.with (c.kids.map aX)) k16)
  have HC : Hid (Calls Tryz.prog 66 #[.agg (aB c.kind c.op c.number c.line c.text v1 c.kids.length n1)] (wc.setCell (aj w.heap.size 5) (.slice v1 c.kids.length n1)) (Ta (w.heap.size + 2) (iL (c.with (c.kids.map aX))) (wc.setCell (aj w.heap.size 5) (.slice v1 c.kids.length n1)))) := by
   have h := Eu (c.with (c.kids.map aX)) v1 n1 (wc.setCell (aj w.heap.size 5) (.slice v1 c.kids.length n1)) (w.heap.size + 2) (by rw [hsW]; omega) (by rw [show (c.with (c.kids.map aX)).kids.length = c.kids.length from HLL.out]; exact (HW.out.node (c := c)).weak fun g hg => by rw [hsW]; exact hg) (by rw [show (c.with (c.kids.map aX)).kids.length = c.kids.length from HLL.out]; exact hb1)
   exact Jw
  generalize iL (c.with (c.kids.map aX)) = y at *
  clear k16 hk5
  go_wp2_with fail
  refine HC.out.mono ?_; rintro e w2 ⟨cs, rfl, hO2, hb2⟩
  obtain ⟨G, hG1, hG2, hG3⟩ := hO2
  obtain ⟨Ay, ny, G', hGG, rfl, hG4⟩ := ak.pK hG1
  have HO : Hid (nS w2 (fun g => w.heap.size + 2 ≤ g ∧ g < w2.heap.size) y.aG _) := ⟨G, hG1, hG2, hG3⟩
  clear hG4 hGG hG1 hG2 hG3
  have B2 : Below w.heap.size w w2 := BW.trans (hb2.mono BW.size)
  have br2 := (br.far (p := ⟨w.heap.size, 5, none⟩) av (.slice v1 c.kids.length n1)).later hb2
  have hs2 := hb2.size
  rw [hsW] at hs2
  clear cbr fbr lbr cbk fbk lbk
  obtain ⟨cbr, lbr, fbr⟩ := br2.all
  go_wp2_with fail
  have hF := ((((((br2.aF 0 (.int i64 y.kind)).aF 1 (.int i64 y.op)).aF 2 (.int i64 y.number)).aF 3 (.int i64 y.line)).aF 4 (.string y.text)).aF 5 (.slice Ay y.kids.length ny))
  have cF := hF.cell
  refine bodyPost_ret (v := .agg (aB y.kind y.op y.number y.line y.text Ay y.kids.length ny)) ?_ rfl ⟨((aB y.kind y.op y.number y.line y.text Ay y.kids.length ny : Array Value) : Array Value).toList, rfl, ?_, ?_⟩
  ·exact oL
  ·exact vJ
  exact vM
 by_cases k11 : c.kind = 11
 ·have e11 : (c.kind == 11) = true := by simp [k11]
  have hT : aX c = lG (c.with (c.kids.map aX)) := HT.out.trans (Mi (c := c.with (c.kids.map aX)) k11)
  have HC : Hid (Calls Tryz.prog 65 #[.agg (aB c.kind c.op c.number c.line c.text v1 c.kids.length n1)] (wc.setCell (aj w.heap.size 5) (.slice v1 c.kids.length n1)) (Gives (rD (c.with (c.kids.map aX)) v1 n1) (wc.setCell (aj w.heap.size 5) (.slice v1 c.kids.length n1)))) := by
   obtain ⟨ho1, ho2⟩ := HFC.out.k11 k11
   have h := AZ (c.with (c.kids.map aX)) v1 n1 (wc.setCell (aj w.heap.size 5) (.slice v1 c.kids.length n1)) (w.heap.size + 2) wc.heap.size (by rw [show (c.with (c.kids.map aX)).kids.length = (c.kids.map aX).length from rfl]; have := HW.out.P7 (lo := w.heap.size + 2) (hi := wc.heap.size) (fun g hg => hg); rw [HLL.out]; exact this) (by rw [hsW]; exact nR _) ho1 (by rw [show (c.with (c.kids.map aX)).kids.length = c.kids.length from HLL.out]; exact ho2) (fun x hx => by obtain ⟨x0, hx0, rfl⟩ := List.mem_map.1 hx; exact wE (HFC.out.kids x0 hx0)) (hst.later BW) (ht.later BW)
   exact Jw
  cases hfb : oI (c.with (c.kids.map aX)) with
  | true =>
    have hV := vG (A := v1) (n := n1) hfb
    unfold Bq at hV
    rw [hV] at HC
    have hy := Mh hfb
    have HR := lH hT
    clear hV hfb hT
    generalize lG (c.with (c.kids.map aX)) = y at *
    have HY := lH hy
    clear k11 hk5 hy
    go_wp2_with fail
    refine HC.out.mono ?_; rintro e w2 ⟨rfl, hb2⟩
    have HO : Hid (nS w2 (fun g => w.heap.size + 2 ≤ g ∧ g < w2.heap.size) y.aG _) := Tc HY.out
    have B2 : Below w.heap.size w w2 := BW.trans (hb2.mono BW.size)
    have br2 := (br.far (p := ⟨w.heap.size, 5, none⟩) av (.slice v1 c.kids.length n1)).later hb2
    have hs2 := hb2.size
    rw [hsW] at hs2
    clear cbr fbr lbr cbk fbk lbk
    obtain ⟨cbr, lbr, fbr⟩ := br2.all
    go_wp2_with fail
    have hF := ((((((br2.aF 0 (.int i64 y.kind)).aF 1 (.int i64 y.op)).aF 2 (.int i64 y.number)).aF 3 (.int i64 y.line)).aF 4 (.string y.text)).aF 5 (.slice none 0 0))
    have cF := hF.cell
    refine bodyPost_ret (v := .agg (aB y.kind y.op y.number y.line y.text none 0 0)) ?_ rfl ⟨((aB y.kind y.op y.number y.line y.text none 0 0 : Array Value) : Array Value).toList, rfl, ?_, ?_⟩
    ·exact oL
    ·exact vJ
    exact vM
  | false =>
    have hV := yt (A := v1) (n := n1) hfb
    rw [show (c.with (c.kids.map aX)).kids.length = c.kids.length from HLL.out] at hV
    rw [hV] at HC
    have HR : Hid (aX c = c.with (c.kids.map aX)) := hT.trans (Mg hfb)
    clear hV hfb hT k11 hk5
    have HC' : Hid (Calls Tryz.prog 65 #[.agg (aB c.kind c.op c.number c.line c.text v1 c.kids.length n1)] (wc.setCell (aj w.heap.size 5) (.slice v1 c.kids.length n1)) (Gives (.agg (aB c.kind c.op c.number c.line c.text v1 c.kids.length n1)) (wc.setCell (aj w.heap.size 5) (.slice v1 c.kids.length n1)))) := HC
    clear HC
    go_wp2_with fail
    refine HC'.out.mono ?_; rintro e w2 ⟨rfl, hb2⟩
    have HO := lH ((HW.out.later hb2).node (c := c))
    have B2 : Below w.heap.size w w2 := BW.trans (hb2.mono BW.size)
    have br2 := (br.far (p := ⟨w.heap.size, 5, none⟩) av (.slice v1 c.kids.length n1)).later hb2
    have hs2 := hb2.size
    rw [hsW] at hs2
    clear cbr fbr lbr cbk fbk lbk
    obtain ⟨cbr, lbr, fbr⟩ := br2.all
    go_wp2_with fail
    have hF := ((((((br2.aF 0 (.int i64 c.kind)).aF 1 (.int i64 c.op)).aF 2 (.int i64 c.number)).aF 3 (.int i64 c.line)).aF 4 (.string c.text)).aF 5 (.slice v1 c.kids.length n1))
    have cF := hF.cell
    refine bodyPost_ret (v := .agg (aB c.kind c.op c.number c.line c.text v1 c.kids.length n1)) ?_ rfl ⟨((aB c.kind c.op c.number c.line c.text v1 c.kids.length n1 : Array Value) : Array Value).toList, rfl, ?_, ?_⟩
    ·exact oL
    ·exact vJ
    exact vM
 by_cases k13 : c.kind = 13
 ·have e11 : (c.kind == 11) = false := by simp [k13]
  have e13 : (c.kind == 13) = true := by simp [k13]
  have hT : aX c = tQ (c.with (c.kids.map aX)) := HT.out.trans (Mj (c := c.with (c.kids.map aX)) k13)
  have hlen : (c.kids.map aX).length = 2 := HLL.out.trans (HFC.out.k13 k13)
  obtain ⟨a, b, hab⟩ : ∃ a b, (c.kids.map aX) = [a, b] := by
   match (c.kids.map aX), hlen with
   | [a, b], _ => exact ⟨a, b, rfl⟩
  obtain ⟨g0, cap0, Aa, na, hv, hg0, hca, hOa⟩ := HW.out.elem (j := 0) (x := a) (by rw [hab]; rfl)
  injection hv with hv1 hv2 hv3
  subst hv1 hv3
  clear hv2
  obtain ⟨g1, aeM, Ab, nb, hv, hg1, hcb, hOb⟩ := HW.out.elem (j := 1) (x := b) (by rw [hab]; rfl)
  injection hv with hv1 hv2 hv3
  injection hv1 with hv1
  injection hv1 with hv1 hv4 hv5
  subst hv1
  clear hv2 hv3
  have qa0 : (wc.setCell (aj w.heap.size 5) (.slice (some (aj g0 0)) c.kids.length n1)).cell? (aj g0 0) = some (.int i64 a.kind) := by simpa using hca 0 _ rfl
  have qa1 : (wc.setCell (aj w.heap.size 5) (.slice (some (aj g0 0)) c.kids.length n1)).cell? (aj g0 1) = some (.int i64 a.op) := by simpa using hca 1 _ rfl
  have qa2 : (wc.setCell (aj w.heap.size 5) (.slice (some (aj g0 0)) c.kids.length n1)).cell? (aj g0 2) = some (.int i64 a.number) := by simpa using hca 2 _ rfl
  have qa3 : (wc.setCell (aj w.heap.size 5) (.slice (some (aj g0 0)) c.kids.length n1)).cell? (aj g0 3) = some (.int i64 a.line) := by simpa using hca 3 _ rfl
  have qa4 : (wc.setCell (aj w.heap.size 5) (.slice (some (aj g0 0)) c.kids.length n1)).cell? (aj g0 4) = some (.string a.text) := by simpa using hca 4 _ rfl
  have qa5 : (wc.setCell (aj w.heap.size 5) (.slice (some (aj g0 0)) c.kids.length n1)).cell? (aj g0 5) = some (.slice Aa a.kids.length na) := by simpa using hca 5 _ rfl
  have HOa := lH hOa
  have qb0 : (wc.setCell (aj w.heap.size 5) (.slice (some (aj g0 0)) c.kids.length n1)).cell? (aj g0 6) = some (.int i64 b.kind) := by simpa using hcb 0 _ rfl
  have qb1 : (wc.setCell (aj w.heap.size 5) (.slice (some (aj g0 0)) c.kids.length n1)).cell? (aj g0 7) = some (.int i64 b.op) := by simpa using hcb 1 _ rfl
  have qb2 : (wc.setCell (aj w.heap.size 5) (.slice (some (aj g0 0)) c.kids.length n1)).cell? (aj g0 8) = some (.int i64 b.number) := by simpa using hcb 2 _ rfl
  have qb3 : (wc.setCell (aj w.heap.size 5) (.slice (some (aj g0 0)) c.kids.length n1)).cell? (aj g0 9) = some (.int i64 b.line) := by simpa using hcb 3 _ rfl
  have qb4 : (wc.setCell (aj w.heap.size 5) (.slice (some (aj g0 0)) c.kids.length n1)).cell? (aj g0 10) = some (.string b.text) := by simpa using hcb 4 _ rfl
  have qb5 : (wc.setCell (aj w.heap.size 5) (.slice (some (aj g0 0)) c.kids.length n1)).cell? (aj g0 11) = some (.slice Ab b.kids.length nb) := by simpa using hcb 5 _ rfl
  have HOb := lH hOb
  have hL := HLL.out.symm.trans hlen
  have l0 : (0 : Int) < (c.kids.length : Int) := ah
  have l1 : (1 : Int) < (c.kids.length : Int) := ah
  have m0 : 0 < c.kids.length := ah
  have m1 : 1 < c.kids.length := ah
  clear hL hlen hca hOa hcb hOb
  have hF0 : aX c = if a.kind = 28 then b else if b.kind = 28 then a else c.with (c.kids.map aX) := by rw [hT]; unfold tQ; rw [show (c.with (c.kids.map aX)).kids = [a, b] from hab]
  have HK := lH hk5
  clear hT hab k11 k13 k16 hk5
  by_cases ka : a.kind = 28
  ·have ea : (a.kind == 28) = true := by simp [ka]
   have HR : Hid (aX c = b) := hF0.trans (if_pos ka)
   clear hF0 ka
   go_wp2_with fail
   have hF := (((((((br.far (p := ⟨w.heap.size, 5, none⟩) av (.slice (some (aj g0 0)) c.kids.length n1)).aF 0 (.int i64 b.kind)).aF 1 (.int i64 b.op)).aF 2 (.int i64 b.number)).aF 3 (.int i64 b.line)).aF 4 (.string b.text)).aF 5 (.slice Ab b.kids.length nb))
   have cF := hF.cell
   refine bodyPost_ret (v := .agg (aB b.kind b.op b.number b.line b.text Ab b.kids.length nb)) ?_ rfl ⟨((aB b.kind b.op b.number b.line b.text Ab b.kids.length nb : Array Value) : Array Value).toList, rfl, ?_, ?_⟩
   ·exact oL
   ·rw [HR.out]
    exact (((((((HOb.out.aF (p := ⟨w.heap.size + 1, 0, none⟩) dn _).aF (p := ⟨w.heap.size + 1, 1, none⟩) dn _).aF (p := ⟨w.heap.size + 1, 2, none⟩) dn _).aF (p := ⟨w.heap.size + 1, 3, none⟩) dn _).aF (p := ⟨w.heap.size + 1, 4, none⟩) dn _).aF (p := ⟨w.heap.size + 1, 5, none⟩) dn _)).weak fun g hg => ⟨ah, aJ⟩
   exact vN
  have ea : (a.kind == 28) = false := by simpa using ka
  by_cases kb : b.kind = 28
  ·have eb : (b.kind == 28) = true := by simp [kb]
   have HR : Hid (aX c = a) := hF0.trans ((if_neg ka).trans (if_pos kb))
   clear hF0 ka kb
   go_wp2_with fail
   have hF := (((((((br.far (p := ⟨w.heap.size, 5, none⟩) av (.slice (some (aj g0 0)) c.kids.length n1)).aF 0 (.int i64 a.kind)).aF 1 (.int i64 a.op)).aF 2 (.int i64 a.number)).aF 3 (.int i64 a.line)).aF 4 (.string a.text)).aF 5 (.slice Aa a.kids.length na))
   have cF := hF.cell
   refine bodyPost_ret (v := .agg (aB a.kind a.op a.number a.line a.text Aa a.kids.length na)) ?_ rfl ⟨((aB a.kind a.op a.number a.line a.text Aa a.kids.length na : Array Value) : Array Value).toList, rfl, ?_, ?_⟩
   ·exact oL
   ·rw [HR.out]
    exact (((((((HOa.out.aF (p := ⟨w.heap.size + 1, 0, none⟩) dn _).aF (p := ⟨w.heap.size + 1, 1, none⟩) dn _).aF (p := ⟨w.heap.size + 1, 2, none⟩) dn _).aF (p := ⟨w.heap.size + 1, 3, none⟩) dn _).aF (p := ⟨w.heap.size + 1, 4, none⟩) dn _).aF (p := ⟨w.heap.size + 1, 5, none⟩) dn _)).weak fun g hg => ⟨ah, aJ⟩
   exact vN
  have eb : (b.kind == 28) = false := by simpa using kb
  have HR : Hid (aX c = c.with (c.kids.map aX)) := hF0.trans ((if_neg ka).trans (if_neg kb))
  have HN := lH (HW.out.node (c := c))
  clear hF0 ka kb
  go_wp2_with fail
  have hF := (((((((br.far (p := ⟨w.heap.size, 5, none⟩) av (.slice (some (aj g0 0)) c.kids.length n1)).aF 0 (.int i64 c.kind)).aF 1 (.int i64 c.op)).aF 2 (.int i64 c.number)).aF 3 (.int i64 c.line)).aF 4 (.string c.text)).aF 5 (.slice (some (aj g0 0)) c.kids.length n1))
  have cF := hF.cell
  refine bodyPost_ret (v := .agg (aB c.kind c.op c.number c.line c.text (some (aj g0 0)) c.kids.length n1)) ?_ rfl ⟨((aB c.kind c.op c.number c.line c.text (some (aj g0 0)) c.kids.length n1 : Array Value) : Array Value).toList, rfl, ?_, ?_⟩
  ·exact oL
  ·rw [HR.out]
   exact (((((((HN.out.aF (p := ⟨w.heap.size + 1, 0, none⟩) dn _).aF (p := ⟨w.heap.size + 1, 1, none⟩) dn _).aF (p := ⟨w.heap.size + 1, 2, none⟩) dn _).aF (p := ⟨w.heap.size + 1, 3, none⟩) dn _).aF (p := ⟨w.heap.size + 1, 4, none⟩) dn _).aF (p := ⟨w.heap.size + 1, 5, none⟩) dn _)).weak fun g hg => ⟨ah, aJ⟩
  exact vN
 by_cases k17 : c.kind = 17
 ·have e11 : (c.kind == 11) = false := by simp [k17]
  have e13 : (c.kind == 13) = false := by simp [k17]
  have e16 : (c.kind == 16) = false := by simp [k17]
  have e17 : (c.kind == 17) = true := by simp [k17]
  have hT : aX c = xN (c.with (c.kids.map aX)) := HT.out.trans (Ml (c := c.with (c.kids.map aX)) k17)
  have hlen : (c.kids.map aX).length = 3 := HLL.out.trans (HFC.out.k17 k17)
  obtain ⟨a, b, d, hab⟩ : ∃ a b d, (c.kids.map aX) = [a, b, d] := by
   match (c.kids.map aX), hlen with
   | [a, b, d], _ => exact ⟨a, b, d, rfl⟩
  obtain ⟨g0, cap0, Aa, na, hv, hg0, hca, hOa⟩ := HW.out.elem (j := 0) (x := a) (by rw [hab]; rfl)
  injection hv with hv1 hv2 hv3
  subst hv1 hv3
  clear hv2
  obtain ⟨g1, aeM, Ab, nb, hv, hg1, hcb, hOb⟩ := HW.out.elem (j := 1) (x := b) (by rw [hab]; rfl)
  injection hv with hv1 hv2 hv3
  injection hv1 with hv1
  injection hv1 with hv1 hv4 hv5
  subst hv1
  clear hv2 hv3
  obtain ⟨g2, cap2, Ad, nd, hv, hg2, hcd, hOd⟩ := HW.out.elem (j := 2) (x := d) (by rw [hab]; rfl)
  injection hv with hv1 hv2 hv3
  injection hv1 with hv1
  injection hv1 with hv1 hv4 hv5
  subst hv1
  clear hv2 hv3
  have qa0 : (wc.setCell (aj w.heap.size 5) (.slice (some (aj g0 0)) c.kids.length n1)).cell? (aj g0 0) = some (.int i64 a.kind) := by simpa using hca 0 _ rfl
  have qa1 : (wc.setCell (aj w.heap.size 5) (.slice (some (aj g0 0)) c.kids.length n1)).cell? (aj g0 1) = some (.int i64 a.op) := by simpa using hca 1 _ rfl
  have qa2 : (wc.setCell (aj w.heap.size 5) (.slice (some (aj g0 0)) c.kids.length n1)).cell? (aj g0 2) = some (.int i64 a.number) := by simpa using hca 2 _ rfl
  have qa3 : (wc.setCell (aj w.heap.size 5) (.slice (some (aj g0 0)) c.kids.length n1)).cell? (aj g0 3) = some (.int i64 a.line) := by simpa using hca 3 _ rfl
  have qa4 : (wc.setCell (aj w.heap.size 5) (.slice (some (aj g0 0)) c.kids.length n1)).cell? (aj g0 4) = some (.string a.text) := by simpa using hca 4 _ rfl
  have qa5 : (wc.setCell (aj w.heap.size 5) (.slice (some (aj g0 0)) c.kids.length n1)).cell? (aj g0 5) = some (.slice Aa a.kids.length na) := by simpa using hca 5 _ rfl
  have HOa := lH hOa
  have qb0 : (wc.setCell (aj w.heap.size 5) (.slice (some (aj g0 0)) c.kids.length n1)).cell? (aj g0 6) = some (.int i64 b.kind) := by simpa using hcb 0 _ rfl
  have qb1 : (wc.setCell (aj w.heap.size 5) (.slice (some (aj g0 0)) c.kids.length n1)).cell? (aj g0 7) = some (.int i64 b.op) := by simpa using hcb 1 _ rfl
  have qb2 : (wc.setCell (aj w.heap.size 5) (.slice (some (aj g0 0)) c.kids.length n1)).cell? (aj g0 8) = some (.int i64 b.number) := by simpa using hcb 2 _ rfl
  have qb3 : (wc.setCell (aj w.heap.size 5) (.slice (some (aj g0 0)) c.kids.length n1)).cell? (aj g0 9) = some (.int i64 b.line) := by simpa using hcb 3 _ rfl
  have qb4 : (wc.setCell (aj w.heap.size 5) (.slice (some (aj g0 0)) c.kids.length n1)).cell? (aj g0 10) = some (.string b.text) := by simpa using hcb 4 _ rfl
  have qb5 : (wc.setCell (aj w.heap.size 5) (.slice (some (aj g0 0)) c.kids.length n1)).cell? (aj g0 11) = some (.slice Ab b.kids.length nb) := by simpa using hcb 5 _ rfl
  have HOb := lH hOb
  have qd0 : (wc.setCell (aj w.heap.size 5) (.slice (some (aj g0 0)) c.kids.length n1)).cell? (aj g0 12) = some (.int i64 d.kind) := by simpa using hcd 0 _ rfl
  have qd1 : (wc.setCell (aj w.heap.size 5) (.slice (some (aj g0 0)) c.kids.length n1)).cell? (aj g0 13) = some (.int i64 d.op) := by simpa using hcd 1 _ rfl
  have qd2 : (wc.setCell (aj w.heap.size 5) (.slice (some (aj g0 0)) c.kids.length n1)).cell? (aj g0 14) = some (.int i64 d.number) := by simpa using hcd 2 _ rfl
  have qd3 : (wc.setCell (aj w.heap.size 5) (.slice (some (aj g0 0)) c.kids.length n1)).cell? (aj g0 15) = some (.int i64 d.line) := by simpa using hcd 3 _ rfl
  have qd4 : (wc.setCell (aj w.heap.size 5) (.slice (some (aj g0 0)) c.kids.length n1)).cell? (aj g0 16) = some (.string d.text) := by simpa using hcd 4 _ rfl
  have qd5 : (wc.setCell (aj w.heap.size 5) (.slice (some (aj g0 0)) c.kids.length n1)).cell? (aj g0 17) = some (.slice Ad d.kids.length nd) := by simpa using hcd 5 _ rfl
  have HOd := lH hOd
  have hL := HLL.out.symm.trans hlen
  have l0 : (0 : Int) < (c.kids.length : Int) := ah
  have l1 : (1 : Int) < (c.kids.length : Int) := ah
  have l2 : (2 : Int) < (c.kids.length : Int) := ah
  have m0 : 0 < c.kids.length := ah
  have m1 : 1 < c.kids.length := ah
  have m2 : 2 < c.kids.length := ah
  clear hL hlen hca hOa hcb hOb hcd hOd
  have hF0 : aX c = if pz a = true then b else if a.kind = 28 then d else c.with (c.kids.map aX) := by rw [hT]; unfold xN; rw [show (c.with (c.kids.map aX)).kids = [a, b, d] from hab]
  have HC := lH (fun W : World => oH a Aa a.kids.length na W)
  have hgW : g0 < (wc.setCell (aj w.heap.size 5) (.slice (some (aj g0 0)) c.kids.length n1)).heap.size := by rw [hsW]; exact hg0.2
  clear hT hab k11 k13 k16 k17 hk5
  cases hla : pz a with
  | true =>
    rw [hla] at HC
    have HR : Hid (aX c = b) := hF0.trans (if_pos hla)
    clear hF0 hla
    go_wp2_with fail
    refine (HC.out _).mono ?_; rintro e w2 ⟨rfl, hb2⟩
    have B2 : Below w.heap.size w w2 := BW.trans (hb2.mono BW.size)
    have br2 := (br.far (p := ⟨w.heap.size, 5, none⟩) av (.slice (some (aj g0 0)) c.kids.length n1)).later hb2
    have bk2 := (bk.aF 5 (.slice (some (aj g0 0)) c.kids.length n1)).later hb2
    have hs2 := hb2.size
    rw [hsW] at hs2
    replace qb0 := (hb2.cell (p := ⟨g0, 6, none⟩) hgW).trans qb0
    replace qb1 := (hb2.cell (p := ⟨g0, 7, none⟩) hgW).trans qb1
    replace qb2 := (hb2.cell (p := ⟨g0, 8, none⟩) hgW).trans qb2
    replace qb3 := (hb2.cell (p := ⟨g0, 9, none⟩) hgW).trans qb3
    replace qb4 := (hb2.cell (p := ⟨g0, 10, none⟩) hgW).trans qb4
    replace qb5 := (hb2.cell (p := ⟨g0, 11, none⟩) hgW).trans qb5
    clear qa0 qa1 qa2 qa3 qa4 qa5
    clear qd0 qd1 qd2 qd3 qd4 qd5
    clear cbr fbr lbr cbk fbk lbk
    obtain ⟨cbr, lbr, fbr⟩ := br2.all
    obtain ⟨cbk, lbk, fbk⟩ := bk2.all
    have HO := lH (HOb.out.later hb2)
    clear hb2
    go_wp2_with fail
    have hF := ((((((br2.aF 0 (.int i64 b.kind)).aF 1 (.int i64 b.op)).aF 2 (.int i64 b.number)).aF 3 (.int i64 b.line)).aF 4 (.string b.text)).aF 5 (.slice Ab b.kids.length nb))
    have cF := hF.cell
    refine bodyPost_ret (v := .agg (aB b.kind b.op b.number b.line b.text Ab b.kids.length nb)) ?_ rfl ⟨((aB b.kind b.op b.number b.line b.text Ab b.kids.length nb : Array Value) : Array Value).toList, rfl, ?_, ?_⟩
    ·exact oL
    ·exact vJ
    exact vM
  | false =>
    rw [hla] at HC
    have hF1 := hF0.trans (if_neg (by rw [hla]; decide))
    clear hF0 hla
    by_cases ka : a.kind = 28
    ·have ea : (a.kind == 28) = true := by simp [ka]
     have HR : Hid (aX c = d) := hF1.trans (if_pos ka)
     clear hF1 ka
     go_wp2_with fail
     refine (HC.out _).mono ?_; rintro e w2 ⟨rfl, hb2⟩
     have B2 : Below w.heap.size w w2 := BW.trans (hb2.mono BW.size)
     have br2 := (br.far (p := ⟨w.heap.size, 5, none⟩) av (.slice (some (aj g0 0)) c.kids.length n1)).later hb2
     have bk2 := (bk.aF 5 (.slice (some (aj g0 0)) c.kids.length n1)).later hb2
     have hs2 := hb2.size
     rw [hsW] at hs2
     replace qa0 := (hb2.cell (p := ⟨g0, 0, none⟩) hgW).trans qa0
     replace qa1 := (hb2.cell (p := ⟨g0, 1, none⟩) hgW).trans qa1
     replace qa2 := (hb2.cell (p := ⟨g0, 2, none⟩) hgW).trans qa2
     replace qa3 := (hb2.cell (p := ⟨g0, 3, none⟩) hgW).trans qa3
     replace qa4 := (hb2.cell (p := ⟨g0, 4, none⟩) hgW).trans qa4
     replace qa5 := (hb2.cell (p := ⟨g0, 5, none⟩) hgW).trans qa5
     replace qd0 := (hb2.cell (p := ⟨g0, 12, none⟩) hgW).trans qd0
     replace qd1 := (hb2.cell (p := ⟨g0, 13, none⟩) hgW).trans qd1
     replace qd2 := (hb2.cell (p := ⟨g0, 14, none⟩) hgW).trans qd2
     replace qd3 := (hb2.cell (p := ⟨g0, 15, none⟩) hgW).trans qd3
     replace qd4 := (hb2.cell (p := ⟨g0, 16, none⟩) hgW).trans qd4
     replace qd5 := (hb2.cell (p := ⟨g0, 17, none⟩) hgW).trans qd5
     clear qb0 qb1 qb2 qb3 qb4 qb5
     clear cbr fbr lbr cbk fbk lbk
     obtain ⟨cbr, lbr, fbr⟩ := br2.all
     obtain ⟨cbk, lbk, fbk⟩ := bk2.all
     have HO := lH (HOd.out.later hb2)
     clear hb2
     go_wp2_with fail
     have hF := ((((((br2.aF 0 (.int i64 d.kind)).aF 1 (.int i64 d.op)).aF 2 (.int i64 d.number)).aF 3 (.int i64 d.line)).aF 4 (.string d.text)).aF 5 (.slice Ad d.kids.length nd))
     have cF := hF.cell
     refine bodyPost_ret (v := .agg (aB d.kind d.op d.number d.line d.text Ad d.kids.length nd)) ?_ rfl ⟨((aB d.kind d.op d.number d.line d.text Ad d.kids.length nd : Array Value) : Array Value).toList, rfl, ?_, ?_⟩
     ·exact oL
     ·exact vJ
     exact vM
    have ea : (a.kind == 28) = false := by simpa using ka
    have HR : Hid (aX c = c.with (c.kids.map aX)) := hF1.trans (if_neg ka)
    clear hF1 ka
    go_wp2_with fail
    refine (HC.out _).mono ?_; rintro e w2 ⟨rfl, hb2⟩
    have B2 : Below w.heap.size w w2 := BW.trans (hb2.mono BW.size)
    have br2 := (br.far (p := ⟨w.heap.size, 5, none⟩) av (.slice (some (aj g0 0)) c.kids.length n1)).later hb2
    have bk2 := (bk.aF 5 (.slice (some (aj g0 0)) c.kids.length n1)).later hb2
    have hs2 := hb2.size
    rw [hsW] at hs2
    replace qa0 := (hb2.cell (p := ⟨g0, 0, none⟩) hgW).trans qa0
    replace qa1 := (hb2.cell (p := ⟨g0, 1, none⟩) hgW).trans qa1
    replace qa2 := (hb2.cell (p := ⟨g0, 2, none⟩) hgW).trans qa2
    replace qa3 := (hb2.cell (p := ⟨g0, 3, none⟩) hgW).trans qa3
    replace qa4 := (hb2.cell (p := ⟨g0, 4, none⟩) hgW).trans qa4
    replace qa5 := (hb2.cell (p := ⟨g0, 5, none⟩) hgW).trans qa5
    clear qb0 qb1 qb2 qb3 qb4 qb5
    clear qd0 qd1 qd2 qd3 qd4 qd5
    clear cbr fbr lbr cbk fbk lbk
    obtain ⟨cbr, lbr, fbr⟩ := br2.all
    obtain ⟨cbk, lbk, fbk⟩ := bk2.all
    have HO := lH ((HW.out.node (c := c)).later hb2)
    clear hb2
    go_wp2_with fail
    have hF := ((((((br2.aF 0 (.int i64 c.kind)).aF 1 (.int i64 c.op)).aF 2 (.int i64 c.number)).aF 3 (.int i64 c.line)).aF 4 (.string c.text)).aF 5 (.slice (some (aj g0 0)) c.kids.length n1))
    have cF := hF.cell
    refine bodyPost_ret (v := .agg (aB c.kind c.op c.number c.line c.text (some (aj g0 0)) c.kids.length n1)) ?_ rfl ⟨((aB c.kind c.op c.number c.line c.text (some (aj g0 0)) c.kids.length n1 : Array Value) : Array Value).toList, rfl, ?_, ?_⟩
    ·exact oL
    ·exact vJ
    exact vM
 have e11 : (c.kind == 11) = false := by simpa using k11
 have e13 : (c.kind == 13) = false := by simpa using k13
 have e16 : (c.kind == 16) = false := by simpa using k16
 have e17 : (c.kind == 17) = false := by simpa using k17
 have HR : Hid (aX c = c.with (c.kids.map aX)) := HT.out.trans (Mm k11 k13 k16 k17)
 have HO := lH hk5
 clear k11 k13 k16 k17 hk5
 go_wp2_with fail
 have hF := (((((((br.far (p := ⟨w.heap.size, 5, none⟩) av (.slice v1 c.kids.length n1)).aF 0 (.int i64 c.kind)).aF 1 (.int i64 c.op)).aF 2 (.int i64 c.number)).aF 3 (.int i64 c.line)).aF 4 (.string c.text)).aF 5 (.slice v1 c.kids.length n1))
 have cF := hF.cell
 refine bodyPost_ret (v := .agg (aB c.kind c.op c.number c.line c.text v1 c.kids.length n1)) ?_ rfl ⟨((aB c.kind c.op c.number c.line c.text v1 c.kids.length n1 : Array Value) : Array Value).toList, rfl, ?_, ?_⟩
 ·exact oL
 ·rw [HR.out]
  exact ((((((((HO.out.aF (p := ⟨w.heap.size, 5, none⟩) dn _).aF (p := ⟨w.heap.size + 1, 0, none⟩) dn _).aF (p := ⟨w.heap.size + 1, 1, none⟩) dn _).aF (p := ⟨w.heap.size + 1, 2, none⟩) dn _).aF (p := ⟨w.heap.size + 1, 3, none⟩) dn _).aF (p := ⟨w.heap.size + 1, 4, none⟩) dn _).aF (p := ⟨w.heap.size + 1, 5, none⟩) dn _)).weak fun g hg => ⟨ah, aJ⟩
 exact vN
theorem Fa (c : ak) : IB c := ak.ind (P := IB) Mq c
end Go.Proofs.YthbcamfejgghhaaGreatDoor
