/- A valid generator, of the program: the parts. The rows of a machine: which are good, of the program. UH, Uc of the laws. MU, L9  -/
import Derived.Test.YtoddlphekcihgaaGreatDoorQ15
import Derived.Test.YtoddlphekcihgaaGreatDoorQ20
set_option maxRecDepth 100000
set_option maxHeartbeats 8000000
set_option linter.unusedVariables false
set_option linter.unusedSimpArgs false
namespace Go.Proofs.YtoddlphekcihgaaGreatDoor
open Go.RowKit
theorem zZ (c : aQ) (x : Value) (w : World) {lo hi : Nat} (hx : fA w lo hi aQ.ay x c) :
 Calls Tryz.prog 168 #[x] w fun e w' => e = .returned (.bool (zk c)) ∧ Below w.heap.size w w' := by
 obtain rfl := aQ.form hx
 have hW : Below w.heap.size w (w.alloc (.cells #[Value.int .i64 c.kind, .int .i64 c.number, .int .i64 c.index, .string c.text, .int .i64 c.eB, .int .i64 c.dW] 56)) := bA _ _
 cases hd : decide (13 ≤ c.kind) with
 | false =>
   have HO : Hid (zk c = false) := lH (by rw [zk, hd]; rfl)
   go_enter Tryz.func168, Tryz.ntmps168
   go_wp2_with fail
   go_ret
   exact ⟨ah HO.out.symm, hW⟩
 | true =>
   have HO : Hid (zk c = decide (c.kind ≤ 18)) := lH (by rw [zk, hd]; rfl)
   go_enter Tryz.func168, Tryz.ntmps168
   go_wp2_with fail
   go_ret
   exact ⟨ah HO.out.symm, hW⟩
theorem vv (t p : aQ) (x y : Value) (w : World) {lo hi lo' hi' : Nat} (hx : fA w lo hi aQ.ay x t) (hy : fA w lo' hi' aQ.ay y p) (ht : t.kind = 2 → t.text.size ≤ 120) :
 Calls Tryz.prog 160 #[x, y] w fun e w' => e = .returned (.bool (pz t p)) ∧ Below w.heap.size w w' := by
 obtain rfl := aQ.form hx
 obtain rfl := aQ.form hy
 have hW : Below w.heap.size w ((w.alloc (.cells #[Value.int .i64 t.kind, .int .i64 t.number, .int .i64 t.index, .string t.text, .int .i64 t.eB, .int .i64 t.dW] 56)).alloc (.cells #[Value.int .i64 p.kind, .int .i64 p.number, .int .i64 p.index, .string p.text, .int .i64 p.eB, .int .i64 p.dW] 56)) := (bA _ _).alloc (by simp) _
 have a1 := (Blk.new w 56 #[Value.int .i64 t.kind, .int .i64 t.number, .int .i64 t.index, .string t.text, .int .i64 t.eB, .int .i64 t.dW]).alloc (.cells #[Value.int .i64 p.kind, .int .i64 p.number, .int .i64 p.index, .string p.text, .int .i64 p.eB, .int .i64 p.dW] 56)
 have a2 := Blk.newAt (w.alloc (.cells #[Value.int .i64 t.kind, .int .i64 t.number, .int .i64 t.index, .string t.text, .int .i64 t.eB, .int .i64 t.dW] 56)) 56 #[Value.int .i64 p.kind, .int .i64 p.number, .int .i64 p.index, .string p.text, .int .i64 p.eB, .int .i64 p.dW] (w.heap.size + 1) (by simp)
 generalize hV : pz t p = V
 have HE : Hid (V = (decide (t.kind = 2) && decide (p.kind = 1) && decide (1 ≤ p.number) && decide (p.number ≤ t.text.size + 1))) := by rw [← hV]; rfl
 clear hV
 rcases (Classical.em (t.kind = 2)).symm with k1 | k1
 have HO : Hid (V = false) := lH (by rw [HE.out, dF k1]; simp)
 have dk1 : (t.kind == 2) = false := by simp [k1]
 clear HE k1
 rotate_left
 have dk1 : (t.kind == 2) = true := by simp [k1]
 have Hk1 := lH k1
 clear k1
 rcases (Classical.em (p.kind = 1)).symm with k2 | k2
 have HO : Hid (V = false) := lH (by rw [HE.out, dF k2]; simp)
 have dk2 : (p.kind == 1) = false := by simp [k2]
 clear HE k2
 rotate_left
 have dk2 : (p.kind == 1) = true := by simp [k2]
 have Hk2 := lH k2
 clear k2
 rcases (Classical.em (1 ≤ p.number)).symm with k3 | k3
 have HO : Hid (V = false) := lH (by rw [HE.out, dF k3]; simp)
 have dk3 : decide (1 ≤ p.number) = false := by simp [k3]
 clear HE k3
 rotate_left
 have dk3 : decide (1 ≤ p.number) = true := by simp [k3]
 have Hk3 := lH k3
 clear k3
 have hz := ht Hk1.out
 have HO : Hid (V = decide (p.number ≤ (t.text.size : Int) + 1)) := lH (by rw [HE.out, dT Hk1.out, dT Hk2.out, dT Hk3.out]; rfl)
 have hwr : IntKind.i64.wrap ((t.text.size : Int) + 1) = (t.text.size : Int) + 1 := IntWalk.i64_in _ (by omega)
 clear HE ht
 iterate 4 focus
  go_enter Tryz.func160, Tryz.ntmps160
  go_upto_region 1 with fail
  generalize (w.alloc (.cells #[Value.int .i64 t.kind, .int .i64 t.number, .int .i64 t.index, .string t.text, .int .i64 t.eB, .int .i64 t.dW] 56)).alloc (.cells #[Value.int .i64 p.kind, .int .i64 p.number, .int .i64 p.index, .string p.text, .int .i64 p.eB, .int .i64 p.dW] 56) = W at *
  have ca := a1.cell
  have cb := a2.cell
  have la := a1.lt
  have lb := a2.lt
  go_wp2_with fail
  go_ret
  exact ⟨ah HO.out.symm, hW⟩
theorem xV (l : List aQ) (v : Value) (w : World) {lo hi : Nat} (hv : dz w lo hi 6 aQ.ay v l) (hhi : hi ≤ w.heap.size) :
 Calls Tryz.prog 161 #[v] w fun e w' => e = .returned (.bool (pE l)) ∧ Below w.heap.size w w' := by
 obtain ⟨A, cap, rfl, hc1, hc2⟩ := hv.shape
 unfold maxLen at hc2
 go_enter Tryz.func161, Tryz.ntmps161
 go_wp2_with fail
 go_loopw [3] (fun i wr => ∃ k : Nat, k ≤ l.length ∧ k % 2 = 0 ∧ i = .int .i64 k ∧ Hid (pE l = pE (l.drop k)) ∧ Below w.heap.size w wr) (fun i _ => l.length + 1 - (intOf i).toNat)
 case atStart => exact ⟨0, nZ _, rfl, rfl, by simp [Hid], bR _ _⟩
 case round =>
  obtain ⟨k, hk, hk2, rfl, hgo, hb⟩ := hrel
  obtain ⟨wo, rfl⟩ := nW wr
  have Sl : k + 1 ≤ 9223372036854775807 := by omega
  by_cases hlt : k + 1 < l.length
  ·obtain ⟨a, ha⟩ : ∃ c, l[k]? = some c := ⟨_, gE (by omega)⟩
   obtain ⟨b, hb1⟩ : ∃ c, l[k + 1]? = some c := ⟨_, gE hlt⟩
   have hdl : decide ((k : Int) + 1 < (l.length : Int)) = true := dT (by omega)
   obtain ⟨g', off', rfl, hg1, hg2, -⟩ := aQ.at_ hv ha
   obtain ⟨pa0, pa1, pa2, pa3, pa4, pa5⟩ := dV (hv.below hb hhi) ha (p := off' + k * 6) rfl
   obtain ⟨pb0, pb1, pb2, pb3, pb4, pb5⟩ := dV (hv.below hb hhi) hb1 (p := off' + (k + 1) * 6) rfl
   have HP := lH (Cy ha hb1)
   clear hb1 ha
   go_wp2_with fail
   refine (zZ a _ _ (aQ.mk_ (lo := 0) (hi := 0))).mono ?_; rintro e w1 ⟨rfl, hb2⟩
   replace pa0 := (hb2.cell (p := ⟨g', _, none⟩) (nL (nL hg2 hhi) hb.size)).trans pa0
   replace pb0 := (hb2.cell (p := ⟨g', off' + (k + 1) * 6, none⟩) (nL (nL hg2 hhi) hb.size)).trans pb0
   clear pa1 pa2 pa3 pa4 pa5 pb1 pb2 pb3 pb4 pb5
   replace hb := hb.trans (hb2.mono hb.size)
   cases hr : zk a with
   | false =>
     have HO := lH (hgo.out.trans (HP.out.trans (by rw [hr, Bool.false_and, Bool.false_and])))
     clear HP hgo hr
     go_wp2_with fail
     go_ret
     exact ⟨ah HO.out.symm, hb⟩
   | true =>
     by_cases hd : 12 < b.kind
     ·have dd := dT hd
      have HO := lH (hgo.out.trans (HP.out.trans (by rw [dF (show ¬ b.kind ≤ 12 by omega), Bool.and_false, Bool.false_and])))
      clear HP hgo hr
      go_wp2_with fail
      go_ret
      exact ⟨ah HO.out.symm, hb⟩
     ·have dd := dF hd
      have HG := lH (hgo.out.trans (HP.out.trans (by rw [hr, dT (show b.kind ≤ 12 by omega), Bool.true_and, Bool.true_and])))
      clear HP hgo hr
      go_wp2_with fail
      go_roundw
      case rel => exact ⟨k + 2, by omega, by omega, by go_num, HG, hb⟩
      case measure => simp [intOf]; omega
  ·have hdl : decide ((k : Int) + 1 < (l.length : Int)) = false := dF (by omega)
   have HO := lH (hgo.out.trans (zW (by omega)))
   clear hgo
   go_wp2_with fail
   go_ret
   exact ⟨ah HO.out.symm, hb⟩
theorem gB (m : eG) (l : List aQ) (v : Value) (w : World) {g off lo hi lo' hi' : Nat} (h : At w g off lo hi eG.ay m) (hv : dz w lo' hi' 6 aQ.ay v l) (hhi : hi' ≤ w.heap.size) :
 Calls Tryz.prog 51 #[.pointer (some ⟨g, off, none⟩), v] w fun e w' => e = .returned (.bool (l.all (pN m.store))) ∧ Below w.heap.size w w' := by
 obtain ⟨A, cap, rfl, hc1, hc2⟩ := hv.shape
 unfold maxLen at hc2
 obtain ⟨A0, n0, A4, n4, hg, r1, r2, r3, r4, cr, ci⟩ := eG.lens h
 go_enter Tryz.func51, Tryz.ntmps51
 go_wp2_with fail
 go_loopw [9] (fun i wr => ∃ k : Nat, k ≤ l.length ∧ i = .int .i64 k ∧ Hid ((l.take k).all (pN m.store) = true) ∧ Below w.heap.size w wr) (fun i _ => l.length - (intOf i).toNat)
 case atStart => exact ⟨0, nZ _, rfl, by simp [Hid], bR _ _⟩
 case round =>
  obtain ⟨k, hk, rfl, hgo, hb⟩ := hrel
  obtain ⟨wo, rfl⟩ := nW wr
  have hz := hb.size
  have hgo' : g < wo.heap.size := nL hg hz
  replace cr := (hb.cell (p := ⟨g, off, none⟩) hg).trans cr
  replace ci := (hb.cell (p := ⟨g, off + 4, none⟩) hg).trans ci
  by_cases hlt : k < l.length
  ·obtain ⟨c, hc⟩ : ∃ c, l[k]? = some c := ⟨_, gE hlt⟩
   obtain ⟨g', off', rfl, hg1, hg2, hmem, hrep, q0, q1, q2, q3, q4, q5⟩ := aQ.at_ (hv.below hb hhi) hc
   have HN := lH (fun h => fJ (q := (pN m.store)) hc hgo.out h)
   have HF := lH (fun h => lI (q := (pN m.store)) (mG hc) h)
   clear hc hgo hmem hrep
   have hwa : Below w.heap.size w (wo.alloc (.cells #[Value.int .i64 c.kind, .int .i64 c.number, .int .i64 c.index, .string c.text, .int .i64 c.eB, .int .i64 c.dW] 56)) := hb.alloc hz _
   have h0 := h.below hwa
   have hga : g < (wo.alloc (.cells #[Value.int .i64 c.kind, .int .i64 c.number, .int .i64 c.index, .string c.text, .int .i64 c.eB, .int .i64 c.dW] 56)).heap.size := nL hg hwa.size
   have a0 := Blk.new wo 56 #[Value.int .i64 c.kind, .int .i64 c.number, .int .i64 c.index, .string c.text, .int .i64 c.eB, .int .i64 c.dW]
   have hs0 := eG.qF h0
   go_upto_region 4 with fail
   by_cases Ma : 18 < c.kind
   ·have HV : pN m.store c = false := by rw [pN, dF (by omega)]; rfl
    have P8 := dT Ma
    go_quiet (fail)
    have HF := lH (HF.out HV)
    clear HN
    go_wp2_with fail
    go_ret
    exact ⟨ah HF.out.symm, (by first | exact hwa | exact bN hwa _ | exact aC hwa)⟩
   ·have HV : Hid (pN m.store c = cK m.store c) := lH (by rw [pN, dT (by omega)]; rfl)
    have P8 := dF Ma
    first | go_region_with (first | (go_at_call 97; refine (mX m.store c _ _ (by first | exact hs0 | exact hs0.drew | exact hs0.drewN _) (aQ.mk_ (lo := 0) (hi := 0))).mono ?_; rintro e w1 ⟨rfl, hb1⟩) | fail) | fail
    have hw1 : Below w.heap.size w w1 := ((by first | exact hwa | exact bN hwa _ | exact aC hwa) : Below w.heap.size w _).trans (hb1.mono (by first | exact hwa.size | simpa using hwa.size))
    clear q0 q1 q2 q3 q4 q5 hb1 h0 hs0
    cases hq : cK m.store c with
    | true =>
      have HN := lH (HN.out (HV.out.trans hq))
      clear HF
      go_wp2_with fail
      go_roundw
      case rel => exact ⟨k + 1, by omega, by go_num, HN, hw1⟩
      case measure => simp [intOf]; omega
    | false =>
      have HF := lH (HF.out (HV.out.trans hq))
      clear HN
      go_wp2_with fail
      go_ret
      exact ⟨ah HF.out.symm, hw1⟩
  ·obtain rfl : k = l.length := by omega
   rw [List.take_length] at hgo
   go_wp2_with fail
   go_ret
   exact ⟨ah hgo.out.symm, hb⟩
theorem Iu (c : dK) (x : Value) (left : Int) (w : World) (lo hi : Nat) (h : fA w lo hi dK.ay x c) (hhi : hi ≤ w.heap.size) (hl0 : 0 ≤ left) (hl1 : left ≤ 1048576) (hf : c.Fits) :
 Calls Tryz.prog 9 #[x, .int .i64 left] w fun e w' => e = .returned (.int .i64 (leftOf left c.dX)) ∧ Below w.heap.size w w' := by
 obtain ⟨bT, bI, bE, aY, bH, aZ, dS, dN, rfl, tZ, En, xX, qd, xM, tN, qg, xN, tO, wP, I8, BF⟩ := dK.form h
 obtain ⟨EA, xR, xS, Jm⟩ := hf
 have HB : Hid (c.dX = (c.au.length + sumOf jF.dX c.au) + (c.aA.length + sumOf gU.dX c.aA) + (c.aB.length + sumOf ByteArray.size c.aB) + (c.av.length + sumOf eO.dX c.av)) := rfl
 unfold maxLen at xX tN
 unfold maxLen at tO BF
 have JW := lH EA
 clear EA
 have Cz := lH xR
 clear xR
 have CB := lH xS
 clear xS
 have N7 := lH Jm
 clear Jm
 have hw0 : Below w.heap.size w (w.alloc (.cells #[Value.slice bT c.au.length bI, .slice bE c.aA.length aY, .slice bH c.aB.length aZ, .int .i64 c.main, .slice dS c.av.length dN] 27)) := bA _ _
 go_enter Tryz.func9, Tryz.ntmps9
 go_wp2_with fail
 refine (yM c.au _ _ _ lo hi (tZ.below hw0 hhi) (nT hhi hw0.size) (by omega) (by omega) JW.out).mono ?_; rintro e w1 ⟨rfl, hb1⟩
 have hw1 : Below w.heap.size w w1 := hw0.trans (hb1.mono hw0.size)
 have a1 := (Blk.new w 27 #[Value.slice bT c.au.length bI, .slice bE c.aA.length aY, .slice bH c.aB.length aZ, .int .i64 c.main, .slice dS c.av.length dN]).later hb1
 have ca := a1.cell
 have la := a1.lt
 by_cases CL : left < ((c.au.length + sumOf jF.dX c.au) : Nat)
 ·rw [dM CL]
  go_wp2_with fail
  go_ret
  exact ⟨eX (dM (by have := HB.out; omega)).symm, hw1⟩
 rw [ep CL]
 generalize hL : left - (((c.au.length + sumOf jF.dX c.au) : Nat) : Int) = mF
 have l1a : mF ≤ left - ((c.au.length + sumOf jF.dX c.au) : Nat) := by omega
 have l1b : left - ((c.au.length + sumOf jF.dX c.au) : Nat) ≤ mF := by omega
 clear hL
 go_wp2_with fail
 refine (vY c.aA _ _ _ lo hi (qd.below hw1 hhi) (nT hhi hw1.size) (by omega) (by omega) Cz.out).mono ?_; rintro e w2 ⟨rfl, hb2⟩
 have hw2 : Below w.heap.size w w2 := hw1.trans (hb2.mono hw1.size)
 have a2 := a1.later hb2
 clear ca la
 have ca := a2.cell
 have la := a2.lt
 by_cases wH : mF < ((c.aA.length + sumOf gU.dX c.aA) : Nat)
 ·rw [dM wH]
  go_wp2_with fail
  go_ret
  exact ⟨eX (dM (by have := HB.out; omega)).symm, hw2⟩
 rw [ep wH]
 generalize hL : mF - (((c.aA.length + sumOf gU.dX c.aA) : Nat) : Int) = oC
 have l2a : oC ≤ mF - ((c.aA.length + sumOf gU.dX c.aA) : Nat) := by omega
 have l2b : mF - ((c.aA.length + sumOf gU.dX c.aA) : Nat) ≤ oC := by omega
 clear hL
 go_wp2_with fail
 refine (vF c.aB _ _ _ lo hi (qg.below hw2 hhi) (nT hhi hw2.size) (by omega) (by omega) CB.out).mono ?_; rintro e w3 ⟨rfl, hb3⟩
 have hw3 : Below w.heap.size w w3 := hw2.trans (hb3.mono hw2.size)
 have a3 := a2.later hb3
 clear ca la
 have ca := a3.cell
 have la := a3.lt
 by_cases wI : oC < ((c.aB.length + sumOf ByteArray.size c.aB) : Nat)
 ·rw [dM wI]
  go_wp2_with fail
  go_ret
  exact ⟨eX (dM (by have := HB.out; omega)).symm, hw3⟩
 rw [ep wI]
 generalize hL : oC - (((c.aB.length + sumOf ByteArray.size c.aB) : Nat) : Int) = pI
 have l3a : pI ≤ oC - ((c.aB.length + sumOf ByteArray.size c.aB) : Nat) := by omega
 have l3b : oC - ((c.aB.length + sumOf ByteArray.size c.aB) : Nat) ≤ pI := by omega
 clear hL
 go_wp2_with fail
 refine (FF c.av _ _ _ lo hi (wP.below hw3 hhi) (nT hhi hw3.size) (by omega) (by omega) N7.out).mono ?_; rintro e w4 ⟨rfl, hb4⟩
 have hw4 : Below w.heap.size w w4 := hw3.trans (hb4.mono hw3.size)
 have a4 := a3.later hb4
 clear ca la
 have ca := a4.cell
 have la := a4.lt
 by_cases GX : pI < ((c.av.length + sumOf eO.dX c.av) : Nat)
 ·rw [dM GX]
  go_wp2_with fail
  go_ret
  exact ⟨eX (dM (by have := HB.out; omega)).symm, hw4⟩
 rw [ep GX]
 generalize hL : pI - (((c.av.length + sumOf eO.dX c.av) : Nat) : Int) = qo
 have l4a : qo ≤ pI - ((c.av.length + sumOf eO.dX c.av) : Nat) := by omega
 have l4b : pI - ((c.av.length + sumOf eO.dX c.av) : Nat) ≤ qo := by omega
 clear hL
 go_wp2_with fail
 go_ret
 exact ⟨eX (by rw [ep (by have := HB.out; omega)]; have := HB.out; omega), hw4⟩
theorem yY (c : jF) (x : Value) (w : World) (lo hi : Nat) (h : fA w lo hi jF.ay x c) (hhi : hi ≤ w.heap.size) (hbk : c.dX ≤ 1048576) :
 Calls Tryz.prog 82 #[x] w (uN jF.ay c w) := by
 obtain rfl := jF.form h
 go_enter Tryz.func82, Tryz.ntmps82
 go_wp2_with fail
 refine bodyPost_ret (v := .agg #[Value.string c.name, .int .i64 c.params, .int .i64 c.slots, .int .i64 c.entry]) ?_ rfl ⟨[Value.string c.name, .int .i64 c.params, .int .i64 c.slots, .int .i64 c.entry], rfl, (.wD (.gG (.gG (.gG .lu)))), ?_⟩
 ·simp [results, Tryz.results82, go_sem]
 ·exact ((bA _ _).alloc (by simp) _).alloc (by simp; omega) _
theorem JX : (Tryz.prog.info? 141).map (fun i => (i.zero, i.size, i.bytes)) = some (some (.agg #[.string ⟨#[]⟩, .int .i64 0, .int .i64 0, .int .i64 0]), 4, 40) := by kernel_rfl
theorem yg (l : List jF) (v : Value) (w : World) (lo hi : Nat) (h : dz w lo hi 4 jF.ay v l) (hhi : hi ≤ w.heap.size) (hl : l.length + sumOf jF.dX l ≤ 1048576) :
 Calls Tryz.prog 40 #[v] w (vT 4 jF.ay l w) := by
 obtain ⟨i0, hi0, hz0, hz1, hz2⟩ := info_parts JX
 obtain ⟨A, cap, rfl, hc1, hc2⟩ := h.shape
 unfold maxLen at hc2
 go_enter Tryz.func40, Tryz.ntmps40
 go_wp2_with (first | (at_make; refine wpList_make_full w rfl (.tmp 6) (.tmp 6) 43 rfl w.heap.size 141 i0 _ 4 Tryz.underlying43 hi0 hz0 hz1 .i64 .i64 _ _ l.length rfl rfl rfl rfl (by rw [hz2]; omega) (by unfold maxLen; omega) (nR _) ?_))
 intro w1 hown hg
 have hb := kM hg (nR w.heap.size) (fun g hg => by cases hg)
 have hz : w.heap.size + 1 ≤ w1.heap.size := (hown.lt _ rfl).2
 obtain ⟨Z, hown⟩ : ∃ Z, w1.ownsRow w.heap.size 141 4 (.slice (some ⟨w.heap.size, 0, none⟩) l.length l.length) l.length Z := ⟨_, hown⟩
 have HZ := lH hown.1
 clear hg
 go_wp2_with fail
 go_loopw [4] (fun i wr => ∃ (k : Nat) (vs : List Value), k ≤ l.length ∧ i = .int .i64 k ∧ wr.ownsRow w.heap.size 141 4 (.slice (some ⟨w.heap.size, 0, none⟩) l.length l.length) l.length (vs ++ Z.drop (k * 4)) ∧ gZ wr (w.heap.size + 1) wr.heap.size (flat jF.ay (l.take k)) vs ∧ Below w.heap.size w wr ∧ w.heap.size + 1 ≤ wr.heap.size) (fun i _ => l.length - (intOf i).toNat)
 case atStart => exact ⟨0, [], nZ _, rfl, by simpa using hown, by simp only [List.take_zero, oP]; exact .lu, hb, hz⟩
 case round =>
  clear hown hb hz
  obtain ⟨k, vs, hk, rfl, hown, hrep, hb, hz⟩ := hrel
  obtain ⟨wo, rfl⟩ := nW wr
  have hvs : vs.length = k * 4 := by rw [hrep.len, qJ jF.gK, List.length_take, Nat.min_eq_left hk]
  have HV := lH hvs
  clear hvs
  by_cases hlt : k < l.length
  ·obtain ⟨c, hc⟩ : ∃ c, l[k]? = some c := ⟨_, gE hlt⟩
   obtain ⟨g, off, rfl, hg1, hg2, hmem, hcr, q0, q1, q2, q3⟩ := jF.at_ (h.below hb hhi) hc
   have HD := lH (rz (f := jF.ay) hc)
   have hbm := qK (b := jF.dX) hmem
   clear hc hmem
   go_wp2_with fail
   refine (yY c _ _ _ _ hcr (by omega) (by omega)).mono ?_; rintro e w1 ⟨cs, rfl, hx, hb1⟩
   obtain hcs := jF.form ⟨cs, rfl, hx.rep⟩
   obtain rfl : cs = [Value.string c.name, .int .i64 c.params, .int .i64 c.slots, .int .i64 c.entry] := congrArg Array.toList (Value.agg.inj hcs)
   have z1 := hb1.size
   have hown1 := pG hown hb1
   have qD := (hrep.below hb1 (nR _)).app hx hz z1
   have hb2 := hb.trans (hb1.mono (by omega))
   clear hown hrep hx hb1 hb hcr q0 q1 q2 q3
   obtain ⟨⟨o0, d0⟩, f0⟩ := gM hown1 (k * 4) (by omega)
   obtain ⟨⟨o1, d1⟩, f1⟩ := gM hown1 (k * 4 + 1) (by omega)
   obtain ⟨⟨o2, d2⟩, f2⟩ := gM hown1 (k * 4 + 2) (by omega)
   obtain ⟨⟨o3, d3⟩, f3⟩ := gM hown1 (k * 4 + 3) (by omega)
   have pO := qc [Value.string c.name, .int .i64 c.params, .int .i64 c.slots, .int .i64 c.entry] _ _ (k * 4) hown1
   rw [oq _ _ _ HV.out (by rw [HZ.out]; simp; omega)] at pO
   have qQ := gZ.gq (g := w.heap.size) (.inl (Nat.lt_succ_self _)) [Value.string c.name, .int .i64 c.params, .int .i64 c.slots, .int .i64 c.entry] _ (k * 4) qD
   have tC := lK (nR w.heap.size) [Value.string c.name, .int .i64 c.params, .int .i64 c.slots, .int .i64 c.entry] _ _ (k * 4) hb2
   have qR := kK w.heap.size [Value.string c.name, .int .i64 c.params, .int .i64 c.slots, .int .i64 c.entry] w1 (k * 4)
   simp only [gq, Nat.add_assoc, Nat.reduceAdd, List.length_cons, List.length_nil] at pO qQ tC qR
   have O2 := lH pO
   have R2 := lH qQ
   have S2 := lH qR
   clear pO qQ hown1 qD qR hcs
   go_wp2_with fail
   go_roundw
   case rel =>
    refine ⟨k + 1, vs ++ [Value.string c.name, .int .i64 c.params, .int .i64 c.slots, .int .i64 c.entry], by omega, by go_num, ?_, ?_, tC, by rw [S2.out]; omega⟩
    ·rw [Nat.succ_mul]; exact O2.out
    ·rw [HD.out, S2.out]; exact R2.out
   case measure => simp [intOf]; omega
  ·obtain rfl : k = l.length := by omega
   rw [List.take_length] at hrep
   go_wp2_with fail
   go_ret
   rw [List.drop_eq_nil_of_le (by rw [HZ.out]; exact nR _), List.append_nil] at hown
   exact ⟨_, rfl, dI.mk_ (mid := w.heap.size + 1) hown hrep (by simp [Value.ownBlock]) (by omega) hz, hb⟩
theorem GY (c : dK) (x : Value) (w : World) (lo hi : Nat) (h : fA w lo hi dK.ay x c) (hhi : hi ≤ w.heap.size) (hbk : c.dX ≤ 1048576) :
 Calls Tryz.prog 15 #[x] w (uN dK.ay c w) := by
 obtain ⟨bT, bI, bE, aY, bH, aZ, dS, dN, rfl, tZ, En, xX, qd, xM, tN, qg, xN, tO, wP, I8, BF⟩ := dK.form h
 unfold dK.dX at hbk
 unfold maxLen at xX tN
 unfold maxLen at tO BF
 go_enter Tryz.func15, Tryz.ntmps15
 go_wp2_with fail
 have fr0 := rZ.new w 27 47 #[Value.slice bT c.au.length bI, .slice bE c.aA.length aY, .slice bH c.aB.length aZ, .int .i64 c.main, .slice dS c.av.length dN] #[Value.slice none 0 0, .slice none 0 0, .slice none 0 0, .int .i64 0, .slice none 0 0] #[Value.slice none 0 0, .slice none 0 0, .slice none 0 0, .int .i64 0, .slice none 0 0]
 refine (yg c.au _ _ lo hi (tZ.below fr0.bel hhi) (by simp; omega) (by omega)).mono ?_; rintro e w1 ⟨v1, rfl, r1, hb1⟩
 obtain ⟨B1, m1, rfl, -, -⟩ := r1.rep.shape
 have fr1 := fr0.later hb1
 have z1 : w.heap.size + 3 ≤ w1.heap.size := by have := fr1.var.lt; omega
 have R1 : dI w1 (w.heap.size + 3) w1.heap.size 4 jF.ay (.slice B1 c.au.length m1) c.au := r1.wide (by simp) (nR _)
 clear hb1 r1
 obtain ⟨ca, co, fo, cr, fr', la, lv⟩ := fr1.rJ
 go_wp2_with fail
 refine (vQ c.aA _ _ lo hi (qd.below (fr1.bel.setCell (by simp; omega) _) hhi) (nT hhi (fr1.bel.setCell (by simp; omega) _).size) (by omega)).mono ?_; rintro e w2 ⟨v2, rfl, r2, hb2⟩
 obtain ⟨B2, m2, rfl, -, -⟩ := r2.rep.shape
 have fr2 := (fr1.set _ _).later hb2
 have z2 : w.heap.size + 3 ≤ w2.heap.size := by have := fr2.var.lt; omega
 have R2 : dI w2 w1.heap.size w2.heap.size 3 gU.ay (.slice B2 c.aA.length m2) c.aA := r2.wide (by simp [World.setCell]) (nR _)
 have y2 : w1.heap.size ≤ w2.heap.size := by have := hb2.size; simpa [World.setCell] using this
 replace R1 := dI.below (dI.eY R1 (.inl (by simp <;> omega)) _) hb2 (by simp [World.setCell] <;> omega)
 clear co fo ca cr fr' hb2 r2 la lv
 obtain ⟨ca, co, fo, cr, fr', la, lv⟩ := fr2.rJ
 go_wp2_with fail
 refine (uQ c.aB _ _ lo hi (qg.below (fr2.bel.setCell (by simp; omega) _) hhi) (nT hhi (fr2.bel.setCell (by simp; omega) _).size) (by omega)).mono ?_; rintro e w3 ⟨v3, rfl, r3, hb3⟩
 obtain ⟨B3, m3, rfl, -, -⟩ := r3.rep.shape
 have fr3 := (fr2.set _ _).later hb3
 have z3 : w.heap.size + 3 ≤ w3.heap.size := by have := fr3.var.lt; omega
 have R3 : dI w3 w2.heap.size w3.heap.size 1 eF (.slice B3 c.aB.length m3) c.aB := r3.wide (by simp [World.setCell]) (nR _)
 have y3 : w2.heap.size ≤ w3.heap.size := by have := hb3.size; simpa [World.setCell] using this
 replace R1 := dI.below (dI.eY R1 (.inl (by simp <;> omega)) _) hb3 (by simp [World.setCell] <;> omega)
 have T2 := dI.below (dI.eY R2 (.inl (by simp <;> omega)) _) hb3 (by simp [World.setCell] <;> omega)
 clear R2
 have R2 := T2
 clear T2 co fo ca cr fr' hb3 r3 la lv
 obtain ⟨ca, co, fo, cr, fr', la, lv⟩ := fr3.rJ
 go_wp2_with fail
 refine (DY c.av _ _ lo hi (wP.below ((fr3.bel.setCell (by simp; omega) _).setCell (by simp; omega) _) hhi) (nT hhi ((fr3.bel.setCell (by simp; omega) _).setCell (by simp; omega) _).size) (by omega)).mono ?_; rintro e w4 ⟨v4, rfl, r4, hb4⟩
 obtain ⟨B4, m4, rfl, -, -⟩ := r4.rep.shape
 have fr4 := ((fr3.set _ _).set _ _).later hb4
 have z4 : w.heap.size + 3 ≤ w4.heap.size := by have := fr4.var.lt; omega
 have R4 : dI w4 w3.heap.size w4.heap.size 5 eO.ay (.slice B4 c.av.length m4) c.av := r4.wide (by simp [World.setCell]) (nR _)
 have y4 : w3.heap.size ≤ w4.heap.size := by have := hb4.size; simpa [World.setCell] using this
 replace R1 := dI.below (dI.eY (dI.eY R1 (.inl (by simp <;> omega)) _) (.inl (by simp <;> omega)) _) hb4 (by simp [World.setCell] <;> omega)
 have T2 := dI.below (dI.eY (dI.eY R2 (.inl (by simp <;> omega)) _) (.inl (by simp <;> omega)) _) hb4 (by simp [World.setCell] <;> omega)
 clear R2
 have R2 := T2
 clear T2
 have T3 := dI.below (dI.eY (dI.eY R3 (.inl (by simp <;> omega)) _) (.inl (by simp <;> omega)) _) hb4 (by simp [World.setCell] <;> omega)
 clear R3
 have R3 := T3
 clear T3 co fo ca cr fr' hb4 r4 la lv
 obtain ⟨ca, co, fo, cr, fr', la, lv⟩ := fr4.rJ
 go_wp2_with fail
 refine bodyPost_ret (v := .agg #[Value.slice B1 c.au.length m1, .slice B2 c.aA.length m2, .slice B3 c.aB.length m3, .int .i64 c.main, .slice B4 c.av.length m4]) ?_ rfl ⟨[Value.slice B1 c.au.length m1, .slice B2 c.aA.length m2, .slice B3 c.aB.length m3, .int .i64 c.main, .slice B4 c.av.length m4], rfl, (.rR (mid := w1.heap.size) ?_ (.rR (mid := w2.heap.size) ?_ (.rR (mid := w3.heap.size) ?_ (.gG (.rR (mid := w4.heap.size) ?_ .lu (by omega) (by simp [World.setCell] <;> omega))) (by omega) (by simp [World.setCell] <;> omega)) (by omega) (by simp [World.setCell] <;> omega)) (by omega) (by simp [World.setCell] <;> omega)), ?_⟩
 ·simp [results, Tryz.results15, go_sem, cr]
 ·refine dI.wide (lo := w.heap.size + 3) (hi := w1.heap.size) ?_ (by omega) (nR _)
  iterate 6 refine dI.eY ?_ (.inl (by simp <;> omega)) _
  exact R1
 ·refine dI.wide (lo := w1.heap.size) (hi := w2.heap.size) ?_ (by omega) (nR _)
  iterate 6 refine dI.eY ?_ (.inl (by simp <;> omega)) _
  exact R2
 ·refine dI.wide (lo := w2.heap.size) (hi := w3.heap.size) ?_ (by omega) (nR _)
  iterate 6 refine dI.eY ?_ (.inl (by simp <;> omega)) _
  exact R3
 ·refine dI.wide (lo := w3.heap.size) (hi := w4.heap.size) ?_ (by omega) (nR _)
  iterate 6 refine dI.eY ?_ (.inl (by simp <;> omega)) _
  exact R4
 ·iterate 6 refine Below.setCell ?_ (by simp <;> omega) _
  exact fr4.bel
theorem D3 (c : jG) (x : Value) (w : World) (lo hi : Nat) (h : fA w lo hi jG.ay x c) (hhi : hi ≤ w.heap.size) (hbk : c.dX ≤ 1048576) :
 Calls Tryz.prog 129 #[x] w (uN jG.ay c w) := by
 obtain ⟨jf, iH, jg, iI, jh, iJ, pQ, oW, kr, jO, rfl, sS, Cu, wY, hmarks, Cv, wZ, sU, Cw, xg, hcells, Lm, Fu, uj, Er, xY⟩ := jG.form h
 unfold jG.dX at hbk
 unfold maxLen at wY wZ
 unfold maxLen at xg Fu xY
 go_enter Tryz.func129, Tryz.ntmps129
 go_wp2_with fail
 have fr0 := rZ.new w 191 160 #[Value.int .i64 c.kind, .int .i64 c.pc, .int .i64 c.frame, .int .i64 c.base, .int .i64 c.line, .int .i64 c.object, .slice jf c.dZ.length iH, .slice jg c.dU.length iI, .slice jh c.eu.length iJ, .slice pQ c.cells.length oW, .int .i64 c.gN, .int .i64 c.kJ, .int .i64 c.fQ, .slice kr c.fP.length jO] #[Value.int .i64 0, .int .i64 0, .int .i64 0, .int .i64 0, .int .i64 0, .int .i64 0, .slice none 0 0, .slice none 0 0, .slice none 0 0, .slice none 0 0, .int .i64 0, .int .i64 0, .int .i64 0, .slice none 0 0] #[Value.int .i64 c.kind, .int .i64 c.pc, .int .i64 c.frame, .int .i64 c.base, .int .i64 c.line, .int .i64 c.object, .slice none 0 0, .slice none 0 0, .slice none 0 0, .slice none 0 0, .int .i64 0, .int .i64 0, .int .i64 0, .slice none 0 0]
 refine (rA c.dZ _ _ lo hi (sS.below fr0.bel hhi) (by simp; omega) (by omega)).mono ?_; rintro e w1 ⟨v1, rfl, r1, hb1⟩
 obtain ⟨B1, m1, rfl, -, -⟩ := r1.rep.shape
 have fr1 := fr0.later hb1
 have z1 : w.heap.size + 3 ≤ w1.heap.size := by have := fr1.var.lt; omega
 have R1 : dI w1 (w.heap.size + 3) w1.heap.size 6 aQ.ay (.slice B1 c.dZ.length m1) c.dZ := r1.wide (by simp) (nR _)
 clear hb1 r1
 obtain ⟨ca, co, fo, cr, fr', la, lv⟩ := fr1.rJ
 go_wp2_with fail
 refine (zz c.dU _ _ lo hi (hmarks.below (fr1.bel.setCell (by simp; omega) _) hhi) (nT hhi (fr1.bel.setCell (by simp; omega) _).size) (by omega)).mono ?_; rintro e w2 ⟨v2, rfl, r2, hb2⟩
 obtain ⟨B2, m2, rfl, -, -⟩ := r2.rep.shape
 have fr2 := (fr1.set _ _).later hb2
 have z2 : w.heap.size + 3 ≤ w2.heap.size := by have := fr2.var.lt; omega
 have R2 : dI w2 w1.heap.size w2.heap.size 5 kH.ay (.slice B2 c.dU.length m2) c.dU := r2.wide (by simp [World.setCell]) (nR _)
 have y2 : w1.heap.size ≤ w2.heap.size := by have := hb2.size; simpa [World.setCell] using this
 replace R1 := dI.below (dI.eY R1 (.inl (by simp <;> omega)) _) hb2 (by simp [World.setCell] <;> omega)
 clear co fo ca cr fr' hb2 r2 la lv
 obtain ⟨ca, co, fo, cr, fr', la, lv⟩ := fr2.rJ
 go_wp2_with fail
 refine (zy c.eu _ _ lo hi (sU.below (fr2.bel.setCell (by simp; omega) _) hhi) (nT hhi (fr2.bel.setCell (by simp; omega) _).size) (by omega)).mono ?_; rintro e w3 ⟨v3, rfl, r3, hb3⟩
 obtain ⟨B3, m3, rfl, -, -⟩ := r3.rep.shape
 have fr3 := (fr2.set _ _).later hb3
 have z3 : w.heap.size + 3 ≤ w3.heap.size := by have := fr3.var.lt; omega
 have R3 : dI w3 w2.heap.size w3.heap.size 8 kG.ay (.slice B3 c.eu.length m3) c.eu := r3.wide (by simp [World.setCell]) (nR _)
 have y3 : w2.heap.size ≤ w3.heap.size := by have := hb3.size; simpa [World.setCell] using this
 replace R1 := dI.below (dI.eY R1 (.inl (by simp <;> omega)) _) hb3 (by simp [World.setCell] <;> omega)
 have T2 := dI.below (dI.eY R2 (.inl (by simp <;> omega)) _) hb3 (by simp [World.setCell] <;> omega)
 clear R2
 have R2 := T2
 clear T2 co fo ca cr fr' hb3 r3 la lv
 obtain ⟨ca, co, fo, cr, fr', la, lv⟩ := fr3.rJ
 go_wp2_with fail
 refine (xL c.cells _ _ lo hi (hcells.below (fr3.bel.setCell (by simp; omega) _) hhi) (nT hhi (fr3.bel.setCell (by simp; omega) _).size) (by omega)).mono ?_; rintro e w4 ⟨v4, rfl, r4, hb4⟩
 obtain ⟨B4, m4, rfl, -, -⟩ := r4.rep.shape
 have fr4 := (fr3.set _ _).later hb4
 have z4 : w.heap.size + 3 ≤ w4.heap.size := by have := fr4.var.lt; omega
 have R4 : dI w4 w3.heap.size w4.heap.size 1 gW (.slice B4 c.cells.length m4) c.cells := r4.wide (by simp [World.setCell]) (nR _)
 have y4 : w3.heap.size ≤ w4.heap.size := by have := hb4.size; simpa [World.setCell] using this
 replace R1 := dI.below (dI.eY R1 (.inl (by simp <;> omega)) _) hb4 (by simp [World.setCell] <;> omega)
 have T2 := dI.below (dI.eY R2 (.inl (by simp <;> omega)) _) hb4 (by simp [World.setCell] <;> omega)
 clear R2
 have R2 := T2
 clear T2
 have T3 := dI.below (dI.eY R3 (.inl (by simp <;> omega)) _) hb4 (by simp [World.setCell] <;> omega)
 clear R3
 have R3 := T3
 clear T3 co fo ca cr fr' hb4 r4 la lv
 obtain ⟨ca, co, fo, cr, fr', la, lv⟩ := fr4.rJ
 go_wp2_with fail
 refine (zV c.gen _ _ lo hi (iY.mk_ (uj.below (fr4.bel.setCell (by simp; omega) _) hhi)) (nT hhi (fr4.bel.setCell (by simp; omega) _).size) (by omega)).mono ?_; rintro e w5 ⟨cs5, rfl, r5, hb5⟩
 obtain ⟨zA, zB, hcs, _, _, _⟩ := iY.form ⟨cs5, rfl, r5.rep⟩
 obtain rfl : cs5 = [Value.int .i64 c.gN, .int .i64 c.kJ, .int .i64 c.fQ, .slice zA c.fP.length zB] := congrArg Array.toList (Value.agg.inj hcs)
 clear hcs
 have fr5 := (fr4.set _ _).later hb5
 have z5 : w.heap.size + 3 ≤ w5.heap.size := by have := fr5.var.lt; omega
 have R5 : gZ w5 w4.heap.size w5.heap.size [Dat.int .i64 c.gN, .int .i64 c.kJ, .int .i64 c.fQ, .row 6 c.fP.length (flat aQ.ay c.fP)] [Value.int .i64 c.gN, .int .i64 c.kJ, .int .i64 c.fQ, .slice zA c.fP.length zB] := gZ.wide r5 (by simp [World.setCell]) (nR _)
 have y5 : w4.heap.size ≤ w5.heap.size := by have := hb5.size; simpa [World.setCell] using this
 replace R1 := dI.below (dI.eY R1 (.inl (by simp <;> omega)) _) hb5 (by simp [World.setCell] <;> omega)
 have T2 := dI.below (dI.eY R2 (.inl (by simp <;> omega)) _) hb5 (by simp [World.setCell] <;> omega)
 clear R2
 have R2 := T2
 clear T2
 have T3 := dI.below (dI.eY R3 (.inl (by simp <;> omega)) _) hb5 (by simp [World.setCell] <;> omega)
 clear R3
 have R3 := T3
 clear T3
 have T4 := dI.below (dI.eY R4 (.inl (by simp <;> omega)) _) hb5 (by simp [World.setCell] <;> omega)
 clear R4
 have R4 := T4
 clear T4 co fo ca cr fr' hb5 r5 la lv
 obtain ⟨ca, co, fo, cr, fr', la, lv⟩ := fr5.rJ
 go_wp2_with fail
 refine bodyPost_ret (v := .agg #[Value.int .i64 c.kind, .int .i64 c.pc, .int .i64 c.frame, .int .i64 c.base, .int .i64 c.line, .int .i64 c.object, .slice B1 c.dZ.length m1, .slice B2 c.dU.length m2, .slice B3 c.eu.length m3, .slice B4 c.cells.length m4, .int .i64 c.gN, .int .i64 c.kJ, .int .i64 c.fQ, .slice zA c.fP.length zB]) ?_ rfl ⟨[Value.int .i64 c.kind, .int .i64 c.pc, .int .i64 c.frame, .int .i64 c.base, .int .i64 c.line, .int .i64 c.object, .slice B1 c.dZ.length m1, .slice B2 c.dU.length m2, .slice B3 c.eu.length m3, .slice B4 c.cells.length m4, .int .i64 c.gN, .int .i64 c.kJ, .int .i64 c.fQ, .slice zA c.fP.length zB], rfl, (.gG (.gG (.gG (.gG (.gG (.gG (.rR (mid := w1.heap.size) ?_ (.rR (mid := w2.heap.size) ?_ (.rR (mid := w3.heap.size) ?_ (.rR (mid := w4.heap.size) ?_ (gZ.app (ds := [Dat.int .i64 c.gN, .int .i64 c.kJ, .int .i64 c.fQ, .row 6 c.fP.length (flat aQ.ay c.fP)]) (vs := [Value.int .i64 c.gN, .int .i64 c.kJ, .int .i64 c.fQ, .slice zA c.fP.length zB]) (mid := w5.heap.size) ?_ .lu (by omega) (by first | (simp [World.setCell] <;> omega) | exact nR _ | omega)) (by omega) (by first | (simp [World.setCell] <;> omega) | exact nR _ | omega)) (by omega) (by first | (simp [World.setCell] <;> omega) | exact nR _ | omega)) (by omega) (by first | (simp [World.setCell] <;> omega) | exact nR _ | omega)) (by omega) (by first | (simp [World.setCell] <;> omega) | exact nR _ | omega)))))))), ?_⟩
 ·simp [results, Tryz.results129, go_sem, cr]
 ·refine dI.wide (lo := w.heap.size + 3) (hi := w1.heap.size) ?_ (by omega) (nR _)
  iterate 18 refine dI.eY ?_ (.inl (by simp <;> omega)) _
  exact R1
 ·refine dI.wide (lo := w1.heap.size) (hi := w2.heap.size) ?_ (by omega) (nR _)
  iterate 18 refine dI.eY ?_ (.inl (by simp <;> omega)) _
  exact R2
 ·refine dI.wide (lo := w2.heap.size) (hi := w3.heap.size) ?_ (by omega) (nR _)
  iterate 18 refine dI.eY ?_ (.inl (by simp <;> omega)) _
  exact R3
 ·refine dI.wide (lo := w3.heap.size) (hi := w4.heap.size) ?_ (by omega) (nR _)
  iterate 18 refine dI.eY ?_ (.inl (by simp <;> omega)) _
  exact R4
 ·refine gZ.wide (lo := w4.heap.size) (hi := w5.heap.size) ?_ (by omega) (nR _)
  iterate 18 refine gZ.eY ?_ (.inl (by simp <;> omega)) _
  exact R5
 ·iterate 18 refine Below.setCell ?_ (by simp <;> omega) _
  exact fr5.bel
theorem JY : (Tryz.prog.info? 160).map (fun i => (i.zero, i.size, i.bytes)) = some (some (.agg #[.int .i64 0, .int .i64 0, .int .i64 0, .int .i64 0, .int .i64 0, .int .i64 0, .slice none 0 0, .slice none 0 0, .slice none 0 0, .slice none 0 0, .int .i64 0, .int .i64 0, .int .i64 0, .slice none 0 0]), 14, 192) := by kernel_rfl
theorem CO (l : List jG) (v : Value) (w : World) (lo hi : Nat) (h : dz w lo hi 14 jG.ay v l) (hhi : hi ≤ w.heap.size) (hl : l.length + sumOf jG.dX l ≤ 1048576) :
 Calls Tryz.prog 89 #[v] w (vT 14 jG.ay l w) := by
 obtain ⟨i0, hi0, hz0, hz1, hz2⟩ := info_parts JY
 obtain ⟨A, cap, rfl, hc1, hc2⟩ := h.shape
 unfold maxLen at hc2
 go_enter Tryz.func89, Tryz.ntmps89
 go_wp2_with (first | (at_make; refine wpList_make_full w rfl (.tmp 6) (.tmp 6) 109 rfl w.heap.size 160 i0 _ 14 Tryz.underlying109 hi0 hz0 hz1 .i64 .i64 _ _ l.length rfl rfl rfl rfl (by rw [hz2]; omega) (by unfold maxLen; omega) (nR _) ?_))
 intro w1 hown hg
 have hb := kM hg (nR w.heap.size) (fun g hg => by cases hg)
 have hz : w.heap.size + 1 ≤ w1.heap.size := (hown.lt _ rfl).2
 obtain ⟨Z, hown⟩ : ∃ Z, w1.ownsRow w.heap.size 160 14 (.slice (some ⟨w.heap.size, 0, none⟩) l.length l.length) l.length Z := ⟨_, hown⟩
 have HZ := lH hown.1
 clear hg
 go_wp2_with fail
 go_loopw [4] (fun i wr => ∃ (k : Nat) (vs : List Value), k ≤ l.length ∧ i = .int .i64 k ∧ wr.ownsRow w.heap.size 160 14 (.slice (some ⟨w.heap.size, 0, none⟩) l.length l.length) l.length (vs ++ Z.drop (k * 14)) ∧ gZ wr (w.heap.size + 1) wr.heap.size (flat jG.ay (l.take k)) vs ∧ Below w.heap.size w wr ∧ w.heap.size + 1 ≤ wr.heap.size) (fun i _ => l.length - (intOf i).toNat)
 case atStart => exact ⟨0, [], nZ _, rfl, by simpa using hown, by simp only [List.take_zero, oP]; exact .lu, hb, hz⟩
 case round =>
  clear hown hb hz
  obtain ⟨k, vs, hk, rfl, hown, hrep, hb, hz⟩ := hrel
  obtain ⟨wo, rfl⟩ := nW wr
  have hvs : vs.length = k * 14 := by rw [hrep.len, qJ jG.gK, List.length_take, Nat.min_eq_left hk]
  have HV := lH hvs
  clear hvs
  by_cases hlt : k < l.length
  ·obtain ⟨c, hc⟩ : ∃ c, l[k]? = some c := ⟨_, gE hlt⟩
   obtain ⟨g, off, jf, iH, jg, iI, jh, iJ, pQ, oW, kr, jO, rfl, hg1, hg2, hmem, hcr, q0, q1, q2, q3, q4, q5, q6, q7, q8, q9, q10, q11, q12, q13⟩ := jG.at_ (h.below hb hhi) hc
   have HD := lH (rz (f := jG.ay) hc)
   have hbm := qK (b := jG.dX) hmem
   clear hc hmem
   go_wp2_with fail
   refine (D3 c _ _ _ _ hcr (by omega) (by omega)).mono ?_; rintro e w1 ⟨cs, rfl, hx, hb1⟩
   obtain ⟨nD, nH, nI, nJ, nM, nN, sK, sM, pJ, pK, hcs, _, _, _, _, _, _, _, _, _, _, _, _, _, _, _⟩ := jG.form ⟨cs, rfl, hx.rep⟩
   obtain rfl : cs = [Value.int .i64 c.kind, .int .i64 c.pc, .int .i64 c.frame, .int .i64 c.base, .int .i64 c.line, .int .i64 c.object, .slice nD c.dZ.length nH, .slice nI c.dU.length nJ, .slice nM c.eu.length nN, .slice sK c.cells.length sM, .int .i64 c.gN, .int .i64 c.kJ, .int .i64 c.fQ, .slice pJ c.fP.length pK] := congrArg Array.toList (Value.agg.inj hcs)
   have z1 := hb1.size
   have hown1 := pG hown hb1
   have qD := (hrep.below hb1 (nR _)).app hx hz z1
   have hb2 := hb.trans (hb1.mono (by omega))
   clear hown hrep hx hb1 hb hcr q0 q1 q2 q3 q4 q5 q6 q7 q8 q9 q10 q11 q12 q13
   obtain ⟨⟨o0, d0⟩, f0⟩ := gM hown1 (k * 14) (by omega)
   obtain ⟨⟨o1, d1⟩, f1⟩ := gM hown1 (k * 14 + 1) (by omega)
   obtain ⟨⟨o2, d2⟩, f2⟩ := gM hown1 (k * 14 + 2) (by omega)
   obtain ⟨⟨o3, d3⟩, f3⟩ := gM hown1 (k * 14 + 3) (by omega)
   obtain ⟨⟨o4, d4⟩, f4⟩ := gM hown1 (k * 14 + 4) (by omega)
   obtain ⟨⟨o5, d5⟩, f5⟩ := gM hown1 (k * 14 + 5) (by omega)
   obtain ⟨⟨o6, d6⟩, f6⟩ := gM hown1 (k * 14 + 6) (by omega)
   obtain ⟨⟨o7, d7⟩, f7⟩ := gM hown1 (k * 14 + 7) (by omega)
   obtain ⟨⟨o8, d8⟩, f8⟩ := gM hown1 (k * 14 + 8) (by omega)
   obtain ⟨⟨o9, d9⟩, f9⟩ := gM hown1 (k * 14 + 9) (by omega)
   obtain ⟨⟨o10, d10⟩, f10⟩ := gM hown1 (k * 14 + 10) (by omega)
   obtain ⟨⟨o11, d11⟩, f11⟩ := gM hown1 (k * 14 + 11) (by omega)
   obtain ⟨⟨o12, d12⟩, f12⟩ := gM hown1 (k * 14 + 12) (by omega)
   obtain ⟨⟨o13, d13⟩, f13⟩ := gM hown1 (k * 14 + 13) (by omega)
   have pO := qc [Value.int .i64 c.kind, .int .i64 c.pc, .int .i64 c.frame, .int .i64 c.base, .int .i64 c.line, .int .i64 c.object, .slice nD c.dZ.length nH, .slice nI c.dU.length nJ, .slice nM c.eu.length nN, .slice sK c.cells.length sM, .int .i64 c.gN, .int .i64 c.kJ, .int .i64 c.fQ, .slice pJ c.fP.length pK] _ _ (k * 14) hown1
   rw [oq _ _ _ HV.out (by rw [HZ.out]; simp; omega)] at pO
   have qQ := gZ.gq (g := w.heap.size) (.inl (Nat.lt_succ_self _)) [Value.int .i64 c.kind, .int .i64 c.pc, .int .i64 c.frame, .int .i64 c.base, .int .i64 c.line, .int .i64 c.object, .slice nD c.dZ.length nH, .slice nI c.dU.length nJ, .slice nM c.eu.length nN, .slice sK c.cells.length sM, .int .i64 c.gN, .int .i64 c.kJ, .int .i64 c.fQ, .slice pJ c.fP.length pK] _ (k * 14) qD
   have tC := lK (nR w.heap.size) [Value.int .i64 c.kind, .int .i64 c.pc, .int .i64 c.frame, .int .i64 c.base, .int .i64 c.line, .int .i64 c.object, .slice nD c.dZ.length nH, .slice nI c.dU.length nJ, .slice nM c.eu.length nN, .slice sK c.cells.length sM, .int .i64 c.gN, .int .i64 c.kJ, .int .i64 c.fQ, .slice pJ c.fP.length pK] _ _ (k * 14) hb2
   have qR := kK w.heap.size [Value.int .i64 c.kind, .int .i64 c.pc, .int .i64 c.frame, .int .i64 c.base, .int .i64 c.line, .int .i64 c.object, .slice nD c.dZ.length nH, .slice nI c.dU.length nJ, .slice nM c.eu.length nN, .slice sK c.cells.length sM, .int .i64 c.gN, .int .i64 c.kJ, .int .i64 c.fQ, .slice pJ c.fP.length pK] w1 (k * 14)
   simp only [gq, Nat.add_assoc, Nat.reduceAdd, List.length_cons, List.length_nil] at pO qQ tC qR
   have O2 := lH pO
   have R2 := lH qQ
   have S2 := lH qR
   clear pO qQ hown1 qD qR hcs
   go_wp2_with fail
   go_roundw
   case rel =>
    refine ⟨k + 1, vs ++ [Value.int .i64 c.kind, .int .i64 c.pc, .int .i64 c.frame, .int .i64 c.base, .int .i64 c.line, .int .i64 c.object, .slice nD c.dZ.length nH, .slice nI c.dU.length nJ, .slice nM c.eu.length nN, .slice sK c.cells.length sM, .int .i64 c.gN, .int .i64 c.kJ, .int .i64 c.fQ, .slice pJ c.fP.length pK], by omega, by go_num, ?_, ?_, tC, by rw [S2.out]; omega⟩
    ·rw [Nat.succ_mul]; exact O2.out
    ·rw [HD.out, S2.out]; exact R2.out
   case measure => simp [intOf]; omega
  ·obtain rfl : k = l.length := by omega
   rw [List.take_length] at hrep
   go_wp2_with fail
   go_ret
   rw [List.drop_eq_nil_of_le (by rw [HZ.out]; exact nR _), List.append_nil] at hown
   exact ⟨_, rfl, dI.mk_ (mid := w.heap.size + 1) hown hrep (by simp [Value.ownBlock]) (by omega) hz, hb⟩
end Go.Proofs.YtoddlphekcihgaaGreatDoor
