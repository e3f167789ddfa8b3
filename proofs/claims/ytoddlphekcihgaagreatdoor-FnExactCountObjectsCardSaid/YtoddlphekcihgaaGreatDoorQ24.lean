/- Frames and cells of a machine, of the reference. The rows of a machine: which are good, of the program. A valid generator, of the reference: the parts. The rows -/
import Derived.Test.YtoddlphekcihgaaGreatDoorQ15
import Derived.Test.YtoddlphekcihgaaGreatDoorQ20
set_option maxRecDepth 100000
set_option maxHeartbeats 8000000
set_option linter.unusedVariables false
set_option linter.unusedSimpArgs false
namespace Go.Proofs.YtoddlphekcihgaaGreatDoor
open Go.RowKit
theorem mR {P : Program} {f : FuncId} {args : Array Value} {w : World} {n : Nat} {v : Value}
 (h : Calls P f args (w.drewN n) fun e w' => e = .returned v ∧ w.drewN n = w') : Calls P f args (w.drewN n) fun e w'' => e = .returned v ∧ ∃ m, w'' = w.drewN m :=
 h.mono fun _ _ ⟨he, hm⟩ => ⟨he, n, hm.symm⟩
theorem gD (m : eG) (n : Int) (w : World) {g off lo hi : Nat} (h : At w g off lo hi eG.ay m) :
 Calls Tryz.prog 77 #[.pointer (some ⟨g, off, none⟩), .int .i64 n] w fun e w' => e = .returned (.bool (kU m.store n 1)) ∧ w = w' := by
 obtain ⟨An, nn, Ar, nr, Ao, no, Ag, ng, Au, nu, At', nt, Aa, na, hg, hle, hn, un, mn, hr, ur, mr, ho, uo, mo, hgl, ugl, mgl, hu, uu, mu, ht, ut, mt, ha, ua, ma, c0, c1, c2, c3, c4, c5, c6, c7, c8, c9, c10, c11, c12⟩ := dP.in_ (eG.qF h)
 unfold maxLen at mo
 clear hn hr hgl hu ht ha c0 c1 c3 c4 c5 c6 c7 c8 c9 c10 c11 c12
 cases hi : inB n 0 ((m.store.aI.length : Int) - 1) with
 | false =>
   have HV : Hid (kU m.store n 1 = false) := by
    simp [inB] at hi
    by_cases h0 : n < 0
    ·exact uE h0
    ·exact lJ (by omega)
   have HI := lH hi
   clear hi
   go_enter Tryz.func77, Tryz.ntmps77
   go_wp2_with (first | (go_at_call 36; refine (bJ n 0 _ _).mono ?_; rw [HI.out]; rintro e w1 ⟨rfl, rfl⟩) | fail)
   go_ret
   exact ⟨ah HV.out.symm, rfl⟩
 | true =>
   have hb : 0 ≤ n ∧ n < (m.store.aI.length : Int) := by simp [inB] at hi; omega
   obtain ⟨j, rfl⟩ : ∃ j : Nat, n = j := ⟨n.toNat, by omega⟩
   obtain ⟨o, hc⟩ : ∃ o, m.store.aI[j]? = some o := ⟨_, gE (by omega)⟩
   obtain ⟨g', off', Ai, ni, Ak, nk, rfl, hg1, hg2, hmem, hrep, q0, q1, q2, q3, q4⟩ := fV.at_ ho hc
   have HV := lH (nP (k := 1) hc)
   have HI := lH hi
   clear hc hmem hrep ho hi
   go_enter Tryz.func77, Tryz.ntmps77
   go_wp2_with (first | (go_at_call 36; refine (bJ _ 0 _ _).mono ?_; rw [HI.out]; rintro e w1 ⟨rfl, rfl⟩) | fail)
   go_ret
   exact ⟨ah (by rw [HV.out]; rw [Bool.eq_iff_iff]; simp), rfl⟩
theorem ny (m : eG) (l : List kG) (v : Value) (w : World) {g off lo hi lo' hi' : Nat} (h : At w g off lo hi eG.ay m) (hv : dz w lo' hi' 8 kG.ay v l) (hhi : hi' ≤ w.heap.size) :
 Calls Tryz.prog 101 #[.pointer (some ⟨g, off, none⟩), v] w fun e w' => e = .returned (.bool (l.all (iD m))) ∧ Below w.heap.size w w' := by
 obtain ⟨A, cap, rfl, hc1, hc2⟩ := hv.shape
 unfold maxLen at hc2
 obtain ⟨A0, n0, A4, n4, hg, r1, r2, r3, r4, cr, ci⟩ := eG.lens h
 go_enter Tryz.func101, Tryz.ntmps101
 go_wp2_with fail
 go_loopw [9] (fun i wr => ∃ k : Nat, k ≤ l.length ∧ i = .int .i64 k ∧ Hid ((l.take k).all (iD m) = true) ∧ Below w.heap.size w wr) (fun i _ => l.length - (intOf i).toNat)
 case atStart => exact ⟨0, nZ _, rfl, by simp [Hid], bR _ _⟩
 case round =>
  obtain ⟨k, hk, rfl, hgo, hb⟩ := hrel
  obtain ⟨wo, rfl⟩ := nW wr
  have hz := hb.size
  have hgo' : g < wo.heap.size := nL hg hz
  replace cr := (hb.cell (p := ⟨g, off, none⟩) hg).trans cr
  replace ci := (hb.cell (p := ⟨g, off + 4, none⟩) hg).trans ci
  by_cases hlt : k < l.length
  ·obtain ⟨c, hc⟩ : ∃ c, l[k]? = some c := ⟨_, gE hlt⟩
   obtain ⟨g', off', rfl, hg1, hg2, hmem, hrep, q0, q1, q2, q3, q4, q5, q6, q7⟩ := kG.at_ (hv.below hb hhi) hc
   have HN := lH (fun h => fJ (q := (iD m)) hc hgo.out h)
   have HF := lH (fun h => lI (q := (iD m)) (mG hc) h)
   clear hc hgo hmem hrep
   have hwa : Below w.heap.size w (wo.alloc (.cells #[Value.int .i64 c.ret, .int .i64 c.frame, .int .i64 c.routine, .int .i64 c.height, .int .i64 c.dU, .int .i64 c.dx, .int .i64 c.eT, .int .i64 c.line] 210)) := hb.alloc hz _
   have h0 := h.below hwa
   have hga : g < (wo.alloc (.cells #[Value.int .i64 c.ret, .int .i64 c.frame, .int .i64 c.routine, .int .i64 c.height, .int .i64 c.dU, .int .i64 c.dx, .int .i64 c.eT, .int .i64 c.line] 210)).heap.size := nL hg hwa.size
   have a0 := Blk.new wo 210 #[Value.int .i64 c.ret, .int .i64 c.frame, .int .i64 c.routine, .int .i64 c.height, .int .i64 c.dU, .int .i64 c.dx, .int .i64 c.eT, .int .i64 c.line]
   have hs0 := eG.qF h0
   go_upto_region 4 with fail
   rcases dC (c.ret < -1) with ⟨t0, d0⟩ | ⟨t0, d0⟩
   ·have HV : iD m c = false := by rw [Bool.eq_false_iff]; intro h; simp [iD] at h; omega
    clear t0
    go_quiet (fail)
    have HF := lH (HF.out HV)
    clear HN
    go_wp2_with fail
    go_ret
    exact ⟨ah HF.out.symm, (by first | exact hwa | exact bN hwa _ | exact aC hwa)⟩
   rcases dC ((m.code.av.length : Int) < c.ret) with ⟨t1, d1⟩ | ⟨t1, d1⟩
   ·have HV : iD m c = false := by rw [Bool.eq_false_iff]; intro h; simp [iD] at h; omega
    clear t0 t1
    go_quiet (fail)
    have HF := lH (HF.out HV)
    clear HN
    go_wp2_with fail
    go_ret
    exact ⟨ah HF.out.symm, (by first | exact hwa | exact bN hwa _ | exact aC hwa)⟩
   rcases dC (c.routine < 0) with ⟨t2, d2⟩ | ⟨t2, d2⟩
   ·have HV : iD m c = false := by rw [Bool.eq_false_iff]; intro h; simp [iD] at h; omega
    clear t0 t1 t2
    go_quiet (fail)
    have HF := lH (HF.out HV)
    clear HN
    go_wp2_with fail
    go_ret
    exact ⟨ah HF.out.symm, (by first | exact hwa | exact bN hwa _ | exact aC hwa)⟩
   rcases dC ((m.code.au.length : Int) ≤ c.routine) with ⟨t3, d3⟩ | ⟨t3, d3⟩
   ·have HV : iD m c = false := by rw [Bool.eq_false_iff]; intro h; simp [iD] at h; omega
    clear t0 t1 t2 t3
    go_quiet (fail)
    have HF := lH (HF.out HV)
    clear HN
    go_wp2_with fail
    go_ret
    exact ⟨ah HF.out.symm, (by first | exact hwa | exact bN hwa _ | exact aC hwa)⟩
   rcases dC (c.height < 0) with ⟨t4, d4⟩ | ⟨t4, d4⟩
   ·have HV : iD m c = false := by rw [Bool.eq_false_iff]; intro h; simp [iD] at h; omega
    clear t0 t1 t2 t3 t4
    go_quiet (fail)
    have HF := lH (HF.out HV)
    clear HN
    go_wp2_with fail
    go_ret
    exact ⟨ah HF.out.symm, (by first | exact hwa | exact bN hwa _ | exact aC hwa)⟩
   rcases dC (c.dU < 0) with ⟨t5, d5⟩ | ⟨t5, d5⟩
   ·have HV : iD m c = false := by rw [Bool.eq_false_iff]; intro h; simp [iD] at h; omega
    clear t0 t1 t2 t3 t4 t5
    go_quiet (fail)
    have HF := lH (HF.out HV)
    clear HN
    go_wp2_with fail
    go_ret
    exact ⟨ah HF.out.symm, (by first | exact hwa | exact bN hwa _ | exact aC hwa)⟩
   rcases dC (c.dx < 0) with ⟨t6, d6⟩ | ⟨t6, d6⟩
   ·have HV : iD m c = false := by rw [Bool.eq_false_iff]; intro h; simp [iD] at h; omega
    clear t0 t1 t2 t3 t4 t5 t6
    go_quiet (fail)
    have HF := lH (HF.out HV)
    clear HN
    go_wp2_with fail
    go_ret
    exact ⟨ah HF.out.symm, (by first | exact hwa | exact bN hwa _ | exact aC hwa)⟩
   rcases dC (c.eT < 0) with ⟨t7, d7⟩ | ⟨t7, d7⟩
   ·have HV : iD m c = false := by rw [Bool.eq_false_iff]; intro h; simp [iD] at h; omega
    clear t0 t1 t2 t3 t4 t5 t6 t7
    go_quiet (fail)
    have HF := lH (HF.out HV)
    clear HN
    go_wp2_with fail
    go_ret
    exact ⟨ah HF.out.symm, (by first | exact hwa | exact bN hwa _ | exact aC hwa)⟩
   rcases dC (c.line < 0) with ⟨t8, d8⟩ | ⟨t8, d8⟩
   ·have HV : iD m c = false := by rw [Bool.eq_false_iff]; intro h; simp [iD] at h; omega
    clear t0 t1 t2 t3 t4 t5 t6 t7 t8
    go_quiet (fail)
    have HF := lH (HF.out HV)
    clear HN
    go_wp2_with fail
    go_ret
    exact ⟨ah HF.out.symm, (by first | exact hwa | exact bN hwa _ | exact aC hwa)⟩
   have HV : Hid (iD m c = kU m.store c.frame 1) := lH (by rw [iD, dT (by omega : -1 ≤ c.ret), dT (by omega : c.ret ≤ (m.code.av.length : Int)), dT (by omega : 0 ≤ c.routine), dT (by omega : c.routine < (m.code.au.length : Int)), dT (by omega : 0 ≤ c.height), dT (by omega : 0 ≤ c.dU), dT (by omega : 0 ≤ c.dx), dT (by omega : 0 ≤ c.eT), dT (by omega : 0 ≤ c.line)]; rfl)
   clear t0 t1 t2 t3 t4 t5 t6 t7 t8
   cases hq : kU m.store c.frame 1 with
   | true =>
     have HV := HV.out.trans hq
     have HQ := lH hq
     clear hq
     go_quiet (first | (go_at_call 94; exact mR ((fF m.store c.frame 1 _ (hs0.drewN _)).mono fun _ _ ⟨a, b⟩ => ⟨a.trans (by rw [HQ.out]), b⟩)) | fail)
     have HN := lH (HN.out HV)
     clear HF
     go_wp2_with fail
     go_roundw
     case rel => exact ⟨k + 1, by omega, by go_num, HN, (by first | exact hwa | exact bN hwa _ | exact aC hwa)⟩
     case measure => simp [intOf]; omega
   | false =>
     have HV := HV.out.trans hq
     have HQ := lH hq
     clear hq
     go_quiet (first | (go_at_call 94; exact mR ((fF m.store c.frame 1 _ (hs0.drewN _)).mono fun _ _ ⟨a, b⟩ => ⟨a.trans (by rw [HQ.out]), b⟩)) | fail)
     have HF := lH (HF.out HV)
     clear HN
     go_wp2_with fail
     go_ret
     exact ⟨ah HF.out.symm, (by first | exact hwa | exact bN hwa _ | exact aC hwa)⟩
  ·obtain rfl : k = l.length := by omega
   rw [List.take_length] at hgo
   go_wp2_with fail
   go_ret
   exact ⟨ah hgo.out.symm, hb⟩
theorem Ab (c : aQ) (x : Value) (w : World) {lo hi : Nat} (hx : fA w lo hi aQ.ay x c) :
 Calls Tryz.prog 154 #[x] w fun e w' => e = .returned (.bool (zk c)) ∧ Below w.heap.size w w' := by
 obtain rfl := aQ.form hx
 have hW : Below w.heap.size w (w.alloc (.cells #[Value.int .i64 c.kind, .int .i64 c.number, .int .i64 c.index, .string c.text, .int .i64 c.eB, .int .i64 c.dW] 56)) := bA _ _
 cases hd : decide (13 ≤ c.kind) with
 | false =>
   have HO : Hid (zk c = false) := lH (by rw [zk, hd]; rfl)
   go_enter Tryz.func154, Tryz.ntmps154
   go_wp2_with fail
   go_ret
   exact ⟨ah HO.out.symm, hW⟩
 | true =>
   have HO : Hid (zk c = decide (c.kind ≤ 18)) := lH (by rw [zk, hd]; rfl)
   go_enter Tryz.func154, Tryz.ntmps154
   go_wp2_with fail
   go_ret
   exact ⟨ah HO.out.symm, hW⟩
def atB (t : ByteArray) (n : Int) : Bool := decide (t.size ≤ 120) && decide (1 ≤ n) && decide (n ≤ (t.size : Int) + 1)
theorem CU (t : ByteArray) (n : Int) (w : World) :
 Calls Tryz.prog 153 #[.string t, .int .i64 n] w fun e w' => e = .returned (.bool (atB t n)) ∧ w = w' := by
 generalize hV : atB t n = V
 have HE : Hid (V = (decide (t.size ≤ 120) && decide (1 ≤ n) && decide (n ≤ (t.size : Int) + 1))) := by rw [← hV]; rfl
 clear hV
 rcases (Classical.em (t.size ≤ 120)).symm with k1 | k1
 have d1 : decide ((t.size : Int) ≤ 120) = false := dF (by omega)
 have HO : Hid (V = false) := lH (by rw [HE.out, dF k1]; rfl)
 clear HE k1
 rotate_left
 have d1 : decide ((t.size : Int) ≤ 120) = true := dT (by omega)
 rcases (Classical.em (1 ≤ n)).symm with k2 | k2
 have d2 := dF k2
 have HO : Hid (V = false) := lH (by rw [HE.out, dF k2]; simp)
 clear HE k2
 rotate_left
 have d2 := dT k2
 have hwr : IntKind.i64.wrap ((t.size : Int) + 1) = (t.size : Int) + 1 := IntWalk.i64_in _ (by omega)
 have HO : Hid (V = decide (n ≤ (t.size : Int) + 1)) := lH (by rw [HE.out, dT k1, dT k2]; rfl)
 clear HE
 iterate 3 focus
  go_enter Tryz.func153, Tryz.ntmps153
  go_wp2_with fail
  go_ret
  exact ⟨ah HO.out.symm, rfl⟩
theorem nA (c : iY) (ks : List Int) (y v : Value) (w : World) {lo hi lo' hi' : Nat} (hy : fA w lo hi iY.ay y c) (hv : dz w lo' hi' 1 gW v ks) (hhi : hi ≤ w.heap.size) (eP : hi' ≤ w.heap.size) :
 Calls Tryz.prog 152 #[y, v] w fun e w' => e = .returned (.bool (rF c.args ks)) ∧ Below w.heap.size w w' := by
 obtain ⟨AG, nG, rfl, hg, ug, mg⟩ := iY.form hy
 obtain ⟨AK, nK, rfl, uk, mk⟩ := hv.shape
 unfold maxLen at mg mk
 clear hy
 obtain ⟨a0, hW⟩ := eZ w 158 #[.int .i64 c.kind, .int .i64 c.op, .int .i64 c.count, .slice AG c.args.length nG]
 generalize hV : rF c.args ks = V
 by_cases hl : c.args.length = ks.length
 rotate_left
 ·have dl : ((c.args.length : Int) != (ks.length : Int)) = true := by simp; omega
  have HO : Hid (V = false) := lH (by rw [← hV, Et hl])
  clear hV hl
  go_enter Tryz.func152, Tryz.ntmps152
  go_wp2_with fail
  go_ret
  exact ⟨ah HO.out.symm, hW⟩
 have dl : ((c.args.length : Int) != (ks.length : Int)) = false := by simp; omega
 have HL := lH hl
 clear hl
 have HV := lH hV
 clear hV
 go_enter Tryz.func152, Tryz.ntmps152
 go_upto_region 1 with fail
 generalize w.alloc (.cells #[Value.int .i64 c.kind, .int .i64 c.op, .int .i64 c.count, .slice AG c.args.length nG] 158) = W at *
 have ca := a0.cell
 have la := a0.lt
 go_wp2_with fail
 go_loopw [5] (fun i wr => ∃ k : Nat, k ≤ ks.length ∧ i = .int .i64 k ∧ Hid ((c.args.take k).map aQ.kind = ks.take k) ∧ Below W.heap.size W wr) (fun i _ => ks.length - (intOf i).toNat)
 case atStart => exact ⟨0, nZ _, rfl, by simp [Hid], bR _ _⟩
 case round =>
  obtain ⟨k, hk, rfl, hgo, hb⟩ := hrel
  obtain ⟨wo, rfl⟩ := nW wr
  have hWo := hW.trans (hb.mono hW.size)
  have a1 := a0.later hb
  clear ca la
  have ca := a1.cell
  have la := a1.lt
  by_cases hlt : k < ks.length
  ·obtain ⟨a, ha⟩ : ∃ a, c.args[k]? = some a := ⟨_, gE (by have := HL.out; omega)⟩
   obtain ⟨n, hn⟩ : ∃ n, ks[k]? = some n := ⟨_, gE hlt⟩
   obtain ⟨g', off', rfl, hg1, hg2, -, -, q0, q1, q2, q3, q4, q5⟩ := aQ.at_ (hg.below hWo hhi) ha
   obtain ⟨g2, off2, rfl, hg3, hg4, p0⟩ := (hv.below hWo eP).num hn
   have hka : (k : Int) < (c.args.length : Int) := by have := HL.out; omega
   by_cases hkn : a.kind = n
   ·have dk : (a.kind != n) = false := by simp [hkn]
    have HN := lH (Iq ha hn hkn hgo.out)
    clear hkn ha hn hgo q1 q2 q3 q4 q5
    go_upto_region 6 with fail
    go_quiet (fail)
    go_wp2_with fail
    go_roundw
    case rel => exact ⟨k + 1, by omega, by go_num, HN, (by first | exact hb | exact bN hb _)⟩
    case measure => simp [intOf]; omega
   ·have dk : (a.kind != n) = true := by simp [hkn]
    have HO : Hid (V = false) := lH (by rw [← HV.out, Lt ha hn hkn])
    clear hkn ha hn hgo q1 q2 q3 q4 q5
    go_upto_region 6 with fail
    go_quiet (fail)
    go_wp2_with fail
    go_ret
    exact ⟨ah HO.out.symm, (by first | exact hWo | exact bN hWo _)⟩
  ·obtain rfl : k = ks.length := by omega
   have HO : Hid (V = true) := by
    show _ = _
    have e := hgo.out
    rw [List.take_length, ← HL.out, List.take_length] at e
    rw [← HV.out, rF, e]; simp
   clear hgo
   go_wp2_with fail
   go_ret
   exact ⟨ah HO.out.symm, hWo⟩
theorem qp (m : eG) (l : List Int) (v : Value) (w : World) {g off lo hi lo' hi' : Nat} (h : At w g off lo hi eG.ay m) (hv : dz w lo' hi' 1 gW v l) (hhi : hi' ≤ w.heap.size) :
 Calls Tryz.prog 80 #[.pointer (some ⟨g, off, none⟩), v] w fun e w' => e = .returned (.bool (l.all (mI m.store))) ∧ Below w.heap.size w w' := by
 obtain ⟨A, cap, rfl, hc1, hc2⟩ := hv.shape
 unfold maxLen at hc2
 obtain ⟨A0, n0, A4, n4, hg, r1, r2, r3, r4, cr, ci⟩ := eG.lens h
 go_enter Tryz.func80, Tryz.ntmps80
 go_wp2_with fail
 go_loopw [5] (fun i wr => ∃ k : Nat, k ≤ l.length ∧ i = .int .i64 k ∧ Hid ((l.take k).all (mI m.store) = true) ∧ Below w.heap.size w wr) (fun i _ => l.length - (intOf i).toNat)
 case atStart => exact ⟨0, nZ _, rfl, by simp [Hid], bR _ _⟩
 case round =>
  obtain ⟨k, hk, rfl, hgo, hb⟩ := hrel
  obtain ⟨wo, rfl⟩ := nW wr
  have hz := hb.size
  have hgo' : g < wo.heap.size := nL hg hz
  replace cr := (hb.cell (p := ⟨g, off, none⟩) hg).trans cr
  replace ci := (hb.cell (p := ⟨g, off + 4, none⟩) hg).trans ci
  by_cases hlt : k < l.length
  ·obtain ⟨c, hc⟩ : ∃ c, l[k]? = some c := ⟨_, gE hlt⟩
   obtain ⟨g', off', rfl, hg1, hg2, q0⟩ := (hv.below hb hhi).num hc
   have HN := lH (fun h => fJ (q := (mI m.store)) hc hgo.out h)
   have HF := lH (fun h => lI (q := (mI m.store)) (mG hc) h)
   clear hc hgo
   have hwa := hb
   have h0 := h.below hwa
   have hs0 := eG.qF h0
   obtain ⟨An, nn, Ar, nr, Ao, no, Ag, ng, Au, nu, At', nt, Aa, na, wE, hle, hn, un, mn, hr, ur, mr, ho, uo, mo, hgl, ugl, mgl, hu, uu, mu, ht, ut, mt, ha, ua, ma, s0, s1, s2, s3, s4, s5, s6, s7, s8, s9, s10, s11, s12⟩ := dP.in_ hs0
   unfold maxLen at mo
   clear hn hr hgl hu ht ha s0 s1 s3 s4 s5 s6 s7 s8 s9 s10 s11 s12 cr ci
   have hwr : IntKind.i64.wrap ((m.store.aI.length : Int) - 1) = (m.store.aI.length : Int) - 1 := IntWalk.i64_in _ (by omega)
   cases hi : inB c 0 ((m.store.aI.length : Int) - 1) with
   | false =>
     have HV : mI m.store c = false := by
      simp [inB] at hi
      by_cases h0 : c < 0
      ·exact uE h0
      ·exact lJ (by omega)
     have HI := lH hi
     clear hi ho
     go_upto_region 4 with fail
     go_quiet (first | (go_at_call 36; exact mR ((bJ _ 0 _ _).mono fun _ _ ⟨a, b⟩ => ⟨a.trans (by rw [HI.out]), b⟩)) | fail)
     have HF := lH (HF.out HV)
     clear HN
     go_wp2_with fail
     go_ret
     exact ⟨ah HF.out.symm, (by first | exact hwa | exact bN hwa _ | exact aC hwa)⟩
   | true =>
     have hb' : 0 ≤ c ∧ c < (m.store.aI.length : Int) := by simp [inB] at hi; omega
     obtain ⟨j, rfl⟩ : ∃ j : Nat, c = j := ⟨c.toNat, by omega⟩
     obtain ⟨o, hc⟩ : ∃ o, m.store.aI[j]? = some o := ⟨_, gE (by omega)⟩
     obtain ⟨g2, off2, Ai, ni, Ak, nk, rfl, hg3, hg4, hmem, hrep, p0, p1, p2, p3, p4⟩ := fV.at_ ho hc
     have HQ := lH (nP (k := 9) hc)
     have HI := lH hi
     clear hc hmem hrep ho hi
     go_upto_region 4 with fail
     by_cases hk9 : o.kind = 9
     ·have he : (o.kind != 9) = false := by simp [hk9]
      have HV : mI m.store j = true := by show kU _ _ _ = true; rw [HQ.out, dT hk9]
      go_quiet (first | (go_at_call 36; exact mR ((bJ _ 0 _ _).mono fun _ _ ⟨a, b⟩ => ⟨a.trans (by rw [HI.out]), b⟩)) | fail)
      have HN := lH (HN.out HV)
      clear HF
      go_wp2_with fail
      go_roundw
      case rel => exact ⟨k + 1, by omega, by go_num, HN, (by first | exact hwa | exact bN hwa _ | exact aC hwa)⟩
      case measure => simp [intOf]; omega
     ·have he : (o.kind != 9) = true := by simp [hk9]
      have HV : mI m.store j = false := by show kU _ _ _ = false; rw [HQ.out, dF hk9]
      go_quiet (first | (go_at_call 36; exact mR ((bJ _ 0 _ _).mono fun _ _ ⟨a, b⟩ => ⟨a.trans (by rw [HI.out]), b⟩)) | fail)
      have HF := lH (HF.out HV)
      clear HN
      go_wp2_with fail
      go_ret
      exact ⟨ah HF.out.symm, (by first | exact hwa | exact bN hwa _ | exact aC hwa)⟩
  ·obtain rfl : k = l.length := by omega
   rw [List.take_length] at hgo
   go_wp2_with fail
   go_ret
   exact ⟨ah hgo.out.symm, hb⟩
theorem nC (m : eG) (l : List kH) (v : Value) (w : World) {g off lo hi lo' hi' : Nat} (h : At w g off lo hi eG.ay m) (hv : dz w lo' hi' 5 kH.ay v l) (hhi : hi' ≤ w.heap.size) :
 Calls Tryz.prog 78 #[.pointer (some ⟨g, off, none⟩), v] w fun e w' => e = .returned (.bool (l.all (kF m.code.av.length))) ∧ Below w.heap.size w w' := by
 obtain ⟨A, cap, rfl, hc1, hc2⟩ := hv.shape
 unfold maxLen at hc2
 obtain ⟨A0, n0, A4, n4, hg, r1, r2, r3, r4, cr, ci⟩ := eG.lens h
 go_enter Tryz.func78, Tryz.ntmps78
 go_wp2_with fail
 go_loopw [5] (fun i wr => ∃ k : Nat, k ≤ l.length ∧ i = .int .i64 k ∧ Hid ((l.take k).all (kF m.code.av.length) = true) ∧ Below w.heap.size w wr) (fun i _ => l.length - (intOf i).toNat)
 case atStart => exact ⟨0, nZ _, rfl, by simp [Hid], bR _ _⟩
 case round =>
  obtain ⟨k, hk, rfl, hgo, hb⟩ := hrel
  obtain ⟨wo, rfl⟩ := nW wr
  have hz := hb.size
  have hgo' : g < wo.heap.size := nL hg hz
  replace cr := (hb.cell (p := ⟨g, off, none⟩) hg).trans cr
  replace ci := (hb.cell (p := ⟨g, off + 4, none⟩) hg).trans ci
  by_cases hlt : k < l.length
  ·obtain ⟨c, hc⟩ : ∃ c, l[k]? = some c := ⟨_, gE hlt⟩
   obtain ⟨g', off', rfl, hg1, hg2, hmem, hrep, q0, q1, q2, q3, q4⟩ := kH.at_ (hv.below hb hhi) hc
   have HN := lH (fun h => fJ (q := (kF m.code.av.length)) hc hgo.out h)
   have HF := lH (fun h => lI (q := (kF m.code.av.length)) (mG hc) h)
   clear hc hgo hmem hrep
   have hwa : Below w.heap.size w (wo.alloc (.cells #[Value.int .i64 c.fail, .int .i64 c.height, .int .i64 c.dx, .int .i64 c.eT, .int .i64 c.count] 208)) := hb.alloc hz _
   have h0 := h.below hwa
   have hga : g < (wo.alloc (.cells #[Value.int .i64 c.fail, .int .i64 c.height, .int .i64 c.dx, .int .i64 c.eT, .int .i64 c.count] 208)).heap.size := nL hg hwa.size
   have a0 := Blk.new wo 208 #[Value.int .i64 c.fail, .int .i64 c.height, .int .i64 c.dx, .int .i64 c.eT, .int .i64 c.count]
   have hs0 := eG.qF h0
   go_upto_region 5 with fail
   rcases dC (c.fail < -1) with ⟨t0, d0⟩ | ⟨t0, d0⟩
   ·have HV : kF m.code.av.length c = false := by rw [Bool.eq_false_iff]; intro h; simp [kF] at h; omega
    clear t0
    go_quiet (fail)
    have HF := lH (HF.out HV)
    clear HN
    go_wp2_with fail
    go_ret
    exact ⟨ah HF.out.symm, (by first | exact hwa | exact bN hwa _ | exact aC hwa)⟩
   rcases dC ((m.code.av.length : Int) ≤ c.fail) with ⟨t1, d1⟩ | ⟨t1, d1⟩
   ·have HV : kF m.code.av.length c = false := by rw [Bool.eq_false_iff]; intro h; simp [kF] at h; omega
    clear t0 t1
    go_quiet (fail)
    have HF := lH (HF.out HV)
    clear HN
    go_wp2_with fail
    go_ret
    exact ⟨ah HF.out.symm, (by first | exact hwa | exact bN hwa _ | exact aC hwa)⟩
   rcases dC (c.height < 0) with ⟨t2, d2⟩ | ⟨t2, d2⟩
   ·have HV : kF m.code.av.length c = false := by rw [Bool.eq_false_iff]; intro h; simp [kF] at h; omega
    clear t0 t1 t2
    go_quiet (fail)
    have HF := lH (HF.out HV)
    clear HN
    go_wp2_with fail
    go_ret
    exact ⟨ah HF.out.symm, (by first | exact hwa | exact bN hwa _ | exact aC hwa)⟩
   rcases dC (c.dx < 0) with ⟨t3, d3⟩ | ⟨t3, d3⟩
   ·have HV : kF m.code.av.length c = false := by rw [Bool.eq_false_iff]; intro h; simp [kF] at h; omega
    clear t0 t1 t2 t3
    go_quiet (fail)
    have HF := lH (HF.out HV)
    clear HN
    go_wp2_with fail
    go_ret
    exact ⟨ah HF.out.symm, (by first | exact hwa | exact bN hwa _ | exact aC hwa)⟩
   rcases dC (c.eT < 0) with ⟨t4, d4⟩ | ⟨t4, d4⟩
   ·have HV : kF m.code.av.length c = false := by rw [Bool.eq_false_iff]; intro h; simp [kF] at h; omega
    clear t0 t1 t2 t3 t4
    go_quiet (fail)
    have HF := lH (HF.out HV)
    clear HN
    go_wp2_with fail
    go_ret
    exact ⟨ah HF.out.symm, (by first | exact hwa | exact bN hwa _ | exact aC hwa)⟩
   have HV : kF m.code.av.length c = true := by simp [kF]; omega
   clear t0 t1 t2 t3 t4
   go_quiet (fail)
   have HN := lH (HN.out HV)
   clear HF
   go_wp2_with fail
   go_roundw
   case rel => exact ⟨k + 1, by omega, by go_num, HN, (by first | exact hwa | exact bN hwa _ | exact aC hwa)⟩
   case measure => simp [intOf]; omega
  ·obtain rfl : k = l.length := by omega
   rw [List.take_length] at hgo
   go_wp2_with fail
   go_ret
   exact ⟨ah hgo.out.symm, hb⟩
theorem FL (c : jS) (x y : Value) (w : World) (lo hi lo' hi' : Nat) (h : fA w lo hi jS.ay x c) (h' : fA w lo' hi' jS.ay y c) (hhi : hi ≤ w.heap.size) (eP : hi' ≤ w.heap.size) :
 Calls Tryz.prog 61 #[x, y] w fun e w' => e = .returned (.bool true) ∧ Below w.heap.size w w' := by
 obtain ⟨jf, iH, jg, iI, jh, iJ, lM, kV, pR, oZ, rfl, sS, Cu, wY, hmarks, Cv, wZ, sU, Cw, xg, vI, GZ, zC, yL, Mj, FM⟩ := jS.form h
 obtain ⟨nD, nH, nI, nJ, nM, nN, qz, qA, sN, sO, rfl, Fv, NB, NC, Fw, ND, NF, Fx, NG, NH, J4, QX, QY, N9, Ud, Ue⟩ := jS.form h'
 have UK : (c.state != c.state) = false := by simp
 have O4 : (c.entry != c.entry) = false := by simp
 have NI : (c.object != c.object) = false := by simp
 have bpc : (c.pc != c.pc) = false := by simp
 have H6 : (c.frame != c.frame) = false := by simp
 have Mk := str_eq c.dR
 have J5 : (c.dL != c.dL) = false := by simp
 have hw0 : Below w.heap.size w ((w.alloc (.cells #[Value.int .i64 c.state, .int .i64 c.entry, .int .i64 c.object, .int .i64 c.pc, .int .i64 c.frame, .slice jf c.dZ.length iH, .slice jg c.dU.length iI, .slice jh c.eu.length iJ, .slice lM c.dx.length kV, .slice pR c.eT.length oZ, .string c.dR, .int .i64 c.dL] 111)).alloc (.cells #[Value.int .i64 c.state, .int .i64 c.entry, .int .i64 c.object, .int .i64 c.pc, .int .i64 c.frame, .slice nD c.dZ.length nH, .slice nI c.dU.length nJ, .slice nM c.eu.length nN, .slice qz c.dx.length qA, .slice sN c.eT.length sO, .string c.dR, .int .i64 c.dL] 111)) := (bA _ _).alloc (by simp) _
 have a0 := (Blk.new w 111 #[Value.int .i64 c.state, .int .i64 c.entry, .int .i64 c.object, .int .i64 c.pc, .int .i64 c.frame, .slice jf c.dZ.length iH, .slice jg c.dU.length iI, .slice jh c.eu.length iJ, .slice lM c.dx.length kV, .slice pR c.eT.length oZ, .string c.dR, .int .i64 c.dL]).alloc (.cells #[Value.int .i64 c.state, .int .i64 c.entry, .int .i64 c.object, .int .i64 c.pc, .int .i64 c.frame, .slice nD c.dZ.length nH, .slice nI c.dU.length nJ, .slice nM c.eu.length nN, .slice qz c.dx.length qA, .slice sN c.eT.length sO, .string c.dR, .int .i64 c.dL] 111)
 have e0 := Blk.newAt (w.alloc (.cells #[Value.int .i64 c.state, .int .i64 c.entry, .int .i64 c.object, .int .i64 c.pc, .int .i64 c.frame, .slice jf c.dZ.length iH, .slice jg c.dU.length iI, .slice jh c.eu.length iJ, .slice lM c.dx.length kV, .slice pR c.eT.length oZ, .string c.dR, .int .i64 c.dL] 111)) 111 #[Value.int .i64 c.state, .int .i64 c.entry, .int .i64 c.object, .int .i64 c.pc, .int .i64 c.frame, .slice nD c.dZ.length nH, .slice nI c.dU.length nJ, .slice nM c.eu.length nN, .slice qz c.dx.length qA, .slice sN c.eT.length sO, .string c.dR, .int .i64 c.dL] (w.heap.size + 1) (by simp)
 go_enter Tryz.func61, Tryz.ntmps61
 go_wp2_with fail
 refine (rV c.dZ _ _ _ lo hi lo' hi' (sS.below hw0 hhi) (Fv.below hw0 eP) (nT hhi hw0.size) (nT eP hw0.size)).mono ?_; rintro e w1 ⟨rfl, hb1⟩
 have hw1 : Below w.heap.size w w1 := hw0.trans (hb1.mono hw0.size)
 have a1 := a0.later hb1
 have e1 := e0.later hb1
 have ca := a1.cell
 have ce := e1.cell
 have la := a1.lt
 have le := e1.lt
 clear hb1
 go_wp2_with fail
 refine (AQ c.dU _ _ _ lo hi lo' hi' (hmarks.below hw1 hhi) (Fw.below hw1 eP) (nT hhi hw1.size) (nT eP hw1.size)).mono ?_; rintro e w2 ⟨rfl, hb2⟩
 have hw2 : Below w.heap.size w w2 := hw1.trans (hb2.mono hw1.size)
 have a2 := a1.later hb2
 have e2 := e1.later hb2
 clear ca ce la le
 have ca := a2.cell
 have ce := e2.cell
 have la := a2.lt
 have le := e2.lt
 clear hb2
 go_wp2_with fail
 refine (AB c.eu _ _ _ lo hi lo' hi' (sU.below hw2 hhi) (Fx.below hw2 eP) (nT hhi hw2.size) (nT eP hw2.size)).mono ?_; rintro e w3 ⟨rfl, hb3⟩
 have hw3 : Below w.heap.size w w3 := hw2.trans (hb3.mono hw2.size)
 have a3 := a2.later hb3
 have e3 := e2.later hb3
 clear ca ce la le
 have ca := a3.cell
 have ce := e3.cell
 have la := a3.lt
 have le := e3.lt
 clear hb3
 go_wp2_with fail
 refine (DW c.dx _ _ _ lo hi lo' hi' (vI.below hw3 hhi) (J4.below hw3 eP) (nT hhi hw3.size) (nT eP hw3.size)).mono ?_; rintro e w4 ⟨rfl, hb4⟩
 have hw4 : Below w.heap.size w w4 := hw3.trans (hb4.mono hw3.size)
 have a4 := a3.later hb4
 have e4 := e3.later hb4
 clear ca ce la le
 have ca := a4.cell
 have ce := e4.cell
 have la := a4.lt
 have le := e4.lt
 clear hb4
 go_wp2_with fail
 refine (yV c.eT _ _ _ lo hi lo' hi' (yL.below hw4 hhi) (N9.below hw4 eP) (nT hhi hw4.size) (nT eP hw4.size)).mono ?_; rintro e w5 ⟨rfl, hb5⟩
 have hw5 : Below w.heap.size w w5 := hw4.trans (hb5.mono hw4.size)
 have a5 := a4.later hb5
 have e5 := e4.later hb5
 clear ca ce la le
 have ca := a5.cell
 have ce := e5.cell
 have la := a5.lt
 have le := e5.lt
 clear hb5
 go_wp2_with fail
 go_ret
 exact ⟨rfl, hw5⟩
theorem D4 (l : List jS) (v u : Value) (w : World) (lo hi lo' hi' : Nat) (h : dz w lo hi 12 jS.ay v l) (h' : dz w lo' hi' 12 jS.ay u l) (hhi : hi ≤ w.heap.size) (eP : hi' ≤ w.heap.size) :
 Calls Tryz.prog 23 #[v, u] w fun e w' => e = .returned (.bool true) ∧ Below w.heap.size w w' := by
 obtain ⟨A, cap, rfl, hc1, hc2⟩ := h.shape
 obtain ⟨A', cap', rfl, hc1', hc2'⟩ := h'.shape
 unfold maxLen at hc2 hc2'
 have hne : ((l.length : Int) != (l.length : Int)) = false := by simp
 go_enter Tryz.func23, Tryz.ntmps23
 go_wp2_with fail
 go_loopw [5] (fun i wr => ∃ k : Nat, k ≤ l.length ∧ i = .int .i64 k ∧ Below w.heap.size w wr) (fun i _ => l.length - (intOf i).toNat)
 case atStart => exact ⟨0, nZ _, rfl, bR _ _⟩
 case round =>
  obtain ⟨k, hk, rfl, hb⟩ := hrel
  obtain ⟨wo, rfl⟩ := nW wr
  have hz := hb.size
  by_cases hlt : k < l.length
  ·obtain ⟨c, hc⟩ : ∃ c, l[k]? = some c := ⟨_, gE hlt⟩
   obtain ⟨g, off, jf, iH, jg, iI, jh, iJ, lM, kV, pR, oZ, rfl, hg1, hg2, hmem, hrep, q0, q1, q2, q3, q4, q5, q6, q7, q8, q9, q10, q11⟩ := jS.at_ (h.below hb hhi) hc
   obtain ⟨g', off', nD, nH, nI, nJ, nM, nN, qz, qA, sN, sO, rfl, hg1', wE, tF, qE, p0, p1, p2, p3, p4, p5, p6, p7, p8, p9, p10, p11⟩ := jS.at_ (h'.below hb eP) hc
   have e0 : (0 : Int) ≤ (k : Int) := by omega
   have e8 : (k : Int) < (l.length : Int) := by omega
   have y1 : hi ≤ wo.drew.heap.size := nT hhi hz
   have y2 : hi' ≤ wo.drew.heap.size := nT eP hz
   have t1 := nL hg2 y1
   have t2 := nL wE y2
   clear hc hmem tF
   go_wp2_with fail
   go_region_held3 (fun w' => (w'.cell? ⟨g, off + k * 12, none⟩ = some (.int .i64 c.state) ∧ w'.cell? ⟨g, off + k * 12 + 1, none⟩ = some (.int .i64 c.entry) ∧ w'.cell? ⟨g, off + k * 12 + 2, none⟩ = some (.int .i64 c.object) ∧ w'.cell? ⟨g, off + k * 12 + 3, none⟩ = some (.int .i64 c.pc) ∧ w'.cell? ⟨g, off + k * 12 + 4, none⟩ = some (.int .i64 c.frame) ∧ w'.cell? ⟨g, off + k * 12 + 5, none⟩ = some (.slice jf c.dZ.length iH) ∧ w'.cell? ⟨g, off + k * 12 + 6, none⟩ = some (.slice jg c.dU.length iI) ∧ w'.cell? ⟨g, off + k * 12 + 7, none⟩ = some (.slice jh c.eu.length iJ) ∧ w'.cell? ⟨g, off + k * 12 + 8, none⟩ = some (.slice lM c.dx.length kV) ∧ w'.cell? ⟨g, off + k * 12 + 9, none⟩ = some (.slice pR c.eT.length oZ) ∧ w'.cell? ⟨g, off + k * 12 + 10, none⟩ = some (.string c.dR) ∧ w'.cell? ⟨g, off + k * 12 + 11, none⟩ = some (.int .i64 c.dL)) ∧ (w'.cell? ⟨g', off' + k * 12, none⟩ = some (.int .i64 c.state) ∧ w'.cell? ⟨g', off' + k * 12 + 1, none⟩ = some (.int .i64 c.entry) ∧ w'.cell? ⟨g', off' + k * 12 + 2, none⟩ = some (.int .i64 c.object) ∧ w'.cell? ⟨g', off' + k * 12 + 3, none⟩ = some (.int .i64 c.pc) ∧ w'.cell? ⟨g', off' + k * 12 + 4, none⟩ = some (.int .i64 c.frame) ∧ w'.cell? ⟨g', off' + k * 12 + 5, none⟩ = some (.slice nD c.dZ.length nH) ∧ w'.cell? ⟨g', off' + k * 12 + 6, none⟩ = some (.slice nI c.dU.length nJ) ∧ w'.cell? ⟨g', off' + k * 12 + 7, none⟩ = some (.slice nM c.eu.length nN) ∧ w'.cell? ⟨g', off' + k * 12 + 8, none⟩ = some (.slice qz c.dx.length qA) ∧ w'.cell? ⟨g', off' + k * 12 + 9, none⟩ = some (.slice sN c.eT.length sO) ∧ w'.cell? ⟨g', off' + k * 12 + 10, none⟩ = some (.string c.dR) ∧ w'.cell? ⟨g', off' + k * 12 + 11, none⟩ = some (.int .i64 c.dL)))
    (first | exact ⟨⟨q0, q1, q2, q3, q4, q5, q6, q7, q8, q9, q10, q11⟩, p0, p1, p2, p3, p4, p5, p6, p7, p8, p9, p10, p11⟩ | exact ⟨⟨(hbA.cell t1).trans q0, (hbA.cell t1).trans q1, (hbA.cell t1).trans q2, (hbA.cell t1).trans q3, (hbA.cell t1).trans q4, (hbA.cell t1).trans q5, (hbA.cell t1).trans q6, (hbA.cell t1).trans q7, (hbA.cell t1).trans q8, (hbA.cell t1).trans q9, (hbA.cell t1).trans q10, (hbA.cell t1).trans q11⟩, (hbA.cell t2).trans p0, (hbA.cell t2).trans p1, (hbA.cell t2).trans p2, (hbA.cell t2).trans p3, (hbA.cell t2).trans p4, (hbA.cell t2).trans p5, (hbA.cell t2).trans p6, (hbA.cell t2).trans p7, (hbA.cell t2).trans p8, (hbA.cell t2).trans p9, (hbA.cell t2).trans p10, (hbA.cell t2).trans p11⟩)
    ((go_at_call 61; refine (FL c _ _ _ _ _ _ _ (hrep.same (Same.refl _).drew) (qE.same (Same.refl _).drew) y1 y2).mono ?_; rintro e wA ⟨rfl, hbA⟩))
   have hb2 : Below w.heap.size w wA := hb.drew.trans (hbA.mono hz)
   clear hrep qE q0 q1 q2 q3 q4 q5 q6 q7 q8 q9 q10 q11 p0 p1 p2 p3 p4 p5 p6 p7 p8 p9 p10 p11
   go_wp2_with fail
   go_roundw
   case rel => exact ⟨k + 1, by omega, by go_num, hb2⟩
   case measure => simp [intOf]; omega
  ·obtain rfl : k = l.length := by omega
   go_wp2_with fail
   go_ret
   exact ⟨rfl, hb⟩
end Go.Proofs.YtoddlphekcihgaaGreatDoor
