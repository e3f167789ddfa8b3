/- A valid generator, of the program: one that UL; all. A choice of a machine: is it Ml Of the program. -/
import Derived.Test.YtoddlphekcihgaaGreatDoorQ22
import Derived.Test.YtoddlphekcihgaaGreatDoorQ23
import Derived.Test.YtoddlphekcihgaaGreatDoorQ24
set_option maxRecDepth 100000
set_option maxHeartbeats 40000000
set_option linter.unusedVariables false
set_option linter.unusedSimpArgs false
namespace Go.Proofs.YtoddlphekcihgaaGreatDoor
open Go.RowKit
theorem J6 (s : dP) (c : iY) (x y : Value) (w : World) {lo hi lo' hi' : Nat} (hx : fA w lo hi dP.ay x s) (hy : fA w lo' hi' iY.ay y c) (hhi : hi ≤ w.heap.size) (eP : hi' ≤ w.heap.size) (hst : iw w) (hsv : sV s = true) (hk : ¬ c.kind = 1) :
 Calls Tryz.prog 142 #[x, y] w fun e w' => e = .returned (.bool (sw s c)) ∧ Below w.heap.size w w' := by
 generalize hV : sw s c = V
 have HE : Hid (V = (c.args.all (cK s) && (decide (c.kind = 2) && decide (c.count = 0) && wF c))) := by rw [← hV]; unfold sw; rw [if_neg hk]; rfl
 have ek : (c.kind == 1) = false := by simp [hk]
 clear hV hk
 obtain ⟨An, nn, Ar, nr, Ao, no, Ag, ng, Au, nu, At', nt, Aa, na, rfl, -⟩ := dP.form hx
 obtain ⟨AG, nG, rfl, hg, ug, mg⟩ := iY.form hy
 unfold maxLen at mg
 clear hy
 have hW : Below w.heap.size w ((w.alloc (.cells #[Value.slice An s.fu.length nn, .slice Ar s.aA.length nr, .slice Ao s.aI.length no, .slice Ag s.aB.length ng, .string s.dR, .int .i64 s.dL, .slice Au s.output.length nu, .slice At' s.gV.length nt, .slice Aa s.dY.length na, .bool s.gF, .int .i64 s.je, .int .i64 s.fT, .int .i64 s.kI] 52)).alloc (.cells #[Value.int .i64 c.kind, .int .i64 c.op, .int .i64 c.count, .slice AG c.args.length nG] 158)) := (bA _ _).alloc (by simp) _
 have a1 := (Blk.new w 52 #[Value.slice An s.fu.length nn, .slice Ar s.aA.length nr, .slice Ao s.aI.length no, .slice Ag s.aB.length ng, .string s.dR, .int .i64 s.dL, .slice Au s.output.length nu, .slice At' s.gV.length nt, .slice Aa s.dY.length na, .bool s.gF, .int .i64 s.je, .int .i64 s.fT, .int .i64 s.kI]).alloc (.cells #[Value.int .i64 c.kind, .int .i64 c.op, .int .i64 c.count, .slice AG c.args.length nG] 158)
 have a2 := Blk.newAt (w.alloc (.cells #[Value.slice An s.fu.length nn, .slice Ar s.aA.length nr, .slice Ao s.aI.length no, .slice Ag s.aB.length ng, .string s.dR, .int .i64 s.dL, .slice Au s.output.length nu, .slice At' s.gV.length nt, .slice Aa s.dY.length na, .bool s.gF, .int .i64 s.je, .int .i64 s.fT, .int .i64 s.kI] 52)) 158 #[Value.int .i64 c.kind, .int .i64 c.op, .int .i64 c.count, .slice AG c.args.length nG] (w.heap.size + 1) (by simp)
 go_enter Tryz.func142, Tryz.ntmps142
 go_upto_region 1 with fail
 generalize (w.alloc (.cells #[Value.slice An s.fu.length nn, .slice Ar s.aA.length nr, .slice Ao s.aI.length no, .slice Ag s.aB.length ng, .string s.dR, .int .i64 s.dL, .slice Au s.output.length nu, .slice At' s.gV.length nt, .slice Aa s.dY.length na, .bool s.gF, .int .i64 s.je, .int .i64 s.fT, .int .i64 s.kI] 52)).alloc (.cells #[Value.int .i64 c.kind, .int .i64 c.op, .int .i64 c.count, .slice AG c.args.length nG] 158) = W at *
 have ca := a1.cell
 have cb := a2.cell
 have la := a1.lt
 have lb := a2.lt
 go_wp2_with fail
 refine (lN s _ _ (hx.below hW hhi) (nT hhi hW.size) (hst.below hW hst.2)).mono ?_; rw [hsv]; rintro e w1 ⟨rfl, hb1⟩
 replace hW := hW.trans (hb1.mono hW.size)
 replace a1 := a1.later hb1
 replace a2 := a2.later hb1
 clear ca cb la lb hb1 hsv hst
 have ca := a1.cell
 have cb := a2.cell
 have la := a1.lt
 have lb := a2.lt
 have hAt := At.box a1 (hx.below hW hhi) (nT hhi hW.size)
 clear hx ca la
 go_wp2_with fail
 go_loopw [15] (fun i wr => ∃ k : Nat, k ≤ c.args.length ∧ i = .int .i64 k ∧ Hid ((c.args.take k).all (cK s) = true) ∧ Below w1.heap.size w1 wr) (fun i _ => c.args.length - (intOf i).toNat)
 case atStart => exact ⟨0, nZ _, rfl, by simp [Hid], bR _ _⟩
 case round =>
  obtain ⟨k, hk, rfl, hgo, hb⟩ := hrel
  obtain ⟨wo, rfl⟩ := nW wr
  have hz := hb.size
  by_cases hlt : k < c.args.length
  ·obtain ⟨a, ha⟩ : ∃ a, c.args[k]? = some a := ⟨_, gE hlt⟩
   obtain ⟨g', off', rfl, hg1, hg2, -, -, q0, q1, q2, q3, q4, q5⟩ := aQ.at_ (hg.below (hW.trans (hb.mono hW.size)) eP) ha
   have HN := lH (fun h => fJ (q := cK s) ha hgo.out h)
   have HF := lH (fun h => lI (q := cK s) (mG ha) h)
   clear ha hgo
   have hwa : Below w1.heap.size w1 (wo.alloc (.cells #[Value.int .i64 a.kind, .int .i64 a.number, .int .i64 a.index, .string a.text, .int .i64 a.eB, .int .i64 a.dW] 56)) := hb.alloc hz _
   have h0 := hAt.below hwa
   go_wp2_with fail
   refine (mX s a _ _ h0 (aQ.mk_ (lo := 0) (hi := 0))).mono ?_; rintro e w2 ⟨rfl, hb2⟩
   have hw2 := hwa.trans (hb2.mono hwa.size)
   clear q0 q1 q2 q3 q4 q5 hb2 h0
   cases hq : cK s a with
   | true =>
     have HN := lH (HN.out hq)
     clear HF hq
     go_wp2_with fail
     go_roundw
     case rel => exact ⟨k + 1, by omega, by go_num, HN, hw2⟩
     case measure => simp [intOf]; omega
   | false =>
     have HF := lH (HF.out hq)
     have HO : Hid (V = false) := lH (by rw [HE.out, HF.out]; rfl)
     clear HN HF HE hq
     go_wp2_with fail
     go_ret
     exact ⟨ah HO.out.symm, hW.trans (hw2.mono hW.size)⟩
  obtain rfl : k = c.args.length := by omega
  rw [List.take_length] at hgo
  replace HE : Hid (V = (decide (c.kind = 2) && decide (c.count = 0) && wF c)) := by show _ = _; rw [HE.out, hgo.out, Bool.true_and]
  replace hW := hW.trans (hb.mono hW.size)
  replace a2 := a2.later hb
  clear cb lb hlt hk hAt a1
  have cb := a2.cell
  have lb := a2.lt
  clear hb hz
  go_upto_region 10 with fail
  go_upto_region 26 with fail
  by_cases k2 : ¬ c.kind = 2
  ·have HO : Hid (V = false) := lH (by rw [HE.out]; rw [dF k2]; rfl)
   have dk2 : (c.kind != 2) = true := by first | (simp; omega) | simp [k2]
   clear HE k2
   go_quiet (fail)
   go_wp2_with (fail)
   all_goals go_ret
   all_goals (exact ⟨ah HO.out.symm, (by first | exact hW | exact bN hW _)⟩)
  have dk2 : (c.kind != 2) = false := by first | (simp; omega) | simp [k2]
  have Hk2 : Hid (c.kind = 2) := lH (by omega)
  clear k2
  by_cases c0 : ¬ c.count = 0
  ·have HO : Hid (V = false) := lH (by rw [HE.out]; rw [dF c0]; simp)
   have dc0 : (c.count != 0) = true := by first | (simp; omega) | simp [c0]
   clear HE c0
   go_quiet (fail)
   go_wp2_with (fail)
   all_goals go_ret
   all_goals (exact ⟨ah HO.out.symm, (by first | exact hW | exact bN hW _)⟩)
  have dc0 : (c.count != 0) = false := by first | (simp; omega) | simp [c0]
  have Hc0 : Hid (c.count = 0) := lH (by omega)
  clear c0
  by_cases n3 : c.args.length < 3
  ·have HO : Hid (V = false) := lH (by rw [HE.out]; rw [xq (by omega)]; simp)
   have dn3 : decide ((c.args.length : Int) < 3) = true := by first | (simp; omega) | simp [n3]
   clear HE n3
   go_quiet (fail)
   go_wp2_with (fail)
   all_goals go_ret
   all_goals (exact ⟨ah HO.out.symm, (by first | exact hW | exact bN hW _)⟩)
  have dn3 : decide ((c.args.length : Int) < 3) = false := by first | (simp; omega) | simp [n3]
  obtain ⟨a, ha⟩ : ∃ a, c.args[0]? = some a := ⟨_, gE (by omega)⟩
  obtain ⟨b, hb⟩ : ∃ a, c.args[1]? = some a := ⟨_, gE (by omega)⟩
  obtain ⟨d, hd⟩ : ∃ a, c.args[2]? = some a := ⟨_, gE (by omega)⟩
  obtain ⟨g', off', rfl, hg1, hg2, -⟩ := aQ.at_ hg (j := 0) ha
  have hi0 : 0 < c.args.length := (by omega)
  have hi1 : (1 : Int) < (c.args.length : Int) := (by omega)
  have hi2 : (2 : Int) < (c.args.length : Int) := (by omega)
  obtain ⟨pa0, pa1, pa2, pa3, pa4, pa5⟩ := dV (hg.below hW eP) ha (p := off') (by omega)
  obtain ⟨pb0, pb1, pb2, pb3, pb4, pb5⟩ := dV (hg.below hW eP) hb (p := off' + 6) (by omega)
  obtain ⟨pd0, pd1, pd2, pd3, pd4, pd5⟩ := dV (hg.below hW eP) hd (p := off' + 12) (by omega)
  replace HE : Hid (V = (pz a b && decide (d.kind = 1) && (if c.op = 8 ∨ c.op = 325 ∨ c.op = 326 then decide (c.args.length = 3) && decide (d.number = 2) else if c.op = 61 then decide (c.args.length = 5) && (decide (d.number = 0) || decide (d.number = 1)) && pE (c.args.drop 3) else if c.op = 63 then decide (c.args.length = 7) && (decide (d.number = 0) || decide (d.number = 1)) && pE (c.args.drop 3) else false))) := by show _ = _; rw [HE.out, dT Hk2.out, dT Hc0.out, xu ha hb hd]; rfl
  have ht : a.kind = 2 → a.text.size ≤ 120 := wG (List.all_eq_true.1 hgo.out a (mG ha))
  cases hp : pz a b
  have HP := lH hp
  have HO : Hid (V = false) := lH (by rw [HE.out, hp]; rfl)
  clear HE hp
  have hgi : g' < wo.heap.size := nL (nL hg2 eP) hW.size
  have kcb := qC (B := wo.heap.size) a2 lb
  have FB := aW (B := wo.heap.size) pa0 hgi
  have Iv := aW (B := wo.heap.size) pa1 hgi
  have Iw := aW (B := wo.heap.size) pa2 hgi
  have FC := aW (B := wo.heap.size) pa3 hgi
  have Iy := aW (B := wo.heap.size) pa4 hgi
  have Iz := aW (B := wo.heap.size) pa5 hgi
  have FD := aW (B := wo.heap.size) pb0 hgi
  have FE := aW (B := wo.heap.size) pb1 hgi
  have IB := aW (B := wo.heap.size) pb2 hgi
  have IC := aW (B := wo.heap.size) pb3 hgi
  have IE := aW (B := wo.heap.size) pb4 hgi
  have IG := aW (B := wo.heap.size) pb5 hgi
  have Md := aW (B := wo.heap.size) pd0 hgi
  have Me := aW (B := wo.heap.size) pd1 hgi
  have Mf := aW (B := wo.heap.size) pd2 hgi
  have Mg := aW (B := wo.heap.size) pd3 hgi
  have Mh := aW (B := wo.heap.size) pd4 hgi
  have Mi := aW (B := wo.heap.size) pd5 hgi
  rotate_left
  have HP := lH hp
  clear hp
  by_cases kd : ¬ d.kind = 1
  have HO : Hid (V = false) := lH (by rw [HE.out]; rw [dF kd]; simp)
  have dkd : (d.kind != 1) = true := by first | (simp; omega) | simp [kd]
  clear HE kd
  have hgi : g' < wo.heap.size := nL (nL hg2 eP) hW.size
  have kcb := qC (B := wo.heap.size) a2 lb
  have FB := aW (B := wo.heap.size) pa0 hgi
  have Iv := aW (B := wo.heap.size) pa1 hgi
  have Iw := aW (B := wo.heap.size) pa2 hgi
  have FC := aW (B := wo.heap.size) pa3 hgi
  have Iy := aW (B := wo.heap.size) pa4 hgi
  have Iz := aW (B := wo.heap.size) pa5 hgi
  have FD := aW (B := wo.heap.size) pb0 hgi
  have FE := aW (B := wo.heap.size) pb1 hgi
  have IB := aW (B := wo.heap.size) pb2 hgi
  have IC := aW (B := wo.heap.size) pb3 hgi
  have IE := aW (B := wo.heap.size) pb4 hgi
  have IG := aW (B := wo.heap.size) pb5 hgi
  have Md := aW (B := wo.heap.size) pd0 hgi
  have Me := aW (B := wo.heap.size) pd1 hgi
  have Mf := aW (B := wo.heap.size) pd2 hgi
  have Mg := aW (B := wo.heap.size) pd3 hgi
  have Mh := aW (B := wo.heap.size) pd4 hgi
  have Mi := aW (B := wo.heap.size) pd5 hgi
  rotate_left
  rotate_right 2
  iterate 2 focus
   refine fI (B := wo.heap.size) (by kernel_rfl) (by kernel_rfl) ?_
   repeat (go_big_quiet_step (first | (go_at_call 160; exact fB (nR _) ((vv a b _ _ _ (aQ.mk_ (lo := 0) (hi := 0)) (aQ.mk_ (lo := 0) (hi := 0)) ht).mono fun _ _ ⟨a, b⟩ => ⟨a.trans (by rw [HP.out]), b⟩)) | fail))
   refine wpQuiet_nil ?_
   intro w' hw'
   obtain ⟨v, rfl⟩ := hw'
   replace hW := Kept.of hW hW.size v
   go_wp2_with (fail)
   all_goals go_ret
   all_goals (exact ⟨ah HO.out.symm, (by first | exact hW | exact bN hW _)⟩)
  have dkd : (d.kind != 1) = false := by first | (simp; omega) | simp [kd]
  have Hkd : Hid (d.kind = 1) := lH (by omega)
  clear kd
  replace HE : Hid (V = (if c.op = 8 ∨ c.op = 325 ∨ c.op = 326 then decide (c.args.length = 3) && decide (d.number = 2) else if c.op = 61 then decide (c.args.length = 5) && (decide (d.number = 0) || decide (d.number = 1)) && pE (c.args.drop 3) else if c.op = 63 then decide (c.args.length = 7) && (decide (d.number = 0) || decide (d.number = 1)) && pE (c.args.drop 3) else false)) := by show _ = _; rw [HE.out, HP.out, dT Hkd.out]; rfl
  have hgi : g' < wo.heap.size := nL (nL hg2 eP) hW.size
  have kcb := qC (B := wo.heap.size) a2 lb
  have FB := aW (B := wo.heap.size) pa0 hgi
  have Iv := aW (B := wo.heap.size) pa1 hgi
  have Iw := aW (B := wo.heap.size) pa2 hgi
  have FC := aW (B := wo.heap.size) pa3 hgi
  have Iy := aW (B := wo.heap.size) pa4 hgi
  have Iz := aW (B := wo.heap.size) pa5 hgi
  have FD := aW (B := wo.heap.size) pb0 hgi
  have FE := aW (B := wo.heap.size) pb1 hgi
  have IB := aW (B := wo.heap.size) pb2 hgi
  have IC := aW (B := wo.heap.size) pb3 hgi
  have IE := aW (B := wo.heap.size) pb4 hgi
  have IG := aW (B := wo.heap.size) pb5 hgi
  have Md := aW (B := wo.heap.size) pd0 hgi
  have Me := aW (B := wo.heap.size) pd1 hgi
  have Mf := aW (B := wo.heap.size) pd2 hgi
  have Mg := aW (B := wo.heap.size) pd3 hgi
  have Mh := aW (B := wo.heap.size) pd4 hgi
  have Mi := aW (B := wo.heap.size) pd5 hgi
  refine fI (B := wo.heap.size) (by kernel_rfl) (by kernel_rfl) ?_
  repeat (go_big_quiet_step (first | (go_at_call 160; exact fB (nR _) ((vv a b _ _ _ (aQ.mk_ (lo := 0) (hi := 0)) (aQ.mk_ (lo := 0) (hi := 0)) ht).mono fun _ _ ⟨a, b⟩ => ⟨a.trans (by rw [HP.out]), b⟩)) | fail))
  refine wpQuiet_nil ?_
  intro w' hw'
  obtain ⟨v, rfl⟩ := hw'
  replace hW := Kept.of hW hW.size v
  replace a2 := a2.later v.below
  clear cb lb pa0 pa1 pa2 pa3 pa4 pa5 pb0 pb1 pb2 pb3 pb4 pb5 pd0 pd1 pd2 pd3 pd4 pd5 kcb FB Iv Iw FC Iy Iz FD FE IB IC IE IG Md Me Mf Mg Mh Mi
  generalize v.out = W3 at *
  have cb := a2.cell
  have lb := a2.lt
  obtain ⟨pa0, pa1, pa2, pa3, pa4, pa5⟩ := dV (hg.below hW eP) ha (p := off') (by omega)
  obtain ⟨pb0, pb1, pb2, pb3, pb4, pb5⟩ := dV (hg.below hW eP) hb (p := off' + 6) (by omega)
  obtain ⟨pd0, pd1, pd2, pd3, pd4, pd5⟩ := dV (hg.below hW eP) hd (p := off' + 12) (by omega)
  go_upto_region 30 with fail
  by_cases x8 : c.op = 8
  ·skip
   have e8 : (c.op == 8) = true := by simp; omega
   have HX := lH x8
   clear x8
   replace HE : Hid (V = (decide (c.args.length = 3) && decide (d.number = 2))) := by show _ = _; rw [HE.out, if_pos (by have := HX.out; omega)]
   by_cases m3 : ¬ c.args.length = 3
   have HO : Hid (V = false) := lH (by rw [HE.out]; rw [dF m3]; rfl)
   have dm3 : ((c.args.length : Int) == 3) = false := by first | (simp; omega) | simp [m3]
   clear HE m3
   rotate_left
   have dm3 : ((c.args.length : Int) == 3) = true := by first | (simp; omega) | simp [m3]
   have Hm3 : Hid (c.args.length = 3) := lH (by omega)
   clear m3
   have HO : Hid (V = (d.number == 2)) := lH (by rw [HE.out, dT Hm3.out]; by_cases z : d.number = 2 <;> simp [z])
   clear HE
   iterate 2 focus
    go_wp2_with (fail)
    all_goals go_ret
    all_goals (exact ⟨ah HO.out.symm, (by first | exact hW | exact bN hW _)⟩)
  by_cases Mm : c.op = 325
  ·skip
   have e8 : (c.op == 8) = false := by simp; omega
   have II : (c.op == 325) = true := by simp; omega
   have HX := lH Mm
   clear Mm
   replace HE : Hid (V = (decide (c.args.length = 3) && decide (d.number = 2))) := by show _ = _; rw [HE.out, if_pos (by have := HX.out; omega)]
   by_cases m3 : ¬ c.args.length = 3
   have HO : Hid (V = false) := lH (by rw [HE.out]; rw [dF m3]; rfl)
   have dm3 : ((c.args.length : Int) == 3) = false := by first | (simp; omega) | simp [m3]
   clear HE m3
   rotate_left
   have dm3 : ((c.args.length : Int) == 3) = true := by first | (simp; omega) | simp [m3]
   have Hm3 : Hid (c.args.length = 3) := lH (by omega)
   clear m3
   have HO : Hid (V = (d.number == 2)) := lH (by rw [HE.out, dT Hm3.out]; by_cases z : d.number = 2 <;> simp [z])
   clear HE
   iterate 2 focus
    go_wp2_with (fail)
    all_goals go_ret
    all_goals (exact ⟨ah HO.out.symm, (by first | exact hW | exact bN hW _)⟩)
  by_cases Mq : c.op = 326
  ·skip
   have e8 : (c.op == 8) = false := by simp; omega
   have II : (c.op == 325) = false := by simp; omega
   have Mr : (c.op == 326) = true := by simp; omega
   have HX := lH Mq
   clear Mq
   replace HE : Hid (V = (decide (c.args.length = 3) && decide (d.number = 2))) := by show _ = _; rw [HE.out, if_pos (by have := HX.out; omega)]
   by_cases m3 : ¬ c.args.length = 3
   have HO : Hid (V = false) := lH (by rw [HE.out]; rw [dF m3]; rfl)
   have dm3 : ((c.args.length : Int) == 3) = false := by first | (simp; omega) | simp [m3]
   clear HE m3
   rotate_left
   have dm3 : ((c.args.length : Int) == 3) = true := by first | (simp; omega) | simp [m3]
   have Hm3 : Hid (c.args.length = 3) := lH (by omega)
   clear m3
   have HO : Hid (V = (d.number == 2)) := lH (by rw [HE.out, dT Hm3.out]; by_cases z : d.number = 2 <;> simp [z])
   clear HE
   iterate 2 focus
    go_wp2_with (fail)
    all_goals go_ret
    all_goals (exact ⟨ah HO.out.symm, (by first | exact hW | exact bN hW _)⟩)
  by_cases x61 : c.op = 61
  ·skip
   have e8 : (c.op == 8) = false := by simp; omega
   have II : (c.op == 325) = false := by simp; omega
   have Mr : (c.op == 326) = false := by simp; omega
   have e61 : (c.op == 61) = true := by simp; omega
   have HX := lH x61
   clear x61
   replace HE : Hid (V = (decide (c.args.length = 5) && (decide (d.number = 0) || decide (d.number = 1)) && pE (c.args.drop 3))) := by show _ = _; rw [HE.out, if_neg (by have := HX.out; omega), if_pos HX.out]
   by_cases m3 : ¬ c.args.length = 5
   ·have HO : Hid (V = false) := lH (by rw [HE.out]; rw [dF m3]; rfl)
    have dm3 : ((c.args.length : Int) == 5) = false := by first | (simp; omega) | simp [m3]
    clear HE m3
    go_wp2_with (fail)
    all_goals go_ret
    all_goals (exact ⟨ah HO.out.symm, (by first | exact hW | exact bN hW _)⟩)
   have dm3 : ((c.args.length : Int) == 5) = true := by first | (simp; omega) | simp [m3]
   have Hm3 : Hid (c.args.length = 5) := lH (by omega)
   clear m3
   have hng : 3 < nG := by have := Hm3.out; omega
   by_cases z0 : d.number = 0
   have dz0 : (d.number == 0) = true := by simp [z0]
   have HO : Hid (V = pE (c.args.drop 3)) := lH (by rw [HE.out, dT Hm3.out, dT z0]; simp)
   clear HE z0
   rotate_left
   have dz0 : (d.number == 0) = false := by simp [z0]
   by_cases z1 : d.number = 1
   have dz1 : (d.number == 1) = true := by simp [z1]
   have HO : Hid (V = pE (c.args.drop 3)) := lH (by rw [HE.out, dT Hm3.out, dT z1]; simp)
   clear HE z0 z1
   rotate_left
   rotate_right 2
   iterate 2 focus
    go_wp2_with (first | (go_at_call 161; refine (xV (c.args.drop 3) _ _ (dz.drop (f := aQ.ay) (k := 6) (off := off') (cap := nG) (l := c.args) (fun _ => rfl) (hg.below hW eP) (j := 3) (show 3 ≤ c.args.length by omega)) (nT eP hW.size)).mono ?_; rintro e w4 ⟨rfl, hb4⟩; replace hW := hW.trans (hb4.mono hW.size)) | fail)
    all_goals go_ret
    all_goals (exact ⟨ah HO.out.symm, (by first | exact hW | exact bN hW _)⟩)
   have dz1 : (d.number == 1) = false := by simp [z1]
   have HO : Hid (V = false) := lH (by rw [HE.out, dF z0, dF z1]; simp)
   clear HE z0 z1
   go_wp2_with (fail)
   all_goals go_ret
   all_goals (exact ⟨ah HO.out.symm, (by first | exact hW | exact bN hW _)⟩)
  by_cases x63 : c.op = 63
  ·skip
   have e8 : (c.op == 8) = false := by simp; omega
   have II : (c.op == 325) = false := by simp; omega
   have Mr : (c.op == 326) = false := by simp; omega
   have e61 : (c.op == 61) = false := by simp; omega
   have e63 : (c.op == 63) = true := by simp; omega
   have HX := lH x63
   clear x63
   replace HE : Hid (V = (decide (c.args.length = 7) && (decide (d.number = 0) || decide (d.number = 1)) && pE (c.args.drop 3))) := by show _ = _; rw [HE.out, if_neg (by have := HX.out; omega), if_neg (by have := HX.out; omega), if_pos HX.out]
   by_cases m3 : ¬ c.args.length = 7
   ·have HO : Hid (V = false) := lH (by rw [HE.out]; rw [dF m3]; rfl)
    have dm3 : ((c.args.length : Int) == 7) = false := by first | (simp; omega) | simp [m3]
    clear HE m3
    go_wp2_with (fail)
    all_goals go_ret
    all_goals (exact ⟨ah HO.out.symm, (by first | exact hW | exact bN hW _)⟩)
   have dm3 : ((c.args.length : Int) == 7) = true := by first | (simp; omega) | simp [m3]
   have Hm3 : Hid (c.args.length = 7) := lH (by omega)
   clear m3
   have hng : 3 < nG := by have := Hm3.out; omega
   by_cases z0 : d.number = 0
   have dz0 : (d.number == 0) = true := by simp [z0]
   have HO : Hid (V = pE (c.args.drop 3)) := lH (by rw [HE.out, dT Hm3.out, dT z0]; simp)
   clear HE z0
   rotate_left
   have dz0 : (d.number == 0) = false := by simp [z0]
   by_cases z1 : d.number = 1
   have dz1 : (d.number == 1) = true := by simp [z1]
   have HO : Hid (V = pE (c.args.drop 3)) := lH (by rw [HE.out, dT Hm3.out, dT z1]; simp)
   clear HE z0 z1
   rotate_left
   rotate_right 2
   iterate 2 focus
    go_wp2_with (first | (go_at_call 161; refine (xV (c.args.drop 3) _ _ (dz.drop (f := aQ.ay) (k := 6) (off := off') (cap := nG) (l := c.args) (fun _ => rfl) (hg.below hW eP) (j := 3) (show 3 ≤ c.args.length by omega)) (nT eP hW.size)).mono ?_; rintro e w4 ⟨rfl, hb4⟩; replace hW := hW.trans (hb4.mono hW.size)) | fail)
    all_goals go_ret
    all_goals (exact ⟨ah HO.out.symm, (by first | exact hW | exact bN hW _)⟩)
   have dz1 : (d.number == 1) = false := by simp [z1]
   have HO : Hid (V = false) := lH (by rw [HE.out, dF z0, dF z1]; simp)
   clear HE z0 z1
   go_wp2_with (fail)
   all_goals go_ret
   all_goals (exact ⟨ah HO.out.symm, (by first | exact hW | exact bN hW _)⟩)
  have e8 : (c.op == 8) = false := by simp; omega
  have II : (c.op == 325) = false := by simp; omega
  have Mr : (c.op == 326) = false := by simp; omega
  have e61 : (c.op == 61) = false := by simp; omega
  have e63 : (c.op == 63) = false := by simp; omega
  have HO : Hid (V = false) := lH (by rw [HE.out, if_neg (by omega), if_neg (by omega), if_neg (by omega)])
  clear HE
  go_wp2_with (fail)
  all_goals go_ret
  all_goals (exact ⟨ah HO.out.symm, (by first | exact hW | exact bN hW _)⟩)
theorem tX (s : dP) (c : iY) (x y : Value) (w : World) {lo hi lo' hi' : Nat} (hx : fA w lo hi dP.ay x s) (hy : fA w lo' hi' iY.ay y c) (hhi : hi ≤ w.heap.size) (eP : hi' ≤ w.heap.size) (hst : iw w) (hsv : sV s = true) :
 Calls Tryz.prog 142 #[x, y] w fun e w' => e = .returned (.bool (sw s c)) ∧ Below w.heap.size w w' := by
 by_cases hk : c.kind = 1
 ·by_cases h7 : c.op = 7 ∨ c.op = 317
  ·exact P9 s c x y w hx hy hhi eP hst hsv hk h7
  by_cases h72 : c.op = 72 ∨ c.op = 338
  ·exact N8 s c x y w hx hy hhi eP hst hsv hk h72
  by_cases UM : c.op = 320 ∨ c.op = 321
  ·exact Mb s c x y w hx hy hhi eP hst hsv hk UM
  exact J3 s c x y w hx hy hhi eP hst hsv hk (by omega)
 ·exact J6 s c x y w hx hy hhi eP hst hsv hk
theorem xC (m : eG) (c : jG) (x : Value) (w : World) {g off lo hi lo' hi' : Nat} (h : At w g off lo hi eG.ay m) (hx : fA w lo' hi' jG.ay x c) (hhi : hi' ≤ w.heap.size) (hst : iw w) (hsv : sV m.store = true) :
 Calls Tryz.prog 99 #[.pointer (some ⟨g, off, none⟩), x] w fun e w' => e = .returned (.bool (vL m c)) ∧ Below w.heap.size w w' := by
 generalize hV : vL m c = V
 have HE : Hid (V = (lY m c && c.dZ.all (pN m.store) && c.dU.all (kF m.code.av.length) && c.eu.all (iD m) && c.cells.all (mI m.store) && (!decide (5 ≤ c.kind) || mI m.store c.object) && (!decide (c.kind = 1) || sw m.store c.gen))) := by rw [← hV]; rfl
 clear hV
 obtain ⟨As, ns, Am, nm, Ac, nc, Ae, ne, AG, nG, rfl, hs, us, ms, hm, um, mm, hc, uc, mc, he, ue, me, hg, ug, mg⟩ := jG.form hx
 unfold maxLen at ms mm mc me mg
 clear hx
 obtain ⟨a0, hW⟩ := eZ w 160 #[.int .i64 c.kind, .int .i64 c.pc, .int .i64 c.frame, .int .i64 c.base, .int .i64 c.line, .int .i64 c.object, .slice As c.dZ.length ns, .slice Am c.dU.length nm, .slice Ac c.eu.length nc, .slice Ae c.cells.length ne, .int .i64 c.gN, .int .i64 c.kJ, .int .i64 c.fQ, .slice AG c.fP.length nG]
 go_enter Tryz.func99, Tryz.ntmps99
 go_upto_region 1 with fail
 generalize w.alloc (.cells #[Value.int .i64 c.kind, .int .i64 c.pc, .int .i64 c.frame, .int .i64 c.base, .int .i64 c.line, .int .i64 c.object, .slice As c.dZ.length ns, .slice Am c.dU.length nm, .slice Ac c.eu.length nc, .slice Ae c.cells.length ne, .int .i64 c.gN, .int .i64 c.kJ, .int .i64 c.fQ, .slice AG c.fP.length nG] 160) = W at *
 have ca := a0.cell
 have la := a0.lt
 obtain ⟨A0, n0, A4, n4, hgm, r1, r2, r3, r4, cr, ci⟩ := eG.lens (h.below hW)
 clear cr
 have hs0 := eG.qF (h.below hW)
 rcases dC (c.kind < 1) with ⟨t0, d0⟩ | ⟨t0, d0⟩
 ·have HO : Hid (V = false) := lH (by rw [HE.out, show lY m c = false by rw [Bool.eq_false_iff]; intro h; simp [lY] at h; omega]; rfl)
  clear HE t0
  go_quiet (fail)
  go_wp2_with fail
  all_goals go_ret <;> exact ⟨ah (by first | rfl | exact HO.out.symm), (by first | exact hW | exact bN hW _ | exact aC hW)⟩
 rcases dC (6 < c.kind) with ⟨t1, d1⟩ | ⟨t1, d1⟩
 ·have HO : Hid (V = false) := lH (by rw [HE.out, show lY m c = false by rw [Bool.eq_false_iff]; intro h; simp [lY] at h; omega]; rfl)
  clear HE t0 t1
  go_quiet (fail)
  go_wp2_with fail
  all_goals go_ret <;> exact ⟨ah (by first | rfl | exact HO.out.symm), (by first | exact hW | exact bN hW _ | exact aC hW)⟩
 rcases dC (c.pc < 0) with ⟨t2, d2⟩ | ⟨t2, d2⟩
 ·have HO : Hid (V = false) := lH (by rw [HE.out, show lY m c = false by rw [Bool.eq_false_iff]; intro h; simp [lY] at h; omega]; rfl)
  clear HE t0 t1 t2
  go_quiet (fail)
  go_wp2_with fail
  all_goals go_ret <;> exact ⟨ah (by first | rfl | exact HO.out.symm), (by first | exact hW | exact bN hW _ | exact aC hW)⟩
 rcases dC ((m.code.av.length : Int) < c.pc) with ⟨t3, d3⟩ | ⟨t3, d3⟩
 ·have HO : Hid (V = false) := lH (by rw [HE.out, show lY m c = false by rw [Bool.eq_false_iff]; intro h; simp [lY] at h; omega]; rfl)
  clear HE t0 t1 t2 t3
  go_quiet (fail)
  go_wp2_with fail
  all_goals go_ret <;> exact ⟨ah (by first | rfl | exact HO.out.symm), (by first | exact hW | exact bN hW _ | exact aC hW)⟩
 rcases dC (c.base < 0) with ⟨t4, d4⟩ | ⟨t4, d4⟩
 ·have HO : Hid (V = false) := lH (by rw [HE.out, show lY m c = false by rw [Bool.eq_false_iff]; intro h; simp [lY] at h; omega]; rfl)
  clear HE t0 t1 t2 t3 t4
  go_quiet (fail)
  go_wp2_with fail
  all_goals go_ret <;> exact ⟨ah (by first | rfl | exact HO.out.symm), (by first | exact hW | exact bN hW _ | exact aC hW)⟩
 rcases dC (c.line < 0) with ⟨t5, d5⟩ | ⟨t5, d5⟩
 ·have HO : Hid (V = false) := lH (by rw [HE.out, show lY m c = false by rw [Bool.eq_false_iff]; intro h; simp [lY] at h; omega]; rfl)
  clear HE t0 t1 t2 t3 t4 t5
  go_quiet (fail)
  go_wp2_with fail
  all_goals go_ret <;> exact ⟨ah (by first | rfl | exact HO.out.symm), (by first | exact hW | exact bN hW _ | exact aC hW)⟩
 have HH : Hid (lY m c = kU m.store c.frame 1) := lH (by rw [lY, dT (by omega : 1 ≤ c.kind), dT (by omega : c.kind ≤ 6), dT (by omega : 0 ≤ c.pc), dT (by omega : c.pc ≤ (m.code.av.length : Int)), dT (by omega : 0 ≤ c.base), dT (by omega : 0 ≤ c.line)]; rfl)
 clear t2 t3 t4 t5
 cases hq : kU m.store c.frame 1 with
 | false =>
   have HQ := lH hq
   have HO : Hid (V = false) := lH (by rw [HE.out, HH.out, HQ.out]; rfl)
   clear HE HH hq t0 t1
   go_quiet (first | (go_at_call 94; exact mR ((fF m.store c.frame 1 _ (hs0.drewN _)).mono fun _ _ ⟨a, b⟩ => ⟨a.trans (by rw [HQ.out]), b⟩)) | fail)
   go_wp2_with fail
   all_goals go_ret <;> exact ⟨ah (by first | rfl | exact HO.out.symm), (by first | exact hW | exact bN hW _ | exact aC hW)⟩
 | true =>
 have HQ := lH hq
 replace HE : Hid (V = (c.dZ.all (pN m.store) && c.dU.all (kF m.code.av.length) && c.eu.all (iD m) && c.cells.all (mI m.store) && (!decide (5 ≤ c.kind) || mI m.store c.object) && (!decide (c.kind = 1) || sw m.store c.gen))) := by show _ = _; rw [HE.out, HH.out, HQ.out, Bool.true_and]
 clear HH hq
 go_quiet (first | (go_at_call 94; exact mR ((fF m.store c.frame 1 _ (hs0.drewN _)).mono fun _ _ ⟨a, b⟩ => ⟨a.trans (by rw [HQ.out]), b⟩)) | fail)
 clear HQ hs0
 go_upto_region 3 with fail
 replace a0 := a0.drewN nq
 replace hW := bN hW nq
 clear ca la
 generalize World.drewN W nq = W1 at *
 obtain ⟨W, rfl⟩ : ∃ X : World, X = W1 := ⟨_, rfl⟩
 have ca := a0.cell
 have la := a0.lt
 have hs0 := eG.qF (h.below hW)
 by_cases t5 : 5 ≤ c.kind
 ·have d5' : decide (5 ≤ c.kind) = true := dT t5
  have d1' : (c.kind == 1) = false := by simp; omega
  replace HE : Hid (V = (c.dZ.all (pN m.store) && c.dU.all (kF m.code.av.length) && c.eu.all (iD m) && c.cells.all (mI m.store) && mI m.store c.object)) := by show _ = _; rw [HE.out, dT t5, dF (show ¬ c.kind = 1 by omega)]; simp
  clear t0 t1 t5
  cases hq : kU m.store c.object 9 with
  | false =>
    have HQ := lH hq
    have HO : Hid (V = false) := lH (by rw [HE.out, show mI m.store c.object = false from HQ.out]; simp)
    clear HE hq
    go_quiet (first | (go_at_call 94; exact mR ((fF m.store c.object 9 _ (hs0.drewN _)).mono fun _ _ ⟨a, b⟩ => ⟨a.trans (by rw [HQ.out]), b⟩)) | fail)
    go_wp2_with fail
    all_goals go_ret <;> exact ⟨ah (by first | rfl | exact HO.out.symm), (by first | exact hW | exact bN hW _ | exact aC hW)⟩
  | true =>
  have HQ := lH hq
  replace HE : Hid (V = (c.dZ.all (pN m.store) && c.dU.all (kF m.code.av.length) && c.eu.all (iD m) && c.cells.all (mI m.store))) := by show _ = _; rw [HE.out, show mI m.store c.object = true from HQ.out, Bool.and_true]
  clear hq
  go_quiet (first | (go_at_call 94; exact mR ((fF m.store c.object 9 _ (hs0.drewN _)).mono fun _ _ ⟨a, b⟩ => ⟨a.trans (by rw [HQ.out]), b⟩)) | fail)
  clear HQ hs0
  skip
  replace a0 := a0.drewN nq
  replace hW := bN hW nq
  clear ca la
  generalize World.drewN W nq = W1 at *
  obtain ⟨W, rfl⟩ : ∃ X : World, X = W1 := ⟨_, rfl⟩
  have ca := a0.cell
  have la := a0.lt
  have HE2 := HE
  clear HE
  replace HE := HE2
  clear HE2
  cases x0 : c.dZ.all (pN m.store) with
  | false =>
    have HX0 := lH x0
    have HO : Hid (V = false) := lH (by rw [HE.out, HX0.out]; simp)
    clear HE x0
    go_wp2_with (first | (go_at_call 51; refine (gB m c.dZ _ _ (h.below hW) (hs.below hW hhi) (nT hhi hW.size)).mono ?_; rw [HX0.out]; rintro e w1 ⟨rfl, hb1⟩; replace hb1 := nX hW a0 hb1; clear hW a0 ca la; obtain ⟨hW, a0, ca, la⟩ := hb1) | fail)
    go_wp2_with fail
    all_goals go_ret <;> exact ⟨ah (by first | rfl | exact HO.out.symm), (by first | exact hW | exact bN hW _ | exact aC hW)⟩
  | true =>
  have HX0 := lH x0
  clear x0
  cases x1 : c.dU.all (kF m.code.av.length) with
  | false =>
    have HX1 := lH x1
    have HO : Hid (V = false) := lH (by rw [HE.out, HX1.out]; simp)
    clear HE x1
    go_wp2_with (first | (go_at_call 51; refine (gB m c.dZ _ _ (h.below hW) (hs.below hW hhi) (nT hhi hW.size)).mono ?_; rw [HX0.out]; rintro e w1 ⟨rfl, hb1⟩; replace hb1 := nX hW a0 hb1; clear hW a0 ca la; obtain ⟨hW, a0, ca, la⟩ := hb1) | (go_at_call 100; refine (jH m c.dU _ _ (h.below hW) (hm.below hW hhi) (nT hhi hW.size)).mono ?_; rw [HX1.out]; rintro e w1 ⟨rfl, hb1⟩; replace hb1 := nX hW a0 hb1; clear hW a0 ca la; obtain ⟨hW, a0, ca, la⟩ := hb1) | fail)
    go_wp2_with fail
    all_goals go_ret <;> exact ⟨ah (by first | rfl | exact HO.out.symm), (by first | exact hW | exact bN hW _ | exact aC hW)⟩
  | true =>
  have HX1 := lH x1
  clear x1
  cases x2 : c.eu.all (iD m) with
  | false =>
    have HX2 := lH x2
    have HO : Hid (V = false) := lH (by rw [HE.out, HX2.out]; simp)
    clear HE x2
    go_wp2_with (first | (go_at_call 51; refine (gB m c.dZ _ _ (h.below hW) (hs.below hW hhi) (nT hhi hW.size)).mono ?_; rw [HX0.out]; rintro e w1 ⟨rfl, hb1⟩; replace hb1 := nX hW a0 hb1; clear hW a0 ca la; obtain ⟨hW, a0, ca, la⟩ := hb1) | (go_at_call 100; refine (jH m c.dU _ _ (h.below hW) (hm.below hW hhi) (nT hhi hW.size)).mono ?_; rw [HX1.out]; rintro e w1 ⟨rfl, hb1⟩; replace hb1 := nX hW a0 hb1; clear hW a0 ca la; obtain ⟨hW, a0, ca, la⟩ := hb1) | (go_at_call 101; refine (ny m c.eu _ _ (h.below hW) (hc.below hW hhi) (nT hhi hW.size)).mono ?_; rw [HX2.out]; rintro e w1 ⟨rfl, hb1⟩; replace hb1 := nX hW a0 hb1; clear hW a0 ca la; obtain ⟨hW, a0, ca, la⟩ := hb1) | fail)
    go_wp2_with fail
    all_goals go_ret <;> exact ⟨ah (by first | rfl | exact HO.out.symm), (by first | exact hW | exact bN hW _ | exact aC hW)⟩
  | true =>
  have HX2 := lH x2
  clear x2
  cases x3 : c.cells.all (mI m.store)
  have HX3 := lH x3
  have HO : Hid (V = false) := lH (by rw [HE.out, HX3.out]; simp)
  clear HE x3
  rotate_left
  have HX3 := lH x3
  clear x3
  have HO : Hid (V = true) := lH (by rw [HE.out, HX0.out, HX1.out, HX2.out, HX3.out]; rfl)
  clear HE
  iterate 2 focus
   go_wp2_with (first | (go_at_call 51; refine (gB m c.dZ _ _ (h.below hW) (hs.below hW hhi) (nT hhi hW.size)).mono ?_; rw [HX0.out]; rintro e w1 ⟨rfl, hb1⟩; replace hb1 := nX hW a0 hb1; clear hW a0 ca la; obtain ⟨hW, a0, ca, la⟩ := hb1) | (go_at_call 100; refine (jH m c.dU _ _ (h.below hW) (hm.below hW hhi) (nT hhi hW.size)).mono ?_; rw [HX1.out]; rintro e w1 ⟨rfl, hb1⟩; replace hb1 := nX hW a0 hb1; clear hW a0 ca la; obtain ⟨hW, a0, ca, la⟩ := hb1) | (go_at_call 101; refine (ny m c.eu _ _ (h.below hW) (hc.below hW hhi) (nT hhi hW.size)).mono ?_; rw [HX2.out]; rintro e w1 ⟨rfl, hb1⟩; replace hb1 := nX hW a0 hb1; clear hW a0 ca la; obtain ⟨hW, a0, ca, la⟩ := hb1) | (go_at_call 102; refine (rP m c.cells _ _ (h.below hW) (he.below hW hhi) (nT hhi hW.size)).mono ?_; rw [HX3.out]; rintro e w1 ⟨rfl, hb1⟩; replace hb1 := nX hW a0 hb1; clear hW a0 ca la; obtain ⟨hW, a0, ca, la⟩ := hb1) | fail)
   go_wp2_with fail
   all_goals go_ret <;> exact ⟨ah (by first | rfl | exact HO.out.symm), (by first | exact hW | exact bN hW _ | exact aC hW)⟩
 have d5' : decide (5 ≤ c.kind) = false := dF t5
 by_cases t1' : c.kind = 1
 rotate_left
 ·have d1' : (c.kind == 1) = false := by simp; omega
  replace HE : Hid (V = (c.dZ.all (pN m.store) && c.dU.all (kF m.code.av.length) && c.eu.all (iD m) && c.cells.all (mI m.store))) := by show _ = _; rw [HE.out, dF t5, dF t1']; simp
  clear t0 t1 t5 t1' hs0
  go_quiet (fail)
  replace a0 := a0.drewN nq
  replace hW := bN hW nq
  clear ca la
  generalize World.drewN W nq = W1 at *
  obtain ⟨W, rfl⟩ : ∃ X : World, X = W1 := ⟨_, rfl⟩
  have ca := a0.cell
  have la := a0.lt
  have HE2 := HE
  clear HE
  replace HE := HE2
  clear HE2
  cases x0 : c.dZ.all (pN m.store) with
  | false =>
    have HX0 := lH x0
    have HO : Hid (V = false) := lH (by rw [HE.out, HX0.out]; simp)
    clear HE x0
    go_wp2_with (first | (go_at_call 51; refine (gB m c.dZ _ _ (h.below hW) (hs.below hW hhi) (nT hhi hW.size)).mono ?_; rw [HX0.out]; rintro e w1 ⟨rfl, hb1⟩; replace hb1 := nX hW a0 hb1; clear hW a0 ca la; obtain ⟨hW, a0, ca, la⟩ := hb1) | fail)
    go_wp2_with fail
    all_goals go_ret <;> exact ⟨ah (by first | rfl | exact HO.out.symm), (by first | exact hW | exact bN hW _ | exact aC hW)⟩
  | true =>
  have HX0 := lH x0
  clear x0
  cases x1 : c.dU.all (kF m.code.av.length) with
  | false =>
    have HX1 := lH x1
    have HO : Hid (V = false) := lH (by rw [HE.out, HX1.out]; simp)
    clear HE x1
    go_wp2_with (first | (go_at_call 51; refine (gB m c.dZ _ _ (h.below hW) (hs.below hW hhi) (nT hhi hW.size)).mono ?_; rw [HX0.out]; rintro e w1 ⟨rfl, hb1⟩; replace hb1 := nX hW a0 hb1; clear hW a0 ca la; obtain ⟨hW, a0, ca, la⟩ := hb1) | (go_at_call 100; refine (jH m c.dU _ _ (h.below hW) (hm.below hW hhi) (nT hhi hW.size)).mono ?_; rw [HX1.out]; rintro e w1 ⟨rfl, hb1⟩; replace hb1 := nX hW a0 hb1; clear hW a0 ca la; obtain ⟨hW, a0, ca, la⟩ := hb1) | fail)
    go_wp2_with fail
    all_goals go_ret <;> exact ⟨ah (by first | rfl | exact HO.out.symm), (by first | exact hW | exact bN hW _ | exact aC hW)⟩
  | true =>
  have HX1 := lH x1
  clear x1
  cases x2 : c.eu.all (iD m) with
  | false =>
    have HX2 := lH x2
    have HO : Hid (V = false) := lH (by rw [HE.out, HX2.out]; simp)
    clear HE x2
    go_wp2_with (first | (go_at_call 51; refine (gB m c.dZ _ _ (h.below hW) (hs.below hW hhi) (nT hhi hW.size)).mono ?_; rw [HX0.out]; rintro e w1 ⟨rfl, hb1⟩; replace hb1 := nX hW a0 hb1; clear hW a0 ca la; obtain ⟨hW, a0, ca, la⟩ := hb1) | (go_at_call 100; refine (jH m c.dU _ _ (h.below hW) (hm.below hW hhi) (nT hhi hW.size)).mono ?_; rw [HX1.out]; rintro e w1 ⟨rfl, hb1⟩; replace hb1 := nX hW a0 hb1; clear hW a0 ca la; obtain ⟨hW, a0, ca, la⟩ := hb1) | (go_at_call 101; refine (ny m c.eu _ _ (h.below hW) (hc.below hW hhi) (nT hhi hW.size)).mono ?_; rw [HX2.out]; rintro e w1 ⟨rfl, hb1⟩; replace hb1 := nX hW a0 hb1; clear hW a0 ca la; obtain ⟨hW, a0, ca, la⟩ := hb1) | fail)
    go_wp2_with fail
    all_goals go_ret <;> exact ⟨ah (by first | rfl | exact HO.out.symm), (by first | exact hW | exact bN hW _ | exact aC hW)⟩
  | true =>
  have HX2 := lH x2
  clear x2
  cases x3 : c.cells.all (mI m.store)
  have HX3 := lH x3
  have HO : Hid (V = false) := lH (by rw [HE.out, HX3.out]; simp)
  clear HE x3
  rotate_left
  have HX3 := lH x3
  clear x3
  have HO : Hid (V = true) := lH (by rw [HE.out, HX0.out, HX1.out, HX2.out, HX3.out]; rfl)
  clear HE
  iterate 2 focus
   go_wp2_with (first | (go_at_call 51; refine (gB m c.dZ _ _ (h.below hW) (hs.below hW hhi) (nT hhi hW.size)).mono ?_; rw [HX0.out]; rintro e w1 ⟨rfl, hb1⟩; replace hb1 := nX hW a0 hb1; clear hW a0 ca la; obtain ⟨hW, a0, ca, la⟩ := hb1) | (go_at_call 100; refine (jH m c.dU _ _ (h.below hW) (hm.below hW hhi) (nT hhi hW.size)).mono ?_; rw [HX1.out]; rintro e w1 ⟨rfl, hb1⟩; replace hb1 := nX hW a0 hb1; clear hW a0 ca la; obtain ⟨hW, a0, ca, la⟩ := hb1) | (go_at_call 101; refine (ny m c.eu _ _ (h.below hW) (hc.below hW hhi) (nT hhi hW.size)).mono ?_; rw [HX2.out]; rintro e w1 ⟨rfl, hb1⟩; replace hb1 := nX hW a0 hb1; clear hW a0 ca la; obtain ⟨hW, a0, ca, la⟩ := hb1) | (go_at_call 102; refine (rP m c.cells _ _ (h.below hW) (he.below hW hhi) (nT hhi hW.size)).mono ?_; rw [HX3.out]; rintro e w1 ⟨rfl, hb1⟩; replace hb1 := nX hW a0 hb1; clear hW a0 ca la; obtain ⟨hW, a0, ca, la⟩ := hb1) | fail)
   go_wp2_with fail
   all_goals go_ret <;> exact ⟨ah (by first | rfl | exact HO.out.symm), (by first | exact hW | exact bN hW _ | exact aC hW)⟩
 have d1' : (c.kind == 1) = true := by simp; omega
 replace HE : Hid (V = (c.dZ.all (pN m.store) && c.dU.all (kF m.code.av.length) && c.eu.all (iD m) && c.cells.all (mI m.store) && sw m.store c.gen)) := by show _ = _; rw [HE.out, dF t5, dT t1']; simp
 clear t0 t1 t5 t1' hs0
 have kcb := qC (B := W.heap.size) a0 la
 obtain ⟨An, nn, Ar, nr, Ao, no, Ag, ng, Au, nu, At', nt, Aa, na, hrs, y0, y1, y2, y3, y4, y5, y6, y7, y8, y9, y10, y11, y12⟩ := eG.sto (h.below hW)
 have k0 := aW (B := W.heap.size) y0 (h.below hW).lt
 have k1 := aW (B := W.heap.size) y1 (h.below hW).lt
 have k2 := aW (B := W.heap.size) y2 (h.below hW).lt
 have k3 := aW (B := W.heap.size) y3 (h.below hW).lt
 have k4 := aW (B := W.heap.size) y4 (h.below hW).lt
 have k5 := aW (B := W.heap.size) y5 (h.below hW).lt
 have k6 := aW (B := W.heap.size) y6 (h.below hW).lt
 have k7 := aW (B := W.heap.size) y7 (h.below hW).lt
 have k8 := aW (B := W.heap.size) y8 (h.below hW).lt
 have k9 := aW (B := W.heap.size) y9 (h.below hW).lt
 have k10 := aW (B := W.heap.size) y10 (h.below hW).lt
 have k11 := aW (B := W.heap.size) y11 (h.below hW).lt
 have k12 := aW (B := W.heap.size) y12 (h.below hW).lt
 cases hgn : sw m.store c.gen with
 | false =>
   have HG := lH hgn
   have HO : Hid (V = false) := lH (by rw [HE.out, HG.out, Bool.and_false])
   clear HE hgn
   refine fI (B := W.heap.size) (by kernel_rfl) (by kernel_rfl) ?_
   repeat (go_big_quiet_step (first | (go_at_call 142; exact fB (nR _) ((tX m.store c.gen _ _ _ (hrs.below (Kept.below _) (h.below hW).le) (iY.mk_ (hg.below (Kept.of hW hW.size _) hhi)) (nT (h.below hW).le (Kept.below _).size) (nT hhi (Kept.of hW hW.size _).size) (hst.below (Kept.of hW hW.size _) hst.2) hsv).mono fun _ _ ⟨a, b⟩ => ⟨a.trans (by rw [HG.out]), b⟩)) | fail))
   refine wpQuiet_nil ?_
   intro w' hw'
   obtain ⟨v, rfl⟩ := hw'
   replace hW := Kept.of hW hW.size v
   go_wp2_with fail
   all_goals go_ret <;> exact ⟨ah (by first | rfl | exact HO.out.symm), (by first | exact hW | exact bN hW _ | exact aC hW)⟩
 | true =>
 have HG := lH hgn
 replace HE : Hid (V = (c.dZ.all (pN m.store) && c.dU.all (kF m.code.av.length) && c.eu.all (iD m) && c.cells.all (mI m.store))) := by show _ = _; rw [HE.out, HG.out, Bool.and_true]
 clear hgn
 refine fI (B := W.heap.size) (by kernel_rfl) (by kernel_rfl) ?_
 repeat (go_big_quiet_step (first | (go_at_call 142; exact fB (nR _) ((tX m.store c.gen _ _ _ (hrs.below (Kept.below _) (h.below hW).le) (iY.mk_ (hg.below (Kept.of hW hW.size _) hhi)) (nT (h.below hW).le (Kept.below _).size) (nT hhi (Kept.of hW hW.size _).size) (hst.below (Kept.of hW hW.size _) hst.2) hsv).mono fun _ _ ⟨a, b⟩ => ⟨a.trans (by rw [HG.out]), b⟩)) | fail))
 refine wpQuiet_nil ?_
 intro w' hw'
 obtain ⟨v, rfl⟩ := hw'
 replace hW := Kept.of hW hW.size v
 replace a0 := a0.later v.below
 clear ca la kcb k0 y0 k1 y1 k2 y2 k3 y3 k4 y4 k5 y5 k6 y6 k7 y7 k8 y8 k9 y9 k10 y10 k11 y11 k12 y12 hrs
 generalize v.out = W1 at *
 obtain ⟨W, rfl⟩ : ∃ X : World, X = W1 := ⟨_, rfl⟩
 have ca := a0.cell
 have la := a0.lt
 have HE2 := HE
 clear HE
 replace HE := HE2
 clear HE2
 cases x0 : c.dZ.all (pN m.store) with
 | false =>
   have HX0 := lH x0
   have HO : Hid (V = false) := lH (by rw [HE.out, HX0.out]; simp)
   clear HE x0
   go_wp2_with (first | (go_at_call 51; refine (gB m c.dZ _ _ (h.below hW) (hs.below hW hhi) (nT hhi hW.size)).mono ?_; rw [HX0.out]; rintro e w1 ⟨rfl, hb1⟩; replace hb1 := nX hW a0 hb1; clear hW a0 ca la; obtain ⟨hW, a0, ca, la⟩ := hb1) | fail)
   go_wp2_with fail
   all_goals go_ret <;> exact ⟨ah (by first | rfl | exact HO.out.symm), (by first | exact hW | exact bN hW _ | exact aC hW)⟩
 | true =>
 have HX0 := lH x0
 clear x0
 cases x1 : c.dU.all (kF m.code.av.length) with
 | false =>
   have HX1 := lH x1
   have HO : Hid (V = false) := lH (by rw [HE.out, HX1.out]; simp)
   clear HE x1
   go_wp2_with (first | (go_at_call 51; refine (gB m c.dZ _ _ (h.below hW) (hs.below hW hhi) (nT hhi hW.size)).mono ?_; rw [HX0.out]; rintro e w1 ⟨rfl, hb1⟩; replace hb1 := nX hW a0 hb1; clear hW a0 ca la; obtain ⟨hW, a0, ca, la⟩ := hb1) | (go_at_call 100; refine (jH m c.dU _ _ (h.below hW) (hm.below hW hhi) (nT hhi hW.size)).mono ?_; rw [HX1.out]; rintro e w1 ⟨rfl, hb1⟩; replace hb1 := nX hW a0 hb1; clear hW a0 ca la; obtain ⟨hW, a0, ca, la⟩ := hb1) | fail)
   go_wp2_with fail
   all_goals go_ret <;> exact ⟨ah (by first | rfl | exact HO.out.symm), (by first | exact hW | exact bN hW _ | exact aC hW)⟩
 | true =>
 have HX1 := lH x1
 clear x1
 cases x2 : c.eu.all (iD m) with
 | false =>
   have HX2 := lH x2
   have HO : Hid (V = false) := lH (by rw [HE.out, HX2.out]; simp)
   clear HE x2
   go_wp2_with (first | (go_at_call 51; refine (gB m c.dZ _ _ (h.below hW) (hs.below hW hhi) (nT hhi hW.size)).mono ?_; rw [HX0.out]; rintro e w1 ⟨rfl, hb1⟩; replace hb1 := nX hW a0 hb1; clear hW a0 ca la; obtain ⟨hW, a0, ca, la⟩ := hb1) | (go_at_call 100; refine (jH m c.dU _ _ (h.below hW) (hm.below hW hhi) (nT hhi hW.size)).mono ?_; rw [HX1.out]; rintro e w1 ⟨rfl, hb1⟩; replace hb1 := nX hW a0 hb1; clear hW a0 ca la; obtain ⟨hW, a0, ca, la⟩ := hb1) | (go_at_call 101; refine (ny m c.eu _ _ (h.below hW) (hc.below hW hhi) (nT hhi hW.size)).mono ?_; rw [HX2.out]; rintro e w1 ⟨rfl, hb1⟩; replace hb1 := nX hW a0 hb1; clear hW a0 ca la; obtain ⟨hW, a0, ca, la⟩ := hb1) | fail)
   go_wp2_with fail
   all_goals go_ret <;> exact ⟨ah (by first | rfl | exact HO.out.symm), (by first | exact hW | exact bN hW _ | exact aC hW)⟩
 | true =>
 have HX2 := lH x2
 clear x2
 cases x3 : c.cells.all (mI m.store)
 have HX3 := lH x3
 have HO : Hid (V = false) := lH (by rw [HE.out, HX3.out]; simp)
 clear HE x3
 rotate_left
 have HX3 := lH x3
 clear x3
 have HO : Hid (V = true) := lH (by rw [HE.out, HX0.out, HX1.out, HX2.out, HX3.out]; rfl)
 clear HE
 iterate 2 focus
  go_wp2_with (first | (go_at_call 51; refine (gB m c.dZ _ _ (h.below hW) (hs.below hW hhi) (nT hhi hW.size)).mono ?_; rw [HX0.out]; rintro e w1 ⟨rfl, hb1⟩; replace hb1 := nX hW a0 hb1; clear hW a0 ca la; obtain ⟨hW, a0, ca, la⟩ := hb1) | (go_at_call 100; refine (jH m c.dU _ _ (h.below hW) (hm.below hW hhi) (nT hhi hW.size)).mono ?_; rw [HX1.out]; rintro e w1 ⟨rfl, hb1⟩; replace hb1 := nX hW a0 hb1; clear hW a0 ca la; obtain ⟨hW, a0, ca, la⟩ := hb1) | (go_at_call 101; refine (ny m c.eu _ _ (h.below hW) (hc.below hW hhi) (nT hhi hW.size)).mono ?_; rw [HX2.out]; rintro e w1 ⟨rfl, hb1⟩; replace hb1 := nX hW a0 hb1; clear hW a0 ca la; obtain ⟨hW, a0, ca, la⟩ := hb1) | (go_at_call 102; refine (rP m c.cells _ _ (h.below hW) (he.below hW hhi) (nT hhi hW.size)).mono ?_; rw [HX3.out]; rintro e w1 ⟨rfl, hb1⟩; replace hb1 := nX hW a0 hb1; clear hW a0 ca la; obtain ⟨hW, a0, ca, la⟩ := hb1) | fail)
  go_wp2_with fail
  all_goals go_ret <;> exact ⟨ah (by first | rfl | exact HO.out.symm), (by first | exact hW | exact bN hW _ | exact aC hW)⟩
end Go.Proofs.YtoddlphekcihgaaGreatDoor
