/- A valid generator, of the reference. -/
import Derived.Test.YtoddlphekcihgaaGreatDoorQ24
set_option maxRecDepth 100000
set_option maxHeartbeats 8000000
set_option linter.unusedVariables false
set_option linter.unusedSimpArgs false
namespace Go.Proofs.YtoddlphekcihgaaGreatDoor
open Go.RowKit
theorem Mt (s : dP) (c : iY) (y : Value) (w : World) {g off lo hi lo' hi' : Nat} (h : At w g off lo hi dP.ay s) (hy : fA w lo' hi' iY.ay y c) (eP : hi' ≤ w.heap.size) (hk : c.kind = 1) :
 Calls Tryz.prog 126 #[.pointer (some ⟨g, off, none⟩), y] w fun e w' => e = .returned (.bool (sw s c)) ∧ Below w.heap.size w w' := by
 generalize hV : sw s c = V
 have HE : Hid (V = (c.args.all (cK s) && (decide (1 ≤ c.count) && decide (c.count ≤ 5000) && pM c))) := by rw [← hV]; unfold sw; rw [if_pos hk]; rfl
 have ek : (c.kind == 1) = true := by simp [hk]
 clear hV hk
 obtain ⟨AG, nG, rfl, hg, ug, mg⟩ := iY.form hy
 unfold maxLen at mg
 clear hy
 obtain ⟨a0, hW⟩ := eZ w 158 #[.int .i64 c.kind, .int .i64 c.op, .int .i64 c.count, .slice AG c.args.length nG]
 go_enter Tryz.func126, Tryz.ntmps126
 go_upto_region 1 with fail
 generalize w.alloc (.cells #[Value.int .i64 c.kind, .int .i64 c.op, .int .i64 c.count, .slice AG c.args.length nG] 158) = W at *
 have ca := a0.cell
 have la := a0.lt
 go_wp2_with fail
 go_loopw [5] (fun i wr => ∃ k : Nat, k ≤ c.args.length ∧ i = .int .i64 k ∧ Hid ((c.args.take k).all (cK s) = true) ∧ Below W.heap.size W wr) (fun i _ => c.args.length - (intOf i).toNat)
 case atStart => exact ⟨0, nZ _, rfl, by simp [Hid], bR _ _⟩
 case round =>
  obtain ⟨k, hk, rfl, hgo, hb⟩ := hrel
  obtain ⟨wo, rfl⟩ := nW wr
  have hWo := hW.trans (hb.mono hW.size)
  have a1 := a0.later hb
  clear ca la
  have ca := a1.cell
  have la := a1.lt
  by_cases hlt : k < c.args.length
  ·obtain ⟨a, ha⟩ : ∃ a, c.args[k]? = some a := ⟨_, gE hlt⟩
   obtain ⟨g', off', rfl, hg1, hg2, -, -, q0, q1, q2, q3, q4, q5⟩ := aQ.at_ (hg.below hWo eP) ha
   have HN := lH (fun h => fJ (q := cK s) ha hgo.out h)
   have HF := lH (fun h => lI (q := cK s) (mG ha) h)
   clear ha hgo
   go_wp2_with fail
   refine (mH s a _ _ (h.below hWo) (aQ.mk_ (lo := 0) (hi := 0))).mono ?_; rintro e w2 ⟨rfl, hb2⟩
   have hw2 := hb.trans (hb2.mono hb.size)
   clear q0 q1 q2 q3 q4 q5 hb2
   cases hq : cK s a with
   | true =>
     have HN := lH (HN.out hq)
     clear HF hq
     go_wp2_with fail
     go_roundw
     case rel => exact ⟨k + 1, by omega, by go_num, HN, hw2⟩
     case measure => simp [intOf]; omega
   | false =>
     have HF := lH (HF.out hq)
     have HO : Hid (V = false) := lH (by rw [HE.out, HF.out]; rfl)
     clear HN HF HE hq
     go_wp2_with fail
     go_ret
     exact ⟨ah HO.out.symm, hW.trans (hw2.mono hW.size)⟩
  obtain rfl : k = c.args.length := by omega
  rw [List.take_length] at hgo
  replace HE : Hid (V = (decide (1 ≤ c.count) && decide (c.count ≤ 5000) && pM c)) := by show _ = _; rw [HE.out, hgo.out, Bool.true_and]
  replace hW := hWo
  replace a0 := a1
  clear hlt hk hb a1 hWo
  obtain ⟨W, rfl⟩ : ∃ X : World, X = wo := ⟨_, rfl⟩
  go_upto_region 6 with fail
  replace HE : Hid (V = (inB c.count 1 5000 && pM c)) := by show _ = _; rw [HE.out]; rfl
  cases hb0 : inB c.count 1 5000 with
  | false =>
    have HB := lH hb0
    have HO : Hid (V = false) := lH (by rw [HE.out, HB.out]; rfl)
    clear HE hb0
    go_wp2_with (first | (go_at_call 36; refine (bJ c.count 1 5000 _).mono ?_; rw [HB.out]; rintro e w1 ⟨rfl, rfl⟩) | fail)
    all_goals go_ret
    all_goals (exact ⟨ah (by first | rfl | exact HO.out.symm), (by first | exact hW | exact bN hW _ | exact aC hW)⟩)
  | true =>
  have HB := lH hb0
  replace HE : Hid (V = pM c) := by show _ = _; rw [HE.out, HB.out, Bool.true_and]
  clear hb0
  by_cases x7 : c.op = 7
  ·skip
   have e7 : (c.op == 7) = true := by simp; omega
   have HX := lH x7
   clear x7
   rcases (Classical.em (c.args.length = 1)).symm with n1 | n1
   have dn : ((c.args.length : Int) == 1) = false := by simp; omega
   have HO : Hid (V = false) := lH (by rw [HE.out, xk n1 (Or.inl HX.out)])
   clear HE n1
   rotate_left
   have dn : ((c.args.length : Int) == 1) = true := by simp; omega
   have Hn1 := lH n1
   clear n1
   obtain ⟨a, ha⟩ : ∃ a, c.args[0]? = some a := ⟨_, gE (by have := Hn1.out; omega)⟩
   obtain ⟨g', off', rfl, hg1, hg2, -⟩ := aQ.at_ hg (j := 0) ha
   have hi0 : 0 < c.args.length := (by have := Hn1.out; omega)
   obtain ⟨pa0, pa1, pa2, pa3, pa4, pa5⟩ := dV (hg.below hW eP) ha (p := off') (by omega)
   have HO : Hid (V = decide (a.kind ≤ 12)) := lH (by rw [HE.out, zq Hn1.out ha, if_pos HX.out])
   clear HE
   iterate 2 focus
    go_wp2_with (first | (go_at_call 36; refine (bJ c.count 1 5000 _).mono ?_; rw [HB.out]; rintro e w1 ⟨rfl, rfl⟩) | fail)
    all_goals go_ret
    all_goals (exact ⟨ah (by first | rfl | exact HO.out.symm), (by first | exact hW | exact bN hW _ | exact aC hW)⟩)
  by_cases x72 : c.op = 72
  ·skip
   have e7 : (c.op == 7) = false := by simp; omega
   have e72 : (c.op == 72) = true := by simp; omega
   have HX := lH x72
   clear x72
   cases hk3 : rF c.args [1, 1, 1] with
   | false =>
     have HK := lH hk3
     have HO : Hid (V = false) := lH (by rw [HE.out, Jg (by have := HX.out; omega) HK.out])
     clear HE hk3
     go_wp2_with (first | (go_at_call 36; refine (bJ c.count 1 5000 _).mono ?_; rw [HB.out]; rintro e w1 ⟨rfl, rfl⟩) | (go_at_call 152; refine (nA c [1, 1, 1] _ _ _ (iY.mk_ (hg.below (hW.alloc hW.size _) eP)) (Blk.nums (l := [1, 1, 1]) (Blk.new W _ _) (by simp)) (nT eP (hW.alloc hW.size _).size) (by simp)).mono ?_; rw [HK.out]; rintro e w1 ⟨rfl, hb1⟩; replace hW := (hW.alloc hW.size _).trans (hb1.mono (hW.alloc hW.size _).size); replace a0 := (a0.alloc _).later hb1; replace ca := a0.cell; replace la := a0.lt; clear hb1) | fail)
     all_goals go_ret
     all_goals (exact ⟨ah (by first | rfl | exact HO.out.symm), (by first | exact hW | exact bN hW _ | exact aC hW)⟩)
   | true =>
   have HK := lH hk3
   clear hk3
   obtain ⟨a, b, d, n3, ha, hb, hd, z1, z2, z3⟩ := vZ HK.out
   have HO : Hid (V = (d.number != 0)) := lH (by rw [HE.out, qm n3 ha hb hd, if_pos (by have := HX.out; omega), z1, z2, z3]; by_cases z : d.number = 0 <;> simp [z])
   have hi2 : (2 : Int) < (c.args.length : Int) := by omega
   clear HE z1 z2 z3 n3
   obtain ⟨g', off', rfl, hg1, hg2, -⟩ := aQ.at_ hg (j := 0) ha
   obtain ⟨pd0, pd1, pd2, pd3, pd4, pd5⟩ := dV (hg.below hW eP) hd (p := off' + 12) (by omega)
   clear pd0 pd2 pd3 pd4 pd5
   go_wp2_with (first | (go_at_call 36; refine (bJ c.count 1 5000 _).mono ?_; rw [HB.out]; rintro e w1 ⟨rfl, rfl⟩) | (go_at_call 152; refine (nA c [1, 1, 1] _ _ _ (iY.mk_ (hg.below (hW.alloc hW.size _) eP)) (Blk.nums (l := [1, 1, 1]) (Blk.new W _ _) (by simp)) (nT eP (hW.alloc hW.size _).size) (by simp)).mono ?_; rw [HK.out]; rintro e w1 ⟨rfl, hb1⟩; replace hW := (hW.alloc hW.size _).trans (hb1.mono (hW.alloc hW.size _).size); replace a0 := (a0.alloc _).later hb1; replace ca := a0.cell; replace la := a0.lt; obtain ⟨pd0, pd1, pd2, pd3, pd4, pd5⟩ := dV (hg.below hW eP) hd (p := off' + 12) (by omega); clear hb1) | fail)
   all_goals go_ret
   all_goals (exact ⟨ah (by first | rfl | exact HO.out.symm), (by first | exact hW | exact bN hW _ | exact aC hW)⟩)
  by_cases CQ : c.op = 338
  ·skip
   have e7 : (c.op == 7) = false := by simp; omega
   have e72 : (c.op == 72) = false := by simp; omega
   have FK : (c.op == 338) = true := by simp; omega
   have HX := lH CQ
   clear CQ
   cases hk3 : rF c.args [1, 1, 1] with
   | false =>
     have HK := lH hk3
     have HO : Hid (V = false) := lH (by rw [HE.out, Jg (by have := HX.out; omega) HK.out])
     clear HE hk3
     go_wp2_with (first | (go_at_call 36; refine (bJ c.count 1 5000 _).mono ?_; rw [HB.out]; rintro e w1 ⟨rfl, rfl⟩) | (go_at_call 152; refine (nA c [1, 1, 1] _ _ _ (iY.mk_ (hg.below (hW.alloc hW.size _) eP)) (Blk.nums (l := [1, 1, 1]) (Blk.new W _ _) (by simp)) (nT eP (hW.alloc hW.size _).size) (by simp)).mono ?_; rw [HK.out]; rintro e w1 ⟨rfl, hb1⟩; replace hW := (hW.alloc hW.size _).trans (hb1.mono (hW.alloc hW.size _).size); replace a0 := (a0.alloc _).later hb1; replace ca := a0.cell; replace la := a0.lt; clear hb1) | fail)
     all_goals go_ret
     all_goals (exact ⟨ah (by first | rfl | exact HO.out.symm), (by first | exact hW | exact bN hW _ | exact aC hW)⟩)
   | true =>
   have HK := lH hk3
   clear hk3
   obtain ⟨a, b, d, n3, ha, hb, hd, z1, z2, z3⟩ := vZ HK.out
   have HO : Hid (V = (d.number != 0)) := lH (by rw [HE.out, qm n3 ha hb hd, if_pos (by have := HX.out; omega), z1, z2, z3]; by_cases z : d.number = 0 <;> simp [z])
   have hi2 : (2 : Int) < (c.args.length : Int) := by omega
   clear HE z1 z2 z3 n3
   obtain ⟨g', off', rfl, hg1, hg2, -⟩ := aQ.at_ hg (j := 0) ha
   obtain ⟨pd0, pd1, pd2, pd3, pd4, pd5⟩ := dV (hg.below hW eP) hd (p := off' + 12) (by omega)
   clear pd0 pd2 pd3 pd4 pd5
   go_wp2_with (first | (go_at_call 36; refine (bJ c.count 1 5000 _).mono ?_; rw [HB.out]; rintro e w1 ⟨rfl, rfl⟩) | (go_at_call 152; refine (nA c [1, 1, 1] _ _ _ (iY.mk_ (hg.below (hW.alloc hW.size _) eP)) (Blk.nums (l := [1, 1, 1]) (Blk.new W _ _) (by simp)) (nT eP (hW.alloc hW.size _).size) (by simp)).mono ?_; rw [HK.out]; rintro e w1 ⟨rfl, hb1⟩; replace hW := (hW.alloc hW.size _).trans (hb1.mono (hW.alloc hW.size _).size); replace a0 := (a0.alloc _).later hb1; replace ca := a0.cell; replace la := a0.lt; obtain ⟨pd0, pd1, pd2, pd3, pd4, pd5⟩ := dV (hg.below hW eP) hd (p := off' + 12) (by omega); clear hb1) | fail)
   all_goals go_ret
   all_goals (exact ⟨ah (by first | rfl | exact HO.out.symm), (by first | exact hW | exact bN hW _ | exact aC hW)⟩)
  by_cases CP : c.op = 317
  ·skip
   have e7 : (c.op == 7) = false := by simp; omega
   have e72 : (c.op == 72) = false := by simp; omega
   have FK : (c.op == 338) = false := by simp; omega
   have e317 : (c.op == 317) = true := by simp; omega
   have HO : Hid (V = rF c.args [5]) := lH (by rw [HE.out, Lu CP])
   clear HE CP
   go_wp2_with (first | (go_at_call 36; refine (bJ c.count 1 5000 _).mono ?_; rw [HB.out]; rintro e w1 ⟨rfl, rfl⟩) | (go_at_call 152; refine (nA c [5] _ _ _ (iY.mk_ (hg.below (hW.alloc hW.size _) eP)) (Blk.nums (l := [5]) (Blk.new W _ _) (by simp)) (nT eP (hW.alloc hW.size _).size) (by simp)).mono ?_; rw [← HO.out]; rintro e w1 ⟨rfl, hb1⟩; replace hW := (hW.alloc hW.size _).trans (hb1.mono (hW.alloc hW.size _).size); replace a0 := (a0.alloc _).later hb1; replace ca := a0.cell; replace la := a0.lt; clear hb1) | fail)
   all_goals go_ret
   all_goals (exact ⟨ah (by first | rfl | exact HO.out.symm), (by first | exact hW | exact bN hW _ | exact aC hW)⟩)
  by_cases Bo : c.op = 320
  ·skip
   have e7 : (c.op == 7) = false := by simp; omega
   have e72 : (c.op == 72) = false := by simp; omega
   have FK : (c.op == 338) = false := by simp; omega
   have e317 : (c.op == 317) = false := by simp; omega
   have Mc : (c.op == 320) = true := by simp; omega
   have HX := lH Bo
   clear Bo
   cases hk3 : rF c.args [2, 2, 1] with
   | false =>
     have HK := lH hk3
     have HO : Hid (V = false) := lH (by rw [HE.out, Lv HX.out HK.out])
     clear HE hk3
     have hal : ∀ o, Below W.heap.size W (W.drew.alloc o) := fun o => (aC (bR _ _)).alloc (nR _) o
     have aal : ∀ o, Blk (W.drew.alloc o) w.heap.size 158 #[Value.int .i64 c.kind, .int .i64 c.op, .int .i64 c.count, .slice AG c.args.length nG] := fun o => a0.drew.alloc o
     go_upto_region 18 with (first | (go_at_call 36; refine (bJ c.count 1 5000 _).mono ?_; rw [HB.out]; rintro e w1 ⟨rfl, rfl⟩) | fail)
     refine yx (by kernel_rfl) (by kernel_rfl) ?_ ?_
     ·refine ou (by kernel_rfl) fun K hK => ?_
      go_simp
      refine hK _ _ ?_
      clear hK K
      refine ou (by kernel_rfl) fun K hK => ?_
      go_simp
      refine hK _ _ ?_
      clear hK K
      refine ou (by kernel_rfl) fun K hK => ?_
      go_simp
      refine (nA c [2, 2, 1] _ _ _ (iY.mk_ (hg.below (hW.trans ((hal _).mono hW.size)) eP)) (Blk.nums (l := [2, 2, 1]) (Blk.new W.drew _ _) (by simp)) (nT eP (nT hW.size (hal _).size)) (by simp)).mono ?_; rw [HK.out]; rintro e w1 ⟨rfl, hb1⟩
      have hw1 : Below w.heap.size w w1 := hW.trans (((hal _).trans (hb1.mono (hal _).size)).mono hW.size)
      refine hK _ _ ?_
      clear hK K
      refine wQ ⟨fun v => v = w1, rfl, ?_⟩
      repeat (go_big_quiet_step (fail))
      refine wpQuiet_nil ?_
      rintro _ rfl
      go_wp2_with fail
      all_goals go_ret <;> exact ⟨ah (by first | rfl | exact HO.out.symm), hw1⟩
     ·refine ou (by kernel_rfl) fun K hK => ?_
      go_simp
      refine hK _ _ ?_
      clear hK K
      have cal := fun o => (aal o).cell
      refine ou (by kernel_rfl) fun K hK => ?_
      go_simp
      refine hK _ _ ?_
      clear hK K
      refine ou (by kernel_rfl) fun K hK => ?_
      go_simp
      refine (nA c [2, 2, 1] _ _ _ (iY.mk_ (hg.below (hW.trans ((hal _).mono hW.size)) eP)) (Blk.nums (l := [2, 2, 1]) (Blk.new W.drew _ _) (by simp)) (nT eP (nT hW.size (hal _).size)) (by simp)).mono ?_; rw [HK.out]; rintro e w1 ⟨rfl, hb1⟩
      have hw1 : Below w.heap.size w w1 := hW.trans (((hal _).trans (hb1.mono (hal _).size)).mono hW.size)
      refine hK _ _ ?_
      clear hK K
      refine wQ ⟨fun v => v = w1, rfl, ?_⟩
      repeat (go_big_quiet_step (fail))
      refine wpQuiet_nil ?_
      rintro _ rfl
      go_wp2_with fail
      all_goals go_ret <;> exact ⟨ah (by first | rfl | exact HO.out.symm), hw1⟩
   | true =>
   have HK := lH hk3
   clear hk3
   obtain ⟨a, b, d, n3, ha, hb, hd, z1, z2, z3⟩ := vZ HK.out
   have HO : Hid (V = atB b.text d.number) := by
    show _ = _
    have ht := wG (List.all_eq_true.1 hgo.out b (mG hb)) z2
    rw [HE.out, qm n3 ha hb hd, if_neg (by have := HX.out; omega), if_pos HX.out, pz, z1, z2, z3, atB, dT ht]; rfl
   have hi2 : (2 : Int) < (c.args.length : Int) := by omega
   have hi1 : (1 : Int) < (c.args.length : Int) := by omega
   clear HE z1 z2 z3 n3
   obtain ⟨g', off', rfl, hg1, hg2, -⟩ := aQ.at_ hg (j := 0) ha
   have hgi : g' < W.heap.size := nL (nL hg2 eP) hW.size
   obtain ⟨pb0, pb1, pb2, pb3, pb4, pb5⟩ := dV (hg.below hW eP) hb (p := off' + 6) (by omega)
   obtain ⟨pd0, pd1, pd2, pd3, pd4, pd5⟩ := dV (hg.below hW eP) hd (p := off' + 12) (by omega)
   clear pb0 pb1 pb2 pb4 pb5 pd0 pd2 pd3 pd4 pd5
   have hal : ∀ o, Below W.heap.size W (W.alloc o).drew := fun o => aC ((bR _ _).alloc (nR _) o)
   have aal : ∀ o, Blk (W.alloc o).drew w.heap.size 158 #[Value.int .i64 c.kind, .int .i64 c.op, .int .i64 c.count, .slice (some ⟨g', off', none⟩) c.args.length nG] := fun o => (a0.alloc o).drew
   go_upto_region 18 with (first | (go_at_call 36; refine (bJ c.count 1 5000 _).mono ?_; rw [HB.out]; rintro e w1 ⟨rfl, rfl⟩) | fail)
   first | go_region_held3 (fun w' => (∀ i, w'.cell? ⟨w.heap.size, i, none⟩ = #[Value.int .i64 c.kind, .int .i64 c.op, .int .i64 c.count, .slice (some ⟨g', off', none⟩) c.args.length nG][i]?) ∧ w'.cell? ⟨g', off' + 6 + 3, none⟩ = some (.string b.text) ∧ w'.cell? ⟨g', off' + 12 + 1, none⟩ = some (.int .i64 d.number)) (first | exact ⟨ca, pb3, pd1⟩ | (with_reducible exact ⟨(aal _).cell, ((hal _).cell (p := ⟨g', off' + 6 + 3, none⟩) hgi).trans pb3, ((hal _).cell (p := ⟨g', off' + 12 + 1, none⟩) hgi).trans pd1⟩) | (with_reducible exact ⟨a1.cell, ((hq1).cell (p := ⟨g', off' + 6 + 3, none⟩) hgi).trans pb3, ((hq1).cell (p := ⟨g', off' + 12 + 1, none⟩) hgi).trans pd1⟩) | fail) (first | (with_reducible exact ⟨(aal _).cell, ((hal _).cell (p := ⟨g', off' + 6 + 3, none⟩) hgi).trans pb3, ((hal _).cell (p := ⟨g', off' + 12 + 1, none⟩) hgi).trans pd1⟩) | (with_reducible exact ⟨a1.cell, ((hq1).cell (p := ⟨g', off' + 6 + 3, none⟩) hgi).trans pb3, ((hq1).cell (p := ⟨g', off' + 12 + 1, none⟩) hgi).trans pd1⟩) | (go_at_call 152; refine (nA c [2, 2, 1] _ _ _ (iY.mk_ (hg.below (hW.trans ((hal _).mono hW.size)) eP)) (Blk.nums (l := [2, 2, 1]) (Blk.new W _ _).drew (by simp)) (nT eP (nT hW.size (hal _).size)) (by simp)).mono ?_; rw [HK.out]; rintro e w1 ⟨rfl, hb1⟩; have hq1 : Below W.heap.size W w1 := (hal _).trans (hb1.mono (hal _).size); have a1 := (aal _).later hb1) | (go_at_call 153; refine (CU b.text d.number _).mono ?_; rintro e w2 ⟨rfl, rfl⟩) | fail) | fail
   all_goals go_wp2_with fail
   all_goals go_ret <;> exact ⟨ah (by first | rfl | exact HO.out.symm), hW.trans (hq1.mono hW.size)⟩
  by_cases CS : c.op = 321
  ·skip
   have e7 : (c.op == 7) = false := by simp; omega
   have e72 : (c.op == 72) = false := by simp; omega
   have FK : (c.op == 338) = false := by simp; omega
   have e317 : (c.op == 317) = false := by simp; omega
   have Mc : (c.op == 320) = false := by simp; omega
   have e321 : (c.op == 321) = true := by simp; omega
   have HX := lH CS
   clear CS
   cases hk3 : rF c.args [3, 2, 1] with
   | false =>
     have HK := lH hk3
     have HO : Hid (V = false) := lH (by rw [HE.out, Lx HX.out HK.out])
     clear HE hk3
     have hal : ∀ o, Below W.heap.size W (W.drew.alloc o) := fun o => (aC (bR _ _)).alloc (nR _) o
     have aal : ∀ o, Blk (W.drew.alloc o) w.heap.size 158 #[Value.int .i64 c.kind, .int .i64 c.op, .int .i64 c.count, .slice AG c.args.length nG] := fun o => a0.drew.alloc o
     go_upto_region 20 with (first | (go_at_call 36; refine (bJ c.count 1 5000 _).mono ?_; rw [HB.out]; rintro e w1 ⟨rfl, rfl⟩) | fail)
     refine yx (by kernel_rfl) (by kernel_rfl) ?_ ?_
     ·refine ou (by kernel_rfl) fun K hK => ?_
      go_simp
      refine hK _ _ ?_
      clear hK K
      refine ou (by kernel_rfl) fun K hK => ?_
      go_simp
      refine hK _ _ ?_
      clear hK K
      refine ou (by kernel_rfl) fun K hK => ?_
      go_simp
      refine (nA c [3, 2, 1] _ _ _ (iY.mk_ (hg.below (hW.trans ((hal _).mono hW.size)) eP)) (Blk.nums (l := [3, 2, 1]) (Blk.new W.drew _ _) (by simp)) (nT eP (nT hW.size (hal _).size)) (by simp)).mono ?_; rw [HK.out]; rintro e w1 ⟨rfl, hb1⟩
      have hw1 : Below w.heap.size w w1 := hW.trans (((hal _).trans (hb1.mono (hal _).size)).mono hW.size)
      refine hK _ _ ?_
      clear hK K
      refine wQ ⟨fun v => v = w1, rfl, ?_⟩
      repeat (go_big_quiet_step (fail))
      refine wpQuiet_nil ?_
      rintro _ rfl
      go_wp2_with fail
      all_goals go_ret <;> exact ⟨ah (by first | rfl | exact HO.out.symm), hw1⟩
     ·refine ou (by kernel_rfl) fun K hK => ?_
      go_simp
      refine hK _ _ ?_
      clear hK K
      have cal := fun o => (aal o).cell
      refine ou (by kernel_rfl) fun K hK => ?_
      go_simp
      refine hK _ _ ?_
      clear hK K
      refine ou (by kernel_rfl) fun K hK => ?_
      go_simp
      refine (nA c [3, 2, 1] _ _ _ (iY.mk_ (hg.below (hW.trans ((hal _).mono hW.size)) eP)) (Blk.nums (l := [3, 2, 1]) (Blk.new W.drew _ _) (by simp)) (nT eP (nT hW.size (hal _).size)) (by simp)).mono ?_; rw [HK.out]; rintro e w1 ⟨rfl, hb1⟩
      have hw1 : Below w.heap.size w w1 := hW.trans (((hal _).trans (hb1.mono (hal _).size)).mono hW.size)
      refine hK _ _ ?_
      clear hK K
      refine wQ ⟨fun v => v = w1, rfl, ?_⟩
      repeat (go_big_quiet_step (fail))
      refine wpQuiet_nil ?_
      rintro _ rfl
      go_wp2_with fail
      all_goals go_ret <;> exact ⟨ah (by first | rfl | exact HO.out.symm), hw1⟩
   | true =>
   have HK := lH hk3
   clear hk3
   obtain ⟨a, b, d, n3, ha, hb, hd, z1, z2, z3⟩ := vZ HK.out
   have HO : Hid (V = atB b.text d.number) := by
    show _ = _
    have ht := wG (List.all_eq_true.1 hgo.out b (mG hb)) z2
    rw [HE.out, qm n3 ha hb hd, if_neg (by have := HX.out; omega), if_neg (by have := HX.out; omega), if_pos HX.out, pz, z1, z2, z3, atB, dT ht]; rfl
   have hi2 : (2 : Int) < (c.args.length : Int) := by omega
   have hi1 : (1 : Int) < (c.args.length : Int) := by omega
   clear HE z1 z2 z3 n3
   obtain ⟨g', off', rfl, hg1, hg2, -⟩ := aQ.at_ hg (j := 0) ha
   have hgi : g' < W.heap.size := nL (nL hg2 eP) hW.size
   obtain ⟨pb0, pb1, pb2, pb3, pb4, pb5⟩ := dV (hg.below hW eP) hb (p := off' + 6) (by omega)
   obtain ⟨pd0, pd1, pd2, pd3, pd4, pd5⟩ := dV (hg.below hW eP) hd (p := off' + 12) (by omega)
   clear pb0 pb1 pb2 pb4 pb5 pd0 pd2 pd3 pd4 pd5
   have hal : ∀ o, Below W.heap.size W (W.alloc o).drew := fun o => aC ((bR _ _).alloc (nR _) o)
   have aal : ∀ o, Blk (W.alloc o).drew w.heap.size 158 #[Value.int .i64 c.kind, .int .i64 c.op, .int .i64 c.count, .slice (some ⟨g', off', none⟩) c.args.length nG] := fun o => (a0.alloc o).drew
   go_upto_region 20 with (first | (go_at_call 36; refine (bJ c.count 1 5000 _).mono ?_; rw [HB.out]; rintro e w1 ⟨rfl, rfl⟩) | fail)
   first | go_region_held3 (fun w' => (∀ i, w'.cell? ⟨w.heap.size, i, none⟩ = #[Value.int .i64 c.kind, .int .i64 c.op, .int .i64 c.count, .slice (some ⟨g', off', none⟩) c.args.length nG][i]?) ∧ w'.cell? ⟨g', off' + 6 + 3, none⟩ = some (.string b.text) ∧ w'.cell? ⟨g', off' + 12 + 1, none⟩ = some (.int .i64 d.number)) (first | exact ⟨ca, pb3, pd1⟩ | (with_reducible exact ⟨(aal _).cell, ((hal _).cell (p := ⟨g', off' + 6 + 3, none⟩) hgi).trans pb3, ((hal _).cell (p := ⟨g', off' + 12 + 1, none⟩) hgi).trans pd1⟩) | (with_reducible exact ⟨a1.cell, ((hq1).cell (p := ⟨g', off' + 6 + 3, none⟩) hgi).trans pb3, ((hq1).cell (p := ⟨g', off' + 12 + 1, none⟩) hgi).trans pd1⟩) | fail) (first | (with_reducible exact ⟨(aal _).cell, ((hal _).cell (p := ⟨g', off' + 6 + 3, none⟩) hgi).trans pb3, ((hal _).cell (p := ⟨g', off' + 12 + 1, none⟩) hgi).trans pd1⟩) | (with_reducible exact ⟨a1.cell, ((hq1).cell (p := ⟨g', off' + 6 + 3, none⟩) hgi).trans pb3, ((hq1).cell (p := ⟨g', off' + 12 + 1, none⟩) hgi).trans pd1⟩) | (go_at_call 152; refine (nA c [3, 2, 1] _ _ _ (iY.mk_ (hg.below (hW.trans ((hal _).mono hW.size)) eP)) (Blk.nums (l := [3, 2, 1]) (Blk.new W _ _).drew (by simp)) (nT eP (nT hW.size (hal _).size)) (by simp)).mono ?_; rw [HK.out]; rintro e w1 ⟨rfl, hb1⟩; have hq1 : Below W.heap.size W w1 := (hal _).trans (hb1.mono (hal _).size); have a1 := (aal _).later hb1) | (go_at_call 153; refine (CU b.text d.number _).mono ?_; rintro e w2 ⟨rfl, rfl⟩) | fail) | fail
   all_goals go_wp2_with fail
   all_goals go_ret <;> exact ⟨ah (by first | rfl | exact HO.out.symm), hW.trans (hq1.mono hW.size)⟩
  have e7 : (c.op == 7) = false := by simp; omega
  have e72 : (c.op == 72) = false := by simp; omega
  have FK : (c.op == 338) = false := by simp; omega
  have e317 : (c.op == 317) = false := by simp; omega
  have Mc : (c.op == 320) = false := by simp; omega
  have e321 : (c.op == 321) = false := by simp; omega
  have HO : Hid (V = false) := lH (by rw [HE.out, Es x7 CP x72 CQ Bo CS])
  clear HE x7 x72 CQ CP Bo CS
  go_wp2_with (first | (go_at_call 36; refine (bJ c.count 1 5000 _).mono ?_; rw [HB.out]; rintro e w1 ⟨rfl, rfl⟩) | fail)
  all_goals go_ret
  all_goals (exact ⟨ah (by first | rfl | exact HO.out.symm), (by first | exact hW | exact bN hW _ | exact aC hW)⟩)
theorem J7 (s : dP) (c : iY) (y : Value) (w : World) {g off lo hi lo' hi' : Nat} (h : At w g off lo hi dP.ay s) (hy : fA w lo' hi' iY.ay y c) (eP : hi' ≤ w.heap.size) (hk : ¬ c.kind = 1) :
 Calls Tryz.prog 126 #[.pointer (some ⟨g, off, none⟩), y] w fun e w' => e = .returned (.bool (sw s c)) ∧ Below w.heap.size w w' := by
 generalize hV : sw s c = V
 have HE : Hid (V = (c.args.all (cK s) && (decide (c.kind = 2) && decide (c.count = 0) && wF c))) := by rw [← hV]; unfold sw; rw [if_neg hk]; rfl
 have ek : (c.kind == 1) = false := by simp [hk]
 clear hV hk
 obtain ⟨AG, nG, rfl, hg, ug, mg⟩ := iY.form hy
 unfold maxLen at mg
 clear hy
 obtain ⟨a0, hW⟩ := eZ w 158 #[.int .i64 c.kind, .int .i64 c.op, .int .i64 c.count, .slice AG c.args.length nG]
 go_enter Tryz.func126, Tryz.ntmps126
 go_upto_region 1 with fail
 generalize w.alloc (.cells #[Value.int .i64 c.kind, .int .i64 c.op, .int .i64 c.count, .slice AG c.args.length nG] 158) = W at *
 have ca := a0.cell
 have la := a0.lt
 go_wp2_with fail
 go_loopw [5] (fun i wr => ∃ k : Nat, k ≤ c.args.length ∧ i = .int .i64 k ∧ Hid ((c.args.take k).all (cK s) = true) ∧ Below W.heap.size W wr) (fun i _ => c.args.length - (intOf i).toNat)
 case atStart => exact ⟨0, nZ _, rfl, by simp [Hid], bR _ _⟩
 case round =>
  obtain ⟨k, hk, rfl, hgo, hb⟩ := hrel
  obtain ⟨wo, rfl⟩ := nW wr
  have hWo := hW.trans (hb.mono hW.size)
  have a1 := a0.later hb
  clear ca la
  have ca := a1.cell
  have la := a1.lt
  by_cases hlt : k < c.args.length
  ·obtain ⟨a, ha⟩ : ∃ a, c.args[k]? = some a := ⟨_, gE hlt⟩
   obtain ⟨g', off', rfl, hg1, hg2, -, -, q0, q1, q2, q3, q4, q5⟩ := aQ.at_ (hg.below hWo eP) ha
   have HN := lH (fun h => fJ (q := cK s) ha hgo.out h)
   have HF := lH (fun h => lI (q := cK s) (mG ha) h)
   clear ha hgo
   go_wp2_with fail
   refine (mH s a _ _ (h.below hWo) (aQ.mk_ (lo := 0) (hi := 0))).mono ?_; rintro e w2 ⟨rfl, hb2⟩
   have hw2 := hb.trans (hb2.mono hb.size)
   clear q0 q1 q2 q3 q4 q5 hb2
   cases hq : cK s a with
   | true =>
     have HN := lH (HN.out hq)
     clear HF hq
     go_wp2_with fail
     go_roundw
     case rel => exact ⟨k + 1, by omega, by go_num, HN, hw2⟩
     case measure => simp [intOf]; omega
   | false =>
     have HF := lH (HF.out hq)
     have HO : Hid (V = false) := lH (by rw [HE.out, HF.out]; rfl)
     clear HN HF HE hq
     go_wp2_with fail
     go_ret
     exact ⟨ah HO.out.symm, hW.trans (hw2.mono hW.size)⟩
  obtain rfl : k = c.args.length := by omega
  rw [List.take_length] at hgo
  replace HE : Hid (V = (decide (c.kind = 2) && decide (c.count = 0) && wF c)) := by show _ = _; rw [HE.out, hgo.out, Bool.true_and]
  replace hW := hWo
  replace a0 := a1
  clear hlt hk hb a1 hWo
  obtain ⟨W, rfl⟩ : ∃ X : World, X = wo := ⟨_, rfl⟩
  go_upto_region 6 with fail
  go_upto_region 23 with fail
  by_cases k2 : ¬ c.kind = 2
  have HO : Hid (V = false) := lH (by rw [HE.out]; rw [dF k2]; rfl)
  have dk2 : (c.kind != 2) = true := by first | (simp; omega) | simp [k2]
  clear HE k2
  rotate_left
  have dk2 : (c.kind != 2) = false := by first | (simp; omega) | simp [k2]
  have Hk2 : Hid (c.kind = 2) := lH (by omega)
  clear k2
  by_cases c0 : ¬ c.count = 0
  have HO : Hid (V = false) := lH (by rw [HE.out]; rw [dF c0]; simp)
  have dc0 : (c.count != 0) = true := by first | (simp; omega) | simp [c0]
  clear HE c0
  rotate_left
  have dc0 : (c.count != 0) = false := by first | (simp; omega) | simp [c0]
  have Hc0 : Hid (c.count = 0) := lH (by omega)
  clear c0
  by_cases n3 : c.args.length < 3
  have HO : Hid (V = false) := lH (by rw [HE.out]; rw [xq (by omega)]; simp)
  have dn3 : decide ((c.args.length : Int) < 3) = true := by first | (simp; omega) | simp [n3]
  clear HE n3
  rotate_left
  have dn3 : decide ((c.args.length : Int) < 3) = false := by first | (simp; omega) | simp [n3]
  have hrm : Int.tmod (c.args.length : Int) 2 = ((c.args.length % 2 : Nat) : Int) := rfl
  have hwt : IntKind.i64.wrap (Int.tmod (c.args.length : Int) 2) = Int.tmod (c.args.length : Int) 2 := IntWalk.i64_in _ (by rw [hrm]; omega)
  rcases (Classical.em (c.args.length % 2 = 1)).symm with m2 | m2
  have HO : Hid (V = false) := lH (by rw [HE.out, JM m2]; simp)
  have dm2 : (Int.tmod (c.args.length : Int) 2 != 1) = true := by rw [hrm]; simp; omega
  have dm3 : ((c.args.length : Int) % 2 != 1) = true := by simp; omega
  have hm2 : c.args.length % 2 = 0 := by omega
  clear HE m2
  rotate_left
  have dm2 : (Int.tmod (c.args.length : Int) 2 != 1) = false := by rw [hrm]; simp; omega
  have dm4 : ((c.args.length : Int) % 2 != 1) = false := by simp; omega
  have Hm2 := lH m2
  clear m2 hrm
  obtain ⟨a, ha⟩ : ∃ a, c.args[0]? = some a := ⟨_, gE (by omega)⟩
  obtain ⟨b, hb⟩ : ∃ a, c.args[1]? = some a := ⟨_, gE (by omega)⟩
  obtain ⟨d, hd⟩ : ∃ a, c.args[2]? = some a := ⟨_, gE (by omega)⟩
  obtain ⟨g', off', rfl, hg1, hg2, -⟩ := aQ.at_ hg (j := 0) ha
  have hi0 : 0 < c.args.length := (by omega)
  have hi1 : (1 : Int) < (c.args.length : Int) := (by omega)
  have hi2 : (2 : Int) < (c.args.length : Int) := (by omega)
  obtain ⟨pa0, pa1, pa2, pa3, pa4, pa5⟩ := dV (hg.below hW eP) ha (p := off') (by omega)
  obtain ⟨pb0, pb1, pb2, pb3, pb4, pb5⟩ := dV (hg.below hW eP) hb (p := off' + 6) (by omega)
  obtain ⟨pd0, pd1, pd2, pd3, pd4, pd5⟩ := dV (hg.below hW eP) hd (p := off' + 12) (by omega)
  have HU := lH (fun h => Ir (g := c) h)
  have H3 := lH (xu ha hb hd)
  by_cases ka : ¬ a.kind = 2
  have HO : Hid (V = false) := lH (by rw [HE.out]; rw [H3.out, pz, dF ka]; simp)
  have dka : (a.kind != 2) = true := by first | (simp; omega) | simp [ka]
  clear HE ka
  rotate_left
  have dka : (a.kind != 2) = false := by first | (simp; omega) | simp [ka]
  have Hka : Hid (a.kind = 2) := lH (by omega)
  clear ka
  by_cases kb : ¬ b.kind = 1
  have HO : Hid (V = false) := lH (by rw [HE.out]; rw [H3.out, pz, dF kb]; simp)
  have dkb : (b.kind != 1) = true := by first | (simp; omega) | simp [kb]
  clear HE kb
  rotate_left
  have dkb : (b.kind != 1) = false := by first | (simp; omega) | simp [kb]
  have Hkb : Hid (b.kind = 1) := lH (by omega)
  clear kb
  by_cases kd : ¬ d.kind = 1
  have HO : Hid (V = false) := lH (by rw [HE.out]; rw [H3.out, dF kd]; simp)
  have dkd : (d.kind != 1) = true := by first | (simp; omega) | simp [kd]
  clear HE kd
  rotate_left
  rotate_right 7
  iterate 7 focus
   go_quiet (fail)
   go_wp2_with (fail)
   all_goals go_ret
   all_goals (exact ⟨ah (by first | rfl | exact HO.out.symm), (by first | exact hW | exact bN hW _ | exact aC hW)⟩)
  have dkd : (d.kind != 1) = false := by first | (simp; omega) | simp [kd]
  have Hkd : Hid (d.kind = 1) := lH (by omega)
  clear kd
  have hz : a.text.size ≤ 120 := wG (List.all_eq_true.1 hgo.out a (mG ha)) Hka.out
  have hwr : IntKind.i64.wrap ((a.text.size : Int) + 1) = (a.text.size : Int) + 1 := IntWalk.i64_in _ (by omega)
  cases hb0 : inB b.number 1 ((a.text.size : Int) + 1) with
  | false =>
    have HB := lH hb0
    have HO : Hid (V = false) := lH (by rw [HE.out, H3.out, show pz a b = false by have e := HB.out; simp [inB] at e; simp [pz]; omega]; simp)
    clear HE hb0
    go_quiet (first | (go_at_call 36; exact mR ((bJ b.number 1 _ _).mono fun _ _ ⟨a, b⟩ => ⟨a.trans (by rw [HB.out]), b⟩)) | fail)
    go_wp2_with (fail)
    all_goals go_ret
    all_goals (exact ⟨ah (by first | rfl | exact HO.out.symm), (by first | exact hW | exact bN hW _ | exact aC hW)⟩)
  | true =>
  have HB := lH hb0
  replace HE : Hid (V = wF c) := by show _ = _; rw [HE.out, dT Hk2.out, dT Hc0.out]; rfl
  replace H3 : Hid (wF c = (if c.op = 8 ∨ c.op = 325 ∨ c.op = 326 then decide (c.args.length = 3) && decide (d.number = 2) else if c.op = 61 then decide (c.args.length = 5) && (decide (d.number = 0) || decide (d.number = 1)) && pE (c.args.drop 3) else if c.op = 63 then decide (c.args.length = 7) && (decide (d.number = 0) || decide (d.number = 1)) && pE (c.args.drop 3) else false)) := by show _ = _; rw [H3.out, show pz a b = true by have e := HB.out; simp [inB] at e; simp [pz, Hka.out, Hkb.out]; omega, dT Hkd.out]; rfl
  clear hb0
  go_quiet (first | (go_at_call 36; exact mR ((bJ b.number 1 _ _).mono fun _ _ ⟨a, b⟩ => ⟨a.trans (by rw [HB.out]), b⟩)) | fail)
  clear hwr hz HB
  replace a0 := a0.drewN nq
  replace hW := bN hW nq
  clear ca la pa0 pa1 pa2 pa3 pa4 pa5 pb0 pb1 pb2 pb3 pb4 pb5 pd0 pd1 pd2 pd3 pd4 pd5
  generalize World.drewN W nq = W1 at *
  obtain ⟨W, rfl⟩ : ∃ X : World, X = W1 := ⟨_, rfl⟩
  have ca := a0.cell
  have la := a0.lt
  go_wp2_with fail
  go_loopw [7] (fun i wr => ∃ k : Nat, k ≤ c.args.length ∧ 3 ≤ k ∧ k % 2 = 1 ∧ i = .int .i64 k ∧ Hid (pE (c.args.drop 3) = pE (c.args.drop k)) ∧ Below W.heap.size W wr) (fun i _ => c.args.length + 1 - (intOf i).toNat)
  case atStart => exact ⟨3, by omega, nR _, rfl, rfl, by simp [Hid], bR _ _⟩
  case round =>
   obtain ⟨k, hk, hk3, hk2, rfl, hgp, hb'⟩ := hrel
   obtain ⟨wo, rfl⟩ := nW wr
   have hWo := hW.trans (hb'.mono hW.size)
   have a1 := a0.later hb'
   clear ca la
   have ca := a1.cell
   have la := a1.lt
   by_cases hlt : k < c.args.length
   ·have hlt1 : k + 1 < c.args.length := by have := Hm2.out; omega
    have Sl : k + 1 ≤ 9223372036854775807 := by omega
    obtain ⟨x1, hx1⟩ : ∃ a, c.args[k]? = some a := ⟨_, gE hlt⟩
    obtain ⟨x2, hx2⟩ : ∃ a, c.args[k + 1]? = some a := ⟨_, gE hlt1⟩
    obtain ⟨p10, p11, p12, p13, p14, p15⟩ := dV (hg.below hWo eP) hx1 (p := off' + k * 6) rfl
    obtain ⟨p20, p21, p22, p23, p24, p25⟩ := dV (hg.below hWo eP) hx2 (p := off' + (k + 1) * 6) rfl
    have HP := lH (Cy hx1 hx2)
    have Vt : (k : Int) + 1 < (c.args.length : Int) := by omega
    clear hx1 hx2
    go_wp2_with fail
    refine (Ab x1 _ _ (aQ.mk_ (lo := 0) (hi := 0))).mono ?_; rintro e w1 ⟨rfl, hb2⟩
    replace p20 := (hb2.cell (p := ⟨g', off' + (k + 1) * 6, none⟩) (nL (nL hg2 eP) hWo.size)).trans p20
    replace a1 := a1.later hb2
    clear p10 p11 p12 p13 p14 p15 p21 p22 p23 p24 p25 ca la
    replace hb' := hb'.trans (hb2.mono hb'.size)
    replace hWo := hWo.trans (hb2.mono hWo.size)
    clear hb2
    have ca := a1.cell
    have la := a1.lt
    cases hr : zk x1 with
    | false =>
      have HO : Hid (V = false) := lH (by rw [HE.out, HU.out (hgp.out.trans (HP.out.trans (by rw [hr, Bool.false_and, Bool.false_and])))])
      clear HP hgp hr HE H3 HU
      go_wp2_with (fail)
      all_goals go_ret
      all_goals (exact ⟨ah (by first | rfl | exact HO.out.symm), hWo⟩)
    | true =>
      by_cases hd2 : 12 < x2.kind
      ·have dd := dT hd2
       have HO : Hid (V = false) := lH (by rw [HE.out, HU.out (hgp.out.trans (HP.out.trans (by rw [dF (show ¬ x2.kind ≤ 12 by omega), Bool.and_false, Bool.false_and])))])
       clear HP hgp hr HE H3 HU
       go_wp2_with (fail)
       all_goals go_ret
       all_goals (exact ⟨ah (by first | rfl | exact HO.out.symm), hWo⟩)
      ·have dd := dF hd2
       have HG := lH (hgp.out.trans (HP.out.trans (by rw [hr, dT (show x2.kind ≤ 12 by omega), Bool.true_and, Bool.true_and])))
       clear HP hgp hr
       go_wp2_with fail
       go_roundw
       case rel => exact ⟨k + 2, by omega, by omega, by omega, by go_num, HG, hb'⟩
       case measure => simp [intOf]; omega
   obtain rfl : k = c.args.length := by omega
   replace H3 : Hid (wF c = (if c.op = 8 ∨ c.op = 325 ∨ c.op = 326 then decide (c.args.length = 3) && decide (d.number = 2) else if c.op = 61 then decide (c.args.length = 5) && (decide (d.number = 0) || decide (d.number = 1)) else if c.op = 63 then decide (c.args.length = 7) && (decide (d.number = 0) || decide (d.number = 1)) else false)) := by show _ = _; rw [H3.out, hgp.out, zW (by omega)]; simp
   clear hgp hk hk3 hk2 hlt HU
   replace hW := hWo
   clear hWo hb' a0
   obtain ⟨W, rfl⟩ : ∃ X : World, X = wo := ⟨_, rfl⟩
   replace a0 := a1
   clear a1
   replace HE : Hid (V = (if c.op = 8 ∨ c.op = 325 ∨ c.op = 326 then decide (c.args.length = 3) && decide (d.number = 2) else if c.op = 61 then decide (c.args.length = 5) && (decide (d.number = 0) || decide (d.number = 1)) else if c.op = 63 then decide (c.args.length = 7) && (decide (d.number = 0) || decide (d.number = 1)) else false)) := by show _ = _; rw [HE.out, H3.out]
   clear H3
   obtain ⟨pa0, pa1, pa2, pa3, pa4, pa5⟩ := dV (hg.below hW eP) ha (p := off') (by omega)
   obtain ⟨pb0, pb1, pb2, pb3, pb4, pb5⟩ := dV (hg.below hW eP) hb (p := off' + 6) (by omega)
   obtain ⟨pd0, pd1, pd2, pd3, pd4, pd5⟩ := dV (hg.below hW eP) hd (p := off' + 12) (by omega)
   go_upto_region 30 with fail
   by_cases x61 : c.op = 61
   ·skip
    have e61 : (c.op == 61) = true := by simp; omega
    have hw1 : IntKind.i64.wrap (c.op - 61) = 0 := by rw [x61]; rfl
    have hw2 : IntKind.i64.wrap (5 + 0) = 5 := rfl
    have HX := lH x61
    clear x61
    replace HE : Hid (V = (decide (c.args.length = 5) && (decide (d.number = 0) || decide (d.number = 1)))) := by show _ = _; rw [HE.out, if_neg (by have := HX.out; omega), if_pos HX.out]
    by_cases m3 : c.args.length = 5
    rotate_left
    ·have dm3 : ((c.args.length : Int) == 5) = false := by simp; omega
     have HO : Hid (V = false) := lH (by rw [HE.out, dF m3]; rfl)
     clear HE m3
     go_wp2_with (fail)
     all_goals go_ret
     all_goals (exact ⟨ah (by first | rfl | exact HO.out.symm), (by first | exact hW | exact bN hW _ | exact aC hW)⟩)
    have dm3 : ((c.args.length : Int) == 5) = true := by simp; omega
    have HO : Hid (V = inB d.number 0 1) := lH (by rw [HE.out, dT m3]; simp [inB]; rw [Bool.eq_iff_iff]; simp; omega)
    clear HE m3
    go_wp2_with (first | (go_at_call 36; refine (bJ d.number 0 1 _).mono ?_; rintro e w1 ⟨rfl, rfl⟩) | fail)
    all_goals go_ret
    all_goals (exact ⟨ah (by first | rfl | exact HO.out.symm), (by first | exact hW | exact bN hW _ | exact aC hW)⟩)
   by_cases x63 : c.op = 63
   ·skip
    have e61 : (c.op == 61) = false := by simp; omega
    have e63 : (c.op == 63) = true := by simp; omega
    have hw1 : IntKind.i64.wrap (c.op - 61) = 2 := by rw [x63]; rfl
    have hw2 : IntKind.i64.wrap (5 + 2) = 7 := rfl
    have HX := lH x63
    clear x63
    replace HE : Hid (V = (decide (c.args.length = 7) && (decide (d.number = 0) || decide (d.number = 1)))) := by show _ = _; rw [HE.out, if_neg (by have := HX.out; omega), if_neg (by have := HX.out; omega), if_pos HX.out]
    by_cases m3 : c.args.length = 7
    rotate_left
    ·have dm3 : ((c.args.length : Int) == 7) = false := by simp; omega
     have HO : Hid (V = false) := lH (by rw [HE.out, dF m3]; rfl)
     clear HE m3
     go_wp2_with (fail)
     all_goals go_ret
     all_goals (exact ⟨ah (by first | rfl | exact HO.out.symm), (by first | exact hW | exact bN hW _ | exact aC hW)⟩)
    have dm3 : ((c.args.length : Int) == 7) = true := by simp; omega
    have HO : Hid (V = inB d.number 0 1) := lH (by rw [HE.out, dT m3]; simp [inB]; rw [Bool.eq_iff_iff]; simp; omega)
    clear HE m3
    go_wp2_with (first | (go_at_call 36; refine (bJ d.number 0 1 _).mono ?_; rintro e w1 ⟨rfl, rfl⟩) | fail)
    all_goals go_ret
    all_goals (exact ⟨ah (by first | rfl | exact HO.out.symm), (by first | exact hW | exact bN hW _ | exact aC hW)⟩)
   have e61 : (c.op == 61) = false := by simp; omega
   have e63 : (c.op == 63) = false := by simp; omega
   by_cases x8 : c.op = 8
   ·skip
    have e8 : (c.op == 8) = true := by simp; omega
    have HX := lH x8
    clear x8 x61 x63
    replace HE : Hid (V = (decide (c.args.length = 3) && decide (d.number = 2))) := by show _ = _; rw [HE.out, if_pos (by have := HX.out; omega)]
    rcases (Classical.em (c.args.length = 3)).symm with m3 | m3
    have dm3 : ((c.args.length : Int) == 3) = false := by simp; omega
    have HO : Hid (V = false) := lH (by rw [HE.out, dF m3]; rfl)
    clear HE m3
    rotate_left
    have dm3 : ((c.args.length : Int) == 3) = true := by simp; omega
    have HO : Hid (V = (d.number == 2)) := lH (by rw [HE.out, dT m3]; by_cases z : d.number = 2 <;> simp [z])
    clear HE m3
    iterate 2 focus
     go_wp2_with (fail)
     all_goals go_ret
     all_goals (exact ⟨ah (by first | rfl | exact HO.out.symm), (by first | exact hW | exact bN hW _ | exact aC hW)⟩)
   by_cases Mm : c.op = 325
   ·skip
    have e8 : (c.op == 8) = false := by simp; omega
    have II : (c.op == 325) = true := by simp; omega
    have HX := lH Mm
    clear Mm x61 x63
    replace HE : Hid (V = (decide (c.args.length = 3) && decide (d.number = 2))) := by show _ = _; rw [HE.out, if_pos (by have := HX.out; omega)]
    rcases (Classical.em (c.args.length = 3)).symm with m3 | m3
    have dm3 : ((c.args.length : Int) == 3) = false := by simp; omega
    have HO : Hid (V = false) := lH (by rw [HE.out, dF m3]; rfl)
    clear HE m3
    rotate_left
    have dm3 : ((c.args.length : Int) == 3) = true := by simp; omega
    have HO : Hid (V = (d.number == 2)) := lH (by rw [HE.out, dT m3]; by_cases z : d.number = 2 <;> simp [z])
    clear HE m3
    iterate 2 focus
     go_wp2_with (fail)
     all_goals go_ret
     all_goals (exact ⟨ah (by first | rfl | exact HO.out.symm), (by first | exact hW | exact bN hW _ | exact aC hW)⟩)
   by_cases Mq : c.op = 326
   ·skip
    have e8 : (c.op == 8) = false := by simp; omega
    have II : (c.op == 325) = false := by simp; omega
    have Mr : (c.op == 326) = true := by simp; omega
    have HX := lH Mq
    clear Mq x61 x63
    replace HE : Hid (V = (decide (c.args.length = 3) && decide (d.number = 2))) := by show _ = _; rw [HE.out, if_pos (by have := HX.out; omega)]
    rcases (Classical.em (c.args.length = 3)).symm with m3 | m3
    have dm3 : ((c.args.length : Int) == 3) = false := by simp; omega
    have HO : Hid (V = false) := lH (by rw [HE.out, dF m3]; rfl)
    clear HE m3
    rotate_left
    have dm3 : ((c.args.length : Int) == 3) = true := by simp; omega
    have HO : Hid (V = (d.number == 2)) := lH (by rw [HE.out, dT m3]; by_cases z : d.number = 2 <;> simp [z])
    clear HE m3
    iterate 2 focus
     go_wp2_with (fail)
     all_goals go_ret
     all_goals (exact ⟨ah (by first | rfl | exact HO.out.symm), (by first | exact hW | exact bN hW _ | exact aC hW)⟩)
   have e8 : (c.op == 8) = false := by simp; omega
   have II : (c.op == 325) = false := by simp; omega
   have Mr : (c.op == 326) = false := by simp; omega
   have HO : Hid (V = false) := lH (by rw [HE.out, if_neg (by omega), if_neg (by omega), if_neg (by omega)])
   clear HE
   go_wp2_with (fail)
   all_goals go_ret
   all_goals (exact ⟨ah (by first | rfl | exact HO.out.symm), (by first | exact hW | exact bN hW _ | exact aC hW)⟩)
theorem zD (s : dP) (c : iY) (y : Value) (w : World) {g off lo hi lo' hi' : Nat} (h : At w g off lo hi dP.ay s) (hy : fA w lo' hi' iY.ay y c) (eP : hi' ≤ w.heap.size) :
 Calls Tryz.prog 126 #[.pointer (some ⟨g, off, none⟩), y] w fun e w' => e = .returned (.bool (sw s c)) ∧ Below w.heap.size w w' := by
 by_cases hk : c.kind = 1
 ·exact Mt s c y w h hy eP hk
 ·exact J7 s c y w h hy eP hk
end Go.Proofs.YtoddlphekcihgaaGreatDoor
