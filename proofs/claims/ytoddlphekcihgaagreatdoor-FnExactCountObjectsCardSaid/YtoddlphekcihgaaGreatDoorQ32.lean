/- Tg of the reference. -/
import Derived.Test.YtoddlphekcihgaaGreatDoorQ06
import Derived.Test.YtoddlphekcihgaaGreatDoorQ10
import Derived.Deep.DeepCutAuto
import Derived.Deep.CutBlock
import Derived.Deep.RegionLaw
set_option maxRecDepth 100000
set_option maxHeartbeats 8000000
set_option linter.unusedVariables false
set_option linter.unusedSimpArgs false
namespace Go.Proofs.YtoddlphekcihgaaGreatDoor
open Go.RowKit
theorem G5 (W : World) (op a : Int) : uq W 0 0 (.agg #[.int .i64 op, .int .i64 0, .int .i64 a, .int .i64 0, .string ⟨#[]⟩, .slice none 0 0]) (.mk op 0 a 0 ⟨#[]⟩ []) :=
 uq.mk_ (c := .mk op 0 a 0 ⟨#[]⟩ []) (A := none) (cap := 0) (Rep.u7 Rds.none_ (by simp only [kY.kids, xH]; exact .lu))
theorem Qj (c : dK) (x : eO) (h : x.op < 1) : su 73 c x := by
 intro vc vx w lo hi lo' hi' hc hx ht
 obtain ⟨bT, bI, bE, aY, bH, aZ, dS, dN, rfl, hr, ur, mr, hd, ud, md, hg, ug, mg, hi1, ui, mi⟩ := dK.form hc
 obtain rfl := eO.form hx
 unfold maxLen at mr md mg mi
 clear hr hd hg hi1 hc hx
 have HV : Hid (fK (gL c) c.av.length x = false) := lH (by rw [fK]; simp; omega)
 go_enter Tryz.func73, Tryz.ntmps73
 go_wp2_with fail
 go_ret
 exact ⟨ah HV.out.symm, (bA _ _).alloc (by simp) _⟩
theorem Qk (c : dK) (x : eO) (h : 30 < x.op) : su 73 c x := by
 intro vc vx w lo hi lo' hi' hc hx ht
 obtain ⟨bT, bI, bE, aY, bH, aZ, dS, dN, rfl, hr, ur, mr, hd, ud, md, hg, ug, mg, hi1, ui, mi⟩ := dK.form hc
 obtain rfl := eO.form hx
 unfold maxLen at mr md mg mi
 clear hr hd hg hi1 hc hx
 have HV : Hid (fK (gL c) c.av.length x = false) := lH (by rw [fK]; simp; omega)
 go_enter Tryz.func73, Tryz.ntmps73
 go_wp2_with fail
 go_ret
 exact ⟨ah HV.out.symm, (bA _ _).alloc (by simp) _⟩
theorem Mv (c : dK) (x : eO) (h0 : 1 ≤ x.op) (h1 : x.op ≤ 30) (h : x.line < 0) : su 73 c x := by
 intro vc vx w lo hi lo' hi' hc hx ht
 obtain ⟨bT, bI, bE, aY, bH, aZ, dS, dN, rfl, hr, ur, mr, hd, ud, md, hg, ug, mg, hi1, ui, mi⟩ := dK.form hc
 obtain rfl := eO.form hx
 unfold maxLen at mr md mg mi
 clear hr hd hg hi1 hc hx
 have HV : Hid (fK (gL c) c.av.length x = false) := lH (by rw [fK]; simp; omega)
 go_enter Tryz.func73, Tryz.ntmps73
 go_wp2_with fail
 go_ret
 exact ⟨ah HV.out.symm, (bA _ _).alloc (by simp) _⟩
theorem Mw (c : dK) (x : eO) (h0 : 1 ≤ x.op) (h1 : x.op ≤ 30) (h2 : 0 ≤ x.line) (n2 : ¬ x.op = 2) (n3 : ¬ x.op = 3) (h : ¬ x.text.size = 0) : su 73 c x := by
 intro vc vx w lo hi lo' hi' hc hx ht
 obtain ⟨bT, bI, bE, aY, bH, aZ, dS, dN, rfl, hr, ur, mr, hd, ud, md, hg, ug, mg, hi1, ui, mi⟩ := dK.form hc
 obtain rfl := eO.form hx
 unfold maxLen at mr md mg mi
 clear hr hd hg hi1 hc hx
 have HV : Hid (fK (gL c) c.av.length x = false) := lH (by rw [fK, iq, if_neg n2, if_neg n3, dF h]; simp)
 have f2 : (x.op != 2) = true := by simpa using n2
 have f3 : (x.op != 3) = true := by simpa using n3
 have i1 := lW h
 go_enter Tryz.func73, Tryz.ntmps73
 go_wp2_with fail
 go_ret
 exact ⟨ah HV.out.symm, (bA _ _).alloc (by simp) _⟩
theorem Ql (c : dK) (x : eO) (h0 : 1 ≤ x.op) (h1 : x.op ≤ 30) (h2 : 0 ≤ x.line) (k : x.op = 2) (h : ¬ x.b = 0) : su 73 c x := by
 intro vc vx w lo hi lo' hi' hc hx ht
 obtain ⟨bT, bI, bE, aY, bH, aZ, dS, dN, rfl, hr, ur, mr, hd, ud, md, hg, ug, mg, hi1, ui, mi⟩ := dK.form hc
 obtain rfl := eO.form hx
 unfold maxLen at mr md mg mi
 clear hr hd hg hi1 hc hx
 have HV : Hid (fK (gL c) c.av.length x = false) := lH (by rw [fK, pZ, if_neg (by omega), if_neg (by omega), dF h]; simp)
 have f2 : (x.op != 2) = false := by simp [k]
 have f11 : (x.op != 11) = true := by simp; omega
 have f12 : (x.op != 12) = true := by simp; omega
 have fb : (x.b != 0) = true := by simpa using h
 clear k
 go_enter Tryz.func73, Tryz.ntmps73
 go_wp2_with fail
 go_ret
 exact ⟨ah HV.out.symm, (bA _ _).alloc (by simp) _⟩
theorem Qm (c : dK) (x : eO) (h0 : 1 ≤ x.op) (h1 : x.op ≤ 30) (h2 : 0 ≤ x.line) (k : x.op = 3) (h : ¬ x.b = 0) : su 73 c x := by
 intro vc vx w lo hi lo' hi' hc hx ht
 obtain ⟨bT, bI, bE, aY, bH, aZ, dS, dN, rfl, hr, ur, mr, hd, ud, md, hg, ug, mg, hi1, ui, mi⟩ := dK.form hc
 obtain rfl := eO.form hx
 unfold maxLen at mr md mg mi
 clear hr hd hg hi1 hc hx
 have HV : Hid (fK (gL c) c.av.length x = false) := lH (by rw [fK, pZ, if_neg (by omega), if_neg (by omega), dF h]; simp)
 have f2 : (x.op != 2) = true := by simp; omega
 have f3 : (x.op != 3) = false := by simp [k]
 have f11 : (x.op != 11) = true := by simp; omega
 have f12 : (x.op != 12) = true := by simp; omega
 have fb : (x.b != 0) = true := by simpa using h
 clear k
 go_enter Tryz.func73, Tryz.ntmps73
 go_wp2_with fail
 go_ret
 exact ⟨ah HV.out.symm, (bA _ _).alloc (by simp) _⟩
theorem Qn (c : dK) (x : eO) (h0 : 1 ≤ x.op) (h1 : x.op ≤ 30) (h2 : 0 ≤ x.line) (n2 : ¬ x.op = 2) (n3 : ¬ x.op = 3) (n11 : ¬ x.op = 11) (n12 : ¬ x.op = 12) (hs : x.text.size = 0) (h : ¬ x.b = 0) : su 73 c x := by
 intro vc vx w lo hi lo' hi' hc hx ht
 obtain ⟨bT, bI, bE, aY, bH, aZ, dS, dN, rfl, hr, ur, mr, hd, ud, md, hg, ug, mg, hi1, ui, mi⟩ := dK.form hc
 obtain rfl := eO.form hx
 unfold maxLen at mr md mg mi
 clear hr hd hg hi1 hc hx
 have HV : Hid (fK (gL c) c.av.length x = false) := lH (by rw [fK, pZ, if_neg (by omega), if_neg (by omega), dF h]; simp)
 have f2 : (x.op != 2) = true := by simp; omega
 have f3 : (x.op != 3) = true := by simp; omega
 have i1 := gY hs
 have f11 : (x.op != 11) = true := by simp; omega
 have f12 : (x.op != 12) = true := by simp; omega
 have fb : (x.b != 0) = true := by simpa using h
 clear hs
 go_enter Tryz.func73, Tryz.ntmps73
 go_wp2_with fail
 go_ret
 exact ⟨ah HV.out.symm, (bA _ _).alloc (by simp) _⟩
theorem Ti (c : dK) (x : eO) (h0 : 1 ≤ x.op) (h1 : x.op ≤ 30) (h2 : 0 ≤ x.line) (k : x.op = 5) (hs : x.text.size = 0) (hb : x.b = 0) : su 73 c x := by
 intro vc vx w lo hi lo' hi' hc hx ht
 obtain ⟨bT, bI, bE, aY, bH, aZ, dS, dN, rfl, hr, ur, mr, hd, ud, md, hg, ug, mg, hi1, ui, mi⟩ := dK.form hc
 obtain rfl := eO.form hx
 unfold maxLen at mr md mg mi
 clear hr hd hg hi1 hc hx
 have HV : Hid (fK (gL c) c.av.length x = inB x.a 0 (23)) := by
  show _ = _
  have d1 : decide (1 ≤ x.op ∧ x.op ≤ 30) = true := dT ⟨h0, h1⟩
  have d2 := dT h2
  rw [fK, d1, d2, iq, if_neg (by omega), if_neg (by omega), dT hs, pZ, if_neg (by omega), if_neg (by omega), dT hb, qy, if_neg (by rw [k]; decide), if_neg (by omega), k]
  rfl
 have f2 : (x.op != 2) = true := by simp; omega
 have f3 : (x.op != 3) = true := by simp; omega
 have i1 := gY hs
 have f11 : (x.op != 11) = true := by simp; omega
 have f12 : (x.op != 12) = true := by simp; omega
 have fb : (x.b != 0) = false := by simp [hb]
 have HJ : Hid (lg x.op = false) := lH (by rw [k]; rfl)
 have e1 : (x.op == 1) = false := by simp; omega
 have e10 : (x.op == 10) = false := by simp; omega
 have e2 : (x.op == 2) = false := by simp; omega
 have e3 : (x.op == 3) = false := by simp; omega
 have e5 : (x.op == 5) = true := by simp [k]
 have ka : 5 ≤ x.op := by omega
 have kb : x.op ≤ 5 := by omega
 clear k hs hb
 go_enter Tryz.func73, Tryz.ntmps73
 go_wp2_with fail
 refine (jD x.op _).mono ?_; rw [HJ.out]; rintro e w1 ⟨rfl, rfl⟩
 go_wp2_with fail
 refine (bJ x.a 0 (23) _).mono ?_; rintro e w2 ⟨rfl, rfl⟩
 go_wp2_with fail
 go_ret
 exact ⟨ah HV.out.symm, ((bA _ _).alloc (by simp) _).alloc (by simp; omega) _⟩
theorem Tj (c : dK) (x : eO) (h0 : 1 ≤ x.op) (h1 : x.op ≤ 30) (h2 : 0 ≤ x.line) (k : x.op = 6) (hs : x.text.size = 0) (hb : x.b = 0) : su 73 c x := by
 intro vc vx w lo hi lo' hi' hc hx ht
 obtain ⟨bT, bI, bE, aY, bH, aZ, dS, dN, rfl, hr, ur, mr, hd, ud, md, hg, ug, mg, hi1, ui, mi⟩ := dK.form hc
 obtain rfl := eO.form hx
 unfold maxLen at mr md mg mi
 clear hr hd hg hi1 hc hx
 have HV : Hid (fK (gL c) c.av.length x = inB x.a 0 ((c.aB.length : Int) - 1)) := by
  show _ = _
  have d1 : decide (1 ≤ x.op ∧ x.op ≤ 30) = true := dT ⟨h0, h1⟩
  have d2 := dT h2
  rw [fK, d1, d2, iq, if_neg (by omega), if_neg (by omega), dT hs, pZ, if_neg (by omega), if_neg (by omega), dT hb, qy, if_neg (by rw [k]; decide), if_neg (by omega), k]
  rfl
 have f2 : (x.op != 2) = true := by simp; omega
 have f3 : (x.op != 3) = true := by simp; omega
 have i1 := gY hs
 have f11 : (x.op != 11) = true := by simp; omega
 have f12 : (x.op != 12) = true := by simp; omega
 have fb : (x.b != 0) = false := by simp [hb]
 have HJ : Hid (lg x.op = false) := lH (by rw [k]; rfl)
 have e1 : (x.op == 1) = false := by simp; omega
 have e10 : (x.op == 10) = false := by simp; omega
 have e2 : (x.op == 2) = false := by simp; omega
 have e3 : (x.op == 3) = false := by simp; omega
 have e5 : (x.op == 5) = false := by simp; omega
 have e6 : (x.op == 6) = true := by simp [k]
 have ka : 6 ≤ x.op := by omega
 have kb : x.op ≤ 6 := by omega
 clear k hs hb
 go_enter Tryz.func73, Tryz.ntmps73
 go_wp2_with fail
 refine (jD x.op _).mono ?_; rw [HJ.out]; rintro e w1 ⟨rfl, rfl⟩
 go_wp2_with fail
 refine (bJ x.a 0 ((c.aB.length : Int) - 1) _).mono ?_; rintro e w2 ⟨rfl, rfl⟩
 go_wp2_with fail
 go_ret
 exact ⟨ah HV.out.symm, ((bA _ _).alloc (by simp) _).alloc (by simp; omega) _⟩
theorem Tk (c : dK) (x : eO) (h0 : 1 ≤ x.op) (h1 : x.op ≤ 30) (h2 : 0 ≤ x.line) (k : x.op = 7) (hs : x.text.size = 0) (hb : x.b = 0) : su 73 c x := by
 intro vc vx w lo hi lo' hi' hc hx ht
 obtain ⟨bT, bI, bE, aY, bH, aZ, dS, dN, rfl, hr, ur, mr, hd, ud, md, hg, ug, mg, hi1, ui, mi⟩ := dK.form hc
 obtain rfl := eO.form hx
 unfold maxLen at mr md mg mi
 clear hr hd hg hi1 hc hx
 have HV : Hid (fK (gL c) c.av.length x = inB x.a 0 ((c.au.length : Int) - 1)) := by
  show _ = _
  have d1 : decide (1 ≤ x.op ∧ x.op ≤ 30) = true := dT ⟨h0, h1⟩
  have d2 := dT h2
  rw [fK, d1, d2, iq, if_neg (by omega), if_neg (by omega), dT hs, pZ, if_neg (by omega), if_neg (by omega), dT hb, qy, if_neg (by rw [k]; decide), if_neg (by omega), k]
  rfl
 have f2 : (x.op != 2) = true := by simp; omega
 have f3 : (x.op != 3) = true := by simp; omega
 have i1 := gY hs
 have f11 : (x.op != 11) = true := by simp; omega
 have f12 : (x.op != 12) = true := by simp; omega
 have fb : (x.b != 0) = false := by simp [hb]
 have HJ : Hid (lg x.op = false) := lH (by rw [k]; rfl)
 have e1 : (x.op == 1) = false := by simp; omega
 have e10 : (x.op == 10) = false := by simp; omega
 have e2 : (x.op == 2) = false := by simp; omega
 have e3 : (x.op == 3) = false := by simp; omega
 have e5 : (x.op == 5) = false := by simp; omega
 have e6 : (x.op == 6) = false := by simp; omega
 have e7 : (x.op == 7) = true := by simp [k]
 have ka : 7 ≤ x.op := by omega
 have kb : x.op ≤ 7 := by omega
 clear k hs hb
 go_enter Tryz.func73, Tryz.ntmps73
 go_wp2_with fail
 refine (jD x.op _).mono ?_; rw [HJ.out]; rintro e w1 ⟨rfl, rfl⟩
 go_wp2_with fail
 refine (bJ x.a 0 ((c.au.length : Int) - 1) _).mono ?_; rintro e w2 ⟨rfl, rfl⟩
 go_wp2_with fail
 go_ret
 exact ⟨ah HV.out.symm, ((bA _ _).alloc (by simp) _).alloc (by simp; omega) _⟩
theorem Tm (c : dK) (x : eO) (h0 : 1 ≤ x.op) (h1 : x.op ≤ 30) (h2 : 0 ≤ x.line) (k : x.op = 8) (hs : x.text.size = 0) (hb : x.b = 0) : su 73 c x := by
 intro vc vx w lo hi lo' hi' hc hx ht
 obtain ⟨bT, bI, bE, aY, bH, aZ, dS, dN, rfl, hr, ur, mr, hd, ud, md, hg, ug, mg, hi1, ui, mi⟩ := dK.form hc
 obtain rfl := eO.form hx
 unfold maxLen at mr md mg mi
 clear hr hd hg hi1 hc hx
 have HV : Hid (fK (gL c) c.av.length x = inB x.a 0 (54)) := by
  show _ = _
  have d1 : decide (1 ≤ x.op ∧ x.op ≤ 30) = true := dT ⟨h0, h1⟩
  have d2 := dT h2
  rw [fK, d1, d2, iq, if_neg (by omega), if_neg (by omega), dT hs, pZ, if_neg (by omega), if_neg (by omega), dT hb, qy, if_neg (by rw [k]; decide), if_neg (by omega), k]
  rfl
 have f2 : (x.op != 2) = true := by simp; omega
 have f3 : (x.op != 3) = true := by simp; omega
 have i1 := gY hs
 have f11 : (x.op != 11) = true := by simp; omega
 have f12 : (x.op != 12) = true := by simp; omega
 have fb : (x.b != 0) = false := by simp [hb]
 have HJ : Hid (lg x.op = false) := lH (by rw [k]; rfl)
 have e1 : (x.op == 1) = false := by simp; omega
 have e10 : (x.op == 10) = false := by simp; omega
 have e2 : (x.op == 2) = false := by simp; omega
 have e3 : (x.op == 3) = false := by simp; omega
 have e5 : (x.op == 5) = false := by simp; omega
 have e6 : (x.op == 6) = false := by simp; omega
 have e7 : (x.op == 7) = false := by simp; omega
 have e8 : (x.op == 8) = true := by simp [k]
 have ka : 8 ≤ x.op := by omega
 have kb : x.op ≤ 8 := by omega
 clear k hs hb
 go_enter Tryz.func73, Tryz.ntmps73
 go_wp2_with fail
 refine (jD x.op _).mono ?_; rw [HJ.out]; rintro e w1 ⟨rfl, rfl⟩
 go_wp2_with fail
 refine (bJ x.a 0 (54) _).mono ?_; rintro e w2 ⟨rfl, rfl⟩
 go_wp2_with fail
 go_ret
 exact ⟨ah HV.out.symm, ((bA _ _).alloc (by simp) _).alloc (by simp; omega) _⟩
theorem Tn (c : dK) (x : eO) (h0 : 1 ≤ x.op) (h1 : x.op ≤ 30) (h2 : 0 ≤ x.line) (k : x.op = 9) (hs : x.text.size = 0) (hb : x.b = 0) : su 73 c x := by
 intro vc vx w lo hi lo' hi' hc hx ht
 obtain ⟨bT, bI, bE, aY, bH, aZ, dS, dN, rfl, hr, ur, mr, hd, ud, md, hg, ug, mg, hi1, ui, mi⟩ := dK.form hc
 obtain rfl := eO.form hx
 unfold maxLen at mr md mg mi
 clear hr hd hg hi1 hc hx
 have HV : Hid (fK (gL c) c.av.length x = inB x.a 0 ((c.aA.length : Int) - 1)) := by
  show _ = _
  have d1 : decide (1 ≤ x.op ∧ x.op ≤ 30) = true := dT ⟨h0, h1⟩
  have d2 := dT h2
  rw [fK, d1, d2, iq, if_neg (by omega), if_neg (by omega), dT hs, pZ, if_neg (by omega), if_neg (by omega), dT hb, qy, if_neg (by rw [k]; decide), if_neg (by omega), k]
  rfl
 have f2 : (x.op != 2) = true := by simp; omega
 have f3 : (x.op != 3) = true := by simp; omega
 have i1 := gY hs
 have f11 : (x.op != 11) = true := by simp; omega
 have f12 : (x.op != 12) = true := by simp; omega
 have fb : (x.b != 0) = false := by simp [hb]
 have HJ : Hid (lg x.op = false) := lH (by rw [k]; rfl)
 have e1 : (x.op == 1) = false := by simp; omega
 have e10 : (x.op == 10) = false := by simp; omega
 have e2 : (x.op == 2) = false := by simp; omega
 have e3 : (x.op == 3) = false := by simp; omega
 have e5 : (x.op == 5) = false := by simp; omega
 have e6 : (x.op == 6) = false := by simp; omega
 have e7 : (x.op == 7) = false := by simp; omega
 have e8 : (x.op == 8) = false := by simp; omega
 have e9 : (x.op == 9) = true := by simp [k]
 have ka : 9 ≤ x.op := by omega
 have kb : x.op ≤ 9 := by omega
 clear k hs hb
 go_enter Tryz.func73, Tryz.ntmps73
 go_wp2_with fail
 refine (jD x.op _).mono ?_; rw [HJ.out]; rintro e w1 ⟨rfl, rfl⟩
 go_wp2_with fail
 refine (bJ x.a 0 ((c.aA.length : Int) - 1) _).mono ?_; rintro e w2 ⟨rfl, rfl⟩
 go_wp2_with fail
 go_ret
 exact ⟨ah HV.out.symm, ((bA _ _).alloc (by simp) _).alloc (by simp; omega) _⟩
theorem Mx (c : dK) (x : eO) (h0 : 1 ≤ x.op) (h1 : x.op ≤ 30) (h2 : 0 ≤ x.line) (k : lg x.op = true) (hs : x.text.size = 0) (hb : x.b = 0) : su 73 c x := by
 intro vc vx w lo hi lo' hi' hc hx ht
 obtain ⟨bT, bI, bE, aY, bH, aZ, dS, dN, rfl, hr, ur, mr, hd, ud, md, hg, ug, mg, hi1, ui, mi⟩ := dK.form hc
 obtain rfl := eO.form hx
 unfold maxLen at mr md mg mi
 clear hr hd hg hi1 hc hx
 have kk : x.op = 13 ∨ x.op = 15 ∨ x.op = 17 ∨ x.op = 19 ∨ x.op = 27 := of_decide_eq_true k
 have HV : Hid (fK (gL c) c.av.length x = (inB x.a 0 ((c.av.length : Int) - 1) || (decide (x.op = 13) && decide (x.a = -1)))) := by
  show _ = _
  have d1 : decide (1 ≤ x.op ∧ x.op ≤ 30) = true := dT ⟨h0, h1⟩
  have d2 := dT h2
  rw [fK, d1, d2, iq, if_neg (by omega), if_neg (by omega), dT hs, pZ, if_neg (by omega), if_neg (by omega), dT hb, qy, if_pos k]
  rfl
 have f2 : (x.op != 2) = true := by simp; omega
 have f3 : (x.op != 3) = true := by simp; omega
 have i1 := gY hs
 have f11 : (x.op != 11) = true := by simp; omega
 have f12 : (x.op != 12) = true := by simp; omega
 have fb : (x.b != 0) = false := by simp [hb]
 have HJ := lH k
 clear k hs hb kk
 have s1 : (c.av.length : Int) - 1 ≤ 9223372036854775807 := by omega
 cases hin : inB x.a 0 ((c.av.length : Int) - 1) with
 | true =>
   have HI := lH hin
   have HW : Hid (fK (gL c) c.av.length x = true) := lH (by rw [HV.out, hin]; rfl)
   clear hin
   go_enter Tryz.func73, Tryz.ntmps73
   go_wp2_with fail
   refine (jD x.op _).mono ?_; rw [HJ.out]; rintro e w1 ⟨rfl, rfl⟩
   go_wp2_with fail
   refine (bJ x.a 0 ((c.av.length : Int) - 1) _).mono ?_; rw [HI.out]; rintro e w2 ⟨rfl, rfl⟩
   go_wp2_with fail
   go_ret
   exact ⟨ah HW.out.symm, ((bA _ _).alloc (by simp) _).alloc (by simp; omega) _⟩
 | false =>
   have HI := lH hin
   have HX : Hid (fK (gL c) c.av.length x = (decide (x.op = 13) && decide (x.a = -1))) := lH (by rw [HV.out, hin]; rfl)
   clear hin
   by_cases k13 : x.op = 13
   ·have e13 : (x.op == 13) = true := by simp [k13]
    by_cases a1 : x.a = -1
    have f1 : (x.a == -1) = true := by simp [a1]
    have HW : Hid (fK (gL c) c.av.length x = true) := lH (by rw [HX.out, dT k13, dT a1]; rfl)
    clear k13 a1
    rotate_left
    have f1 : (x.a == -1) = false := by simpa using a1
    have HW : Hid (fK (gL c) c.av.length x = false) := lH (by rw [HX.out, dF a1]; simp)
    clear k13 a1
    iterate 2 focus
     go_enter Tryz.func73, Tryz.ntmps73
     go_wp2_with fail
     refine (jD x.op _).mono ?_; rw [HJ.out]; rintro e w1 ⟨rfl, rfl⟩
     go_wp2_with fail
     refine (bJ x.a 0 ((c.av.length : Int) - 1) _).mono ?_; rw [HI.out]; rintro e w2 ⟨rfl, rfl⟩
     go_wp2_with fail
     go_ret
     exact ⟨ah HW.out.symm, ((bA _ _).alloc (by simp) _).alloc (by simp; omega) _⟩
   ·have e13 : (x.op == 13) = false := by simpa using k13
    have HW : Hid (fK (gL c) c.av.length x = false) := lH (by rw [HX.out, dF k13]; rfl)
    clear k13
    go_enter Tryz.func73, Tryz.ntmps73
    go_wp2_with fail
    refine (jD x.op _).mono ?_; rw [HJ.out]; rintro e w1 ⟨rfl, rfl⟩
    go_wp2_with fail
    refine (bJ x.a 0 ((c.av.length : Int) - 1) _).mono ?_; rw [HI.out]; rintro e w2 ⟨rfl, rfl⟩
    go_wp2_with fail
    go_ret
    exact ⟨ah HW.out.symm, ((bA _ _).alloc (by simp) _).alloc (by simp; omega) _⟩
theorem J8 (c : dK) (x : eO) (h0 : 1 ≤ x.op) (h1 : x.op ≤ 30) (h2 : 0 ≤ x.line) (k : lg x.op = false) (n1 : ¬ x.op = 1) (n10 : ¬ x.op = 10) (n2 : ¬ x.op = 2) (n3 : ¬ x.op = 3) (n5 : ¬ x.op = 5) (n6 : ¬ x.op = 6) (n7 : ¬ x.op = 7) (n8 : ¬ x.op = 8) (n9 : ¬ x.op = 9) (n11 : ¬ x.op = 11) (n12 : ¬ x.op = 12) (hs : x.text.size = 0) (hb : x.b = 0) : su 73 c x := by
 intro vc vx w lo hi lo' hi' hc hx ht
 obtain ⟨bT, bI, bE, aY, bH, aZ, dS, dN, rfl, hr, ur, mr, hd, ud, md, hg, ug, mg, hi1, ui, mi⟩ := dK.form hc
 obtain rfl := eO.form hx
 unfold maxLen at mr md mg mi
 clear hr hd hg hi1 hc hx
 have HV : Hid (fK (gL c) c.av.length x = decide (x.a = 0)) := by
  show _ = _
  have d1 : decide (1 ≤ x.op ∧ x.op ≤ 30) = true := dT ⟨h0, h1⟩
  have d2 := dT h2
  have hl : mD (gL c) x.op x.a = decide (x.a = 0) := by rw [mD, if_neg n1, if_neg n5, if_neg n6, if_neg n7, if_neg n8, if_neg n9, if_neg n10]
  rw [fK, d1, d2, iq, if_neg n2, if_neg n3, dT hs, pZ, if_neg n11, if_neg n12, dT hb, qy, if_neg (by rw [k]; decide), if_neg n11, hl]
  rfl
 have f2 : (x.op != 2) = true := by simp; omega
 have f3 : (x.op != 3) = true := by simp; omega
 have i1 := gY hs
 have f11 : (x.op != 11) = true := by simp; omega
 have f12 : (x.op != 12) = true := by simp; omega
 have fb : (x.b != 0) = false := by simp [hb]
 have HJ := lH k
 have e1 : (x.op == 1) = false := by simp; omega
 have e10 : (x.op == 10) = false := by simp; omega
 have e2 : (x.op == 2) = false := by simp; omega
 have e3 : (x.op == 3) = false := by simp; omega
 have e5 : (x.op == 5) = false := by simp; omega
 have e6 : (x.op == 6) = false := by simp; omega
 have e7 : (x.op == 7) = false := by simp; omega
 have e8 : (x.op == 8) = false := by simp; omega
 have e9 : (x.op == 9) = false := by simp; omega
 have e11 : (x.op == 11) = false := by simp; omega
 have e12 : (x.op == 12) = false := by simp; omega
 clear k hs hb
 go_enter Tryz.func73, Tryz.ntmps73
 go_wp2_with fail
 refine (jD x.op _).mono ?_; rw [HJ.out]; rintro e w1 ⟨rfl, rfl⟩
 go_wp2_with fail
 go_ret
 exact ⟨ah HV.out.symm, ((bA _ _).alloc (by simp) _).alloc (by simp; omega) _⟩
theorem Qo (c : dK) (x : eO) (h0 : 1 ≤ x.op) (h1 : x.op ≤ 30) (h2 : 0 ≤ x.line) (k : x.op = 12) (hs : x.text.size = 0) : su 73 c x := by
 intro vc vx w lo hi lo' hi' hc hx ht
 obtain ⟨bT, bI, bE, aY, bH, aZ, dS, dN, rfl, hr, ur, mr, hd, ud, md, hg, ug, mg, hi1, ui, mi⟩ := dK.form hc
 obtain rfl := eO.form hx
 unfold maxLen at mr md mg mi
 clear hr hd hg hi1 hc hx
 have HV : Hid (fK (gL c) c.av.length x = (decide (x.a = 0) && inB x.b 1 9)) := by
  show _ = _
  have d1 : decide (1 ≤ x.op ∧ x.op ≤ 30) = true := dT ⟨h0, h1⟩
  have d2 := dT h2
  have hl : mD (gL c) x.op x.a = decide (x.a = 0) := by rw [k]; rfl
  rw [fK, d1, d2, iq, if_neg (by omega), if_neg (by omega), dT hs, pZ, if_neg (by omega), if_pos k, qy, if_neg (by rw [k]; decide), if_neg (by omega), hl]
  cases decide (x.a = 0) <;> cases inB x.b 1 9 <;> rfl
 have f2 : (x.op != 2) = true := by simp; omega
 have f3 : (x.op != 3) = true := by simp; omega
 have i1 := gY hs
 have f11 : (x.op != 11) = true := by simp; omega
 have f12 : (x.op != 12) = false := by simp [k]
 have HJ : Hid (lg x.op = false) := lH (by rw [k]; rfl)
 have e1 : (x.op == 1) = false := by simp; omega
 have e10 : (x.op == 10) = false := by simp; omega
 have e2 : (x.op == 2) = false := by simp; omega
 have e3 : (x.op == 3) = false := by simp; omega
 have e5 : (x.op == 5) = false := by simp; omega
 have e6 : (x.op == 6) = false := by simp; omega
 have e7 : (x.op == 7) = false := by simp; omega
 have e8 : (x.op == 8) = false := by simp; omega
 have e9 : (x.op == 9) = false := by simp; omega
 have e11 : (x.op == 11) = false := by simp; omega
 have e12 : (x.op == 12) = true := by simp [k]
 have ka : 12 ≤ x.op := by omega
 have kb : x.op ≤ 12 := by omega
 clear k hs
 by_cases a0 : x.a = 0
 ·have ea : (x.a == 0) = true := by simp [a0]
  have HW : Hid (fK (gL c) c.av.length x = inB x.b 1 9) := lH (by rw [HV.out, dT a0]; rfl)
  clear a0
  go_enter Tryz.func73, Tryz.ntmps73
  go_wp2_with fail
  refine (jD x.op _).mono ?_; rw [HJ.out]; rintro e w1 ⟨rfl, rfl⟩
  go_wp2_with fail
  refine (bJ x.b 1 9 _).mono ?_; rintro e w2 ⟨rfl, rfl⟩
  go_wp2_with fail
  go_ret
  exact ⟨ah HW.out.symm, ((bA _ _).alloc (by simp) _).alloc (by simp; omega) _⟩
 ·have ea : (x.a == 0) = false := by simpa using a0
  have HW : Hid (fK (gL c) c.av.length x = false) := lH (by rw [HV.out, dF a0]; rfl)
  clear a0
  go_enter Tryz.func73, Tryz.ntmps73
  go_wp2_with fail
  refine (jD x.op _).mono ?_; rw [HJ.out]; rintro e w1 ⟨rfl, rfl⟩
  go_wp2_with fail
  go_ret
  exact ⟨ah HW.out.symm, ((bA _ _).alloc (by simp) _).alloc (by simp; omega) _⟩
theorem Tp (c : dK) (x : eO) (h0 : 1 ≤ x.op) (h1 : x.op ≤ 30) (h2 : 0 ≤ x.line) (k : x.op = 2) (hb : x.b = 0) : su 73 c x := by
 intro vc vx w lo hi lo' hi' hc hx ht
 obtain ⟨bT, bI, bE, aY, bH, aZ, dS, dN, rfl, hr, ur, mr, hd, ud, md, hg, ug, mg, hi1, ui, mi⟩ := dK.form hc
 obtain rfl := eO.form hx
 unfold maxLen at mr md mg mi
 clear hr hd hg hi1 hc hx
 have HV : Hid (fK (gL c) c.av.length x = (decide (x.text.size ≤ 120) && decide (x.a = 0))) := by
  show _ = _
  have d1 : decide (1 ≤ x.op ∧ x.op ≤ 30) = true := dT ⟨h0, h1⟩
  have d2 := dT h2
  have hl : mD (gL c) x.op x.a = decide (x.a = 0) := by rw [k]; rfl
  rw [fK, d1, d2, iq, if_pos k, pZ, if_neg (by omega), if_neg (by omega), dT hb, qy, if_neg (by rw [k]; decide), if_neg (by omega), hl]
  cases decide (x.a = 0) <;> cases decide (x.text.size ≤ 120) <;> rfl
 have f2 : (x.op != 2) = false := by simp [k]
 have f11 : (x.op != 11) = true := by simp; omega
 have f12 : (x.op != 12) = true := by simp; omega
 have fb : (x.b != 0) = false := by simp [hb]
 have HJ : Hid (lg x.op = false) := lH (by rw [k]; rfl)
 have e1 : (x.op == 1) = false := by simp; omega
 have e10 : (x.op == 10) = false := by simp; omega
 have e2 : (x.op == 2) = true := by simp [k]
 have ka : 2 ≤ x.op := by omega
 have kb : x.op ≤ 2 := by omega
 clear k hb
 by_cases s1 : x.text.size ≤ 120
 have HW : Hid (fK (gL c) c.av.length x = decide (x.a = 0)) := lH (by rw [HV.out, dT s1]; rfl)
 rotate_left
 have HW : Hid (fK (gL c) c.av.length x = false) := lH (by rw [HV.out, dF s1]; rfl)
 iterate 2 focus
  go_enter Tryz.func73, Tryz.ntmps73
  go_wp2_with fail
  refine (jD x.op _).mono ?_; rw [HJ.out]; rintro e w1 ⟨rfl, rfl⟩
  go_wp2_with fail
  go_ret
  exact ⟨ah HW.out.symm, ((bA _ _).alloc (by simp) _).alloc (by simp; omega) _⟩
theorem Qp (c : dK) (x : eO) (h0 : 1 ≤ x.op) (h1 : x.op ≤ 30) (h2 : 0 ≤ x.line) (k : x.op = 11) (hs : x.text.size = 0) : su 73 c x := by
 intro vc vx w lo hi lo' hi' hc hx ht
 obtain ⟨bT, bI, bE, aY, bH, aZ, dS, dN, rfl, hr, ur, mr, hd, ud, md, hg, ug, mg, hi1, ui, mi⟩ := dK.form hc
 obtain rfl := eO.form hx
 unfold maxLen at mr md mg mi
 clear hr hd hg hi1 hc hx
 have HV : Hid (fK (gL c) c.av.length x = decide (iZ x.a ≤ x.b ∧ x.b ≤ jc x.a)) := by
  show _ = _
  have d1 : decide (1 ≤ x.op ∧ x.op ≤ 30) = true := dT ⟨h0, h1⟩
  have d2 := dT h2
  rw [fK, d1, d2, iq, if_neg (by omega), if_neg (by omega), dT hs, pZ, if_pos k, qy, if_neg (by rw [k]; decide), if_pos k]
  cases decide (iZ x.a ≤ x.b ∧ x.b ≤ jc x.a) <;> rfl
 have f2 : (x.op != 2) = true := by simp; omega
 have f3 : (x.op != 3) = true := by simp; omega
 have i1 := gY hs
 have f11 : (x.op != 11) = false := by simp [k]
 have HJ : Hid (lg x.op = false) := lH (by rw [k]; rfl)
 have e1 : (x.op == 1) = false := by simp; omega
 have e10 : (x.op == 10) = false := by simp; omega
 have e2 : (x.op == 2) = false := by simp; omega
 have e3 : (x.op == 3) = false := by simp; omega
 have e5 : (x.op == 5) = false := by simp; omega
 have e6 : (x.op == 6) = false := by simp; omega
 have e7 : (x.op == 7) = false := by simp; omega
 have e8 : (x.op == 8) = false := by simp; omega
 have e9 : (x.op == 9) = false := by simp; omega
 have e11 : (x.op == 11) = true := by simp [k]
 have ka : 11 ≤ x.op := by omega
 have kb : x.op ≤ 11 := by omega
 clear k hs
 by_cases g1 : iZ x.a ≤ x.b
 ·by_cases g2 : x.b ≤ jc x.a
  have HW : Hid (fK (gL c) c.av.length x = true) := lH (by rw [HV.out, dT ⟨g1, g2⟩])
  have g3 := dT g2
  rotate_left
  have HW : Hid (fK (gL c) c.av.length x = false) := lH (by rw [HV.out, dF (fun e => g2 e.2)])
  have g3 := dF g2
  iterate 2 focus
   go_enter Tryz.func73, Tryz.ntmps73
   go_wp2_with fail
   refine (jD x.op _).mono ?_; rw [HJ.out]; rintro e w1 ⟨rfl, rfl⟩
   go_wp2_with fail
   refine (vO x.a _).mono ?_; rintro e w2 ⟨rfl, hb2⟩
   have a1 := (((Blk.newAt (w.alloc (.cells #[.slice bT c.au.length bI, .slice bE c.aA.length aY, .slice bH c.aB.length aZ, .int .i64 c.main, .slice dS c.av.length dN] 47)) 146 #[.int .i64 x.op, .int .i64 x.a, .int .i64 x.b, .int .i64 x.line, .string x.text] (w.heap.size + 1) (by simp)).alloc _).later hb2)
   have ca := a1.cell
   have la := a1.lt
   go_wp2_with fail
   go_ret
   exact ⟨ah HW.out.symm, (((bA _ _).alloc (by simp) _).alloc (by simp; omega) _).trans (hb2.mono (by simp; omega))⟩
 ·have HW : Hid (fK (gL c) c.av.length x = false) := lH (by rw [HV.out, dF (fun e => g1 e.1)])
  go_enter Tryz.func73, Tryz.ntmps73
  go_wp2_with fail
  refine (jD x.op _).mono ?_; rw [HJ.out]; rintro e w1 ⟨rfl, rfl⟩
  go_wp2_with fail
  refine (vO x.a _).mono ?_; rintro e w2 ⟨rfl, hb2⟩
  have a1 := (((Blk.newAt (w.alloc (.cells #[.slice bT c.au.length bI, .slice bE c.aA.length aY, .slice bH c.aB.length aZ, .int .i64 c.main, .slice dS c.av.length dN] 47)) 146 #[.int .i64 x.op, .int .i64 x.a, .int .i64 x.b, .int .i64 x.line, .string x.text] (w.heap.size + 1) (by simp)).alloc _).later hb2)
  have ca := a1.cell
  have la := a1.lt
  go_wp2_with fail
  go_ret
  exact ⟨ah HW.out.symm, (((bA _ _).alloc (by simp) _).alloc (by simp; omega) _).trans (hb2.mono (by simp; omega))⟩
theorem Tq (c : dK) (x : eO) (h0 : 1 ≤ x.op) (h1 : x.op ≤ 30) (h2 : 0 ≤ x.line) (k : x.op = 1) (hs : x.text.size = 0) (hb : x.b = 0) : su 73 c x := by
 intro vc vx w lo hi lo' hi' hc hx ht
 obtain ⟨bT, bI, bE, aY, bH, aZ, dS, dN, rfl, hr, ur, mr, hd, ud, md, hg, ug, mg, hi1, ui, mi⟩ := dK.form hc
 obtain rfl := eO.form hx
 unfold maxLen at mr md mg mi
 clear hr hd hg hi1 hc hx
 have HV : Hid (fK (gL c) c.av.length x = mD ⟨0, 0, 0, 0⟩ x.op x.a) := by
  show _ = _
  have d1 : decide (1 ≤ x.op ∧ x.op ≤ 30) = true := dT ⟨h0, h1⟩
  have d2 := dT h2
  rw [fK, d1, d2, iq, if_neg (by omega), if_neg (by omega), dT hs, pZ, if_neg (by omega), if_neg (by omega), dT hb, qy, if_neg (by rw [k]; decide), if_neg (by omega), k]
  rfl
 have f2 : (x.op != 2) = true := by simp; omega
 have f3 : (x.op != 3) = true := by simp; omega
 have i1 := gY hs
 have f11 : (x.op != 11) = true := by simp; omega
 have f12 : (x.op != 12) = true := by simp; omega
 have fb : (x.b != 0) = false := by simp [hb]
 have HJ : Hid (lg x.op = false) := lH (by rw [k]; rfl)
 have e1 : (x.op == 1) = true := by simp [k]
 have ka : 1 ≤ x.op := by omega
 have kb : x.op ≤ 1 := by omega
 clear k hs hb
 have HL : Hid (∀ W, Calls Tryz.prog 117 #[.agg #[.slice none 0 0, .slice none 0 0, .slice none 0 0, .int .i64 0], .int .i64 0, .agg #[.int .i64 x.op, .int .i64 0, .int .i64 x.a, .int .i64 0, .string ⟨#[]⟩, .slice none 0 0]] W fun e w' => e = .returned (.bool (mD ⟨0, 0, 0, 0⟩ x.op x.a)) ∧ Below W.heap.size W w') :=
  fun W => zi ⟨0, 0, 0, 0⟩ none none none 0 0 0 0 _ (.mk x.op 0 x.a 0 ⟨#[]⟩ []) W 0 0 (G5 W x.op x.a) (by decide) (by decide) (by decide) (by decide)
 go_enter Tryz.func73, Tryz.ntmps73
 go_wp2_with fail
 refine (jD x.op _).mono ?_; rw [HJ.out]; rintro e w1 ⟨rfl, rfl⟩
 go_wp2_with fail
 refine (HL.out _).mono ?_; rintro e w2 ⟨rfl, hb2⟩
 go_wp2_with fail
 go_ret
 exact ⟨ah HV.out.symm, (((bA _ _).alloc (by simp) _).alloc (by simp; omega) _).trans (hb2.mono (by simp; omega))⟩
theorem Qq (c : dK) (x : eO) (h0 : 1 ≤ x.op) (h1 : x.op ≤ 30) (h2 : 0 ≤ x.line) (k : x.op = 10) (hs : x.text.size = 0) (hb : x.b = 0) : su 73 c x := by
 intro vc vx w lo hi lo' hi' hc hx ht
 obtain ⟨bT, bI, bE, aY, bH, aZ, dS, dN, rfl, hr, ur, mr, hd, ud, md, hg, ug, mg, hi1, ui, mi⟩ := dK.form hc
 obtain rfl := eO.form hx
 unfold maxLen at mr md mg mi
 clear hr hd hg hi1 hc hx
 have HV : Hid (fK (gL c) c.av.length x = mD ⟨0, 0, 0, 0⟩ x.op x.a) := by
  show _ = _
  have d1 : decide (1 ≤ x.op ∧ x.op ≤ 30) = true := dT ⟨h0, h1⟩
  have d2 := dT h2
  rw [fK, d1, d2, iq, if_neg (by omega), if_neg (by omega), dT hs, pZ, if_neg (by omega), if_neg (by omega), dT hb, qy, if_neg (by rw [k]; decide), if_neg (by omega), k]
  rfl
 have f2 : (x.op != 2) = true := by simp; omega
 have f3 : (x.op != 3) = true := by simp; omega
 have i1 := gY hs
 have f11 : (x.op != 11) = true := by simp; omega
 have f12 : (x.op != 12) = true := by simp; omega
 have fb : (x.b != 0) = false := by simp [hb]
 have HJ : Hid (lg x.op = false) := lH (by rw [k]; rfl)
 have e1 : (x.op == 1) = false := by simp; omega
 have e10 : (x.op == 10) = true := by simp [k]
 have ka : 10 ≤ x.op := by omega
 have kb : x.op ≤ 10 := by omega
 clear k hs hb
 have HL : Hid (∀ W, Calls Tryz.prog 117 #[.agg #[.slice none 0 0, .slice none 0 0, .slice none 0 0, .int .i64 0], .int .i64 0, .agg #[.int .i64 x.op, .int .i64 0, .int .i64 x.a, .int .i64 0, .string ⟨#[]⟩, .slice none 0 0]] W fun e w' => e = .returned (.bool (mD ⟨0, 0, 0, 0⟩ x.op x.a)) ∧ Below W.heap.size W w') :=
  fun W => zi ⟨0, 0, 0, 0⟩ none none none 0 0 0 0 _ (.mk x.op 0 x.a 0 ⟨#[]⟩ []) W 0 0 (G5 W x.op x.a) (by decide) (by decide) (by decide) (by decide)
 go_enter Tryz.func73, Tryz.ntmps73
 go_wp2_with fail
 refine (jD x.op _).mono ?_; rw [HJ.out]; rintro e w1 ⟨rfl, rfl⟩
 go_wp2_with fail
 refine (HL.out _).mono ?_; rintro e w2 ⟨rfl, hb2⟩
 go_wp2_with fail
 go_ret
 exact ⟨ah HV.out.symm, (((bA _ _).alloc (by simp) _).alloc (by simp; omega) _).trans (hb2.mono (by simp; omega))⟩
theorem Tt (c : dK) (x : eO) (h0 : 1 ≤ x.op) (h1 : x.op ≤ 30) (h2 : 0 ≤ x.line) (k : x.op = 3) (hb : x.b = 0) : su 73 c x := by
 intro vc vx w lo hi lo' hi' hc hx ht
 obtain ⟨bT, bI, bE, aY, bH, aZ, dS, dN, rfl, hr, ur, mr, hd, ud, md, hg, ug, mg, hi1, ui, mi⟩ := dK.form hc
 obtain rfl := eO.form hx
 unfold maxLen at mr md mg mi
 clear hr hd hg hi1 hc hx
 have HV : Hid (fK (gL c) c.av.length x = (uV x.text && decide (x.a = 0))) := by
  show _ = _
  have d1 : decide (1 ≤ x.op ∧ x.op ≤ 30) = true := dT ⟨h0, h1⟩
  have d2 := dT h2
  have hl : mD (gL c) x.op x.a = decide (x.a = 0) := by rw [k]; rfl
  rw [fK, d1, d2, iq, if_neg (by omega), if_pos k, pZ, if_neg (by omega), if_neg (by omega), dT hb, qy, if_neg (by rw [k]; decide), if_neg (by omega), hl]
  cases decide (x.a = 0) <;> cases uV x.text <;> rfl
 have f2 : (x.op != 2) = true := by simp; omega
 have f3 : (x.op != 3) = false := by simp [k]
 have f11 : (x.op != 11) = true := by simp; omega
 have f12 : (x.op != 12) = true := by simp; omega
 have fb : (x.b != 0) = false := by simp [hb]
 have HJ : Hid (lg x.op = false) := lH (by rw [k]; rfl)
 have e1 : (x.op == 1) = false := by simp; omega
 have e10 : (x.op == 10) = false := by simp; omega
 have e2 : (x.op == 2) = false := by simp; omega
 have e3 : (x.op == 3) = true := by simp [k]
 have ka : 3 ≤ x.op := by omega
 have kb : x.op ≤ 3 := by omega
 clear k hb
 go_enter Tryz.func73, Tryz.ntmps73
 go_wp2_with fail
 refine (jD x.op _).mono ?_; rw [HJ.out]; rintro e w1 ⟨rfl, rfl⟩
 go_wp2_with fail
 refine (EL x.text _ (by omega)).mono ?_; unfold Gg; rintro e w3 ⟨rfl, hb3⟩
 have a3 := (((Blk.newAt (w.alloc (.cells #[.slice bT c.au.length bI, .slice bE c.aA.length aY, .slice bH c.aB.length aZ, .int .i64 c.main, .slice dS c.av.length dN] 47)) 146 #[.int .i64 x.op, .int .i64 x.a, .int .i64 x.b, .int .i64 x.line, .string x.text] (w.heap.size + 1) (by simp)).alloc _).later hb3)
 have hw3 : Below w.heap.size w w3 := (((bA _ _).alloc (by simp) _).alloc (by simp; omega) _).trans (hb3.mono (by simp; omega))
 cases hA : vE x.text with
 | false =>
   have HW : Hid (fK (gL c) c.av.length x = false) := lH (by rw [HV.out, Hw hA]; rfl)
   clear hA
   have ca := a3.cell
   have la := a3.lt
   unfold ow.val
   go_wp2_with fail
   go_quiet (fail)
   go_wp2_with fail
   go_ret
   exact ⟨ah HW.out.symm, (hw3.alloc hw3.size _).trans ⟨rfl, rfl, rfl, nR _, fun _ _ => rfl⟩⟩
 | true =>
   obtain ⟨sv, hsv⟩ : ∃ sv, uJ x.text = sv := ⟨_, rfl⟩
   have hsm := Jw x.text hA
   rw [hsv] at hsm ⊢
   clear hA hsv
   have a4 := a3.alloc (.cells #[.int .i64 sv.lo.toInt, .int .i64 sv.hi.toInt] 54)
   have b4 := Blk.new w3 54 #[.int .i64 sv.lo.toInt, .int .i64 sv.hi.toInt]
   have hw4 : Below w.heap.size w (w3.alloc (.cells #[.int .i64 sv.lo.toInt, .int .i64 sv.hi.toInt] 54)) := hw3.alloc hw3.size _
   have ca := a4.cell
   have cb := b4.cell
   have la := a4.lt
   unfold ow.val
   by_cases hE : xG sv = x.text
   ·have HW : Hid (fK (gL c) c.av.length x = decide (x.a = 0)) := lH (by rw [HV.out, hsm.1 hE]; rfl)
    have HT : Hid (∀ W, Calls Tryz.prog 119 #[.agg #[.int .i64 sv.lo.toInt, .int .i64 sv.hi.toInt]] W fun e w' => e = .returned (.string x.text) ∧ Below W.heap.size W w') := fun W => by have := yu sv W; rw [hE] at this; exact this
    have f1 := str_eq x.text
    clear hsm hE
    go_upto_region 14 with (fail)
    generalize w3.alloc (.cells #[.int .i64 sv.lo.toInt, .int .i64 sv.hi.toInt] 54) = w5 at a4 b4 hw4 ca cb la ⊢
    go_region_with (first
     | (go_at_call 119; refine (HT.out _).mono ?_; rintro e w6 ⟨rfl, hb6⟩; have ca6 := (a4.drew.later hb6).cell; have la6 := (a4.drew.later hb6).lt))
    all_goals
     have hw6 : Below w.heap.size w w6 := hw4.drew.trans (hb6.mono hw4.size)
     go_wp2_with fail
     go_ret
     exact ⟨ah HW.out.symm, hw6⟩
   ·have HW : Hid (fK (gL c) c.av.length x = false) := lH (by rw [HV.out]; cases hq : uV x.text with | false => rfl | true => exact absurd (hsm.2 hq) hE)
    obtain ⟨t, ht⟩ : ∃ t, xG sv = t := ⟨_, rfl⟩
    have HT : Hid (∀ W, Calls Tryz.prog 119 #[.agg #[.int .i64 sv.lo.toInt, .int .i64 sv.hi.toInt]] W fun e w' => e = .returned (.string t) ∧ Below W.heap.size W w') := fun W => by have := yu sv W; rw [ht] at this; exact this
    have f1 := Ho (show ¬ t = x.text by rw [← ht]; exact hE)
    clear hsm hE ht
    go_upto_region 14 with (fail)
    generalize w3.alloc (.cells #[.int .i64 sv.lo.toInt, .int .i64 sv.hi.toInt] 54) = w5 at a4 b4 hw4 ca cb la ⊢
    first
     | go_region_with (first
      | (go_at_call 119; refine (HT.out _).mono ?_; rintro e w6 ⟨rfl, hb6⟩; have ca6 := (a4.drew.later hb6).cell; have la6 := (a4.drew.later hb6).lt))
     | fail
    all_goals
     have hw6 : Below w.heap.size w w6 := hw4.drew.trans (hb6.mono hw4.size)
     go_wp2_with fail
     go_ret
     exact ⟨ah HW.out.symm, hw6⟩
theorem D5 (c : dK) (x : eO) : su 73 c x := by
 by_cases a0 : x.op < 1
 ·exact Qj c x a0
 by_cases a1 : 30 < x.op
 ·exact Qk c x a1
 have h0 : 1 ≤ x.op := by omega
 have h1 : x.op ≤ 30 := by omega
 by_cases a2 : x.line < 0
 ·exact Mv c x h0 h1 a2
 have h2 : 0 ≤ x.line := by omega
 by_cases n2 : x.op = 2
 ·by_cases hb : x.b = 0
  ·exact Tp c x h0 h1 h2 n2 hb
  ·exact Ql c x h0 h1 h2 n2 hb
 by_cases n3 : x.op = 3
 ·by_cases hb : x.b = 0
  ·exact Tt c x h0 h1 h2 n3 hb
  ·exact Qm c x h0 h1 h2 n3 hb
 by_cases hs : x.text.size = 0
 ·by_cases n11 : x.op = 11
  ·exact Qp c x h0 h1 h2 n11 hs
  by_cases n12 : x.op = 12
  ·exact Qo c x h0 h1 h2 n12 hs
  by_cases hb : x.b = 0
  ·cases hj : lg x.op with
   | true => exact Mx c x h0 h1 h2 hj hs hb
   | false =>
   by_cases n1 : x.op = 1
   ·exact Tq c x h0 h1 h2 n1 hs hb
   by_cases n10 : x.op = 10
   ·exact Qq c x h0 h1 h2 n10 hs hb
   by_cases n5 : x.op = 5
   ·exact Ti c x h0 h1 h2 n5 hs hb
   by_cases n6 : x.op = 6
   ·exact Tj c x h0 h1 h2 n6 hs hb
   by_cases n7 : x.op = 7
   ·exact Tk c x h0 h1 h2 n7 hs hb
   by_cases n8 : x.op = 8
   ·exact Tm c x h0 h1 h2 n8 hs hb
   by_cases n9 : x.op = 9
   ·exact Tn c x h0 h1 h2 n9 hs hb
   exact J8 c x h0 h1 h2 hj n1 n10 n2 n3 n5 n6 n7 n8 n9 n11 n12 hs hb
  ·exact Qn c x h0 h1 h2 n2 n3 n11 n12 hs hb
 ·exact Mw c x h0 h1 h2 n2 n3 hs
end Go.Proofs.YtoddlphekcihgaaGreatDoor
