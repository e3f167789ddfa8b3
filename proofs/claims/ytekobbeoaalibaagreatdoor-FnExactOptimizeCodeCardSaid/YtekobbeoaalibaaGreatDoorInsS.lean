/- l28Instr of the reference. -/
import Derived.Test.YtekobbeoaalibaaGreatDoorInsDefs
import Derived.Test.YtekobbeoaalibaaGreatDoorTyAll
import Derived.Test.YtekobbeoaalibaaGreatDoorArS
import Derived.Test.YtekobbeoaalibaaGreatDoorVerMem
import Derived.Test.YtekobbeoaalibaaGreatDoorCoreTy
import Derived.Deep.DeepCutAuto
import Derived.Deep.CutBlock
import Derived.Deep.RegionLaw
namespace Go.Proofs.YtekobbeoaalibaaGreatDoor
open Go.RowKit
set_option linter.unusedVariables false

theorem leaf_rep (W : World) (op a : Int) : CRep W 0 0 (.agg #[.int .i64 op, .int .i64 0, .int .i64 a, .int .i64 0, .string ⟨#[]⟩, .slice none 0 0]) (.mk op 0 a 0 ⟨#[]⟩ []) :=
  CRep.mk_ (c := .mk op 0 a 0 ⟨#[]⟩ []) (A := none) (cap := 0) (Rep.mkRow Rds.none_ (by simp only [CoreT.kids, coreDats]; exact .nil_))

set_option maxRecDepth 100000 in
set_option maxHeartbeats 2000000 in
theorem l28_lo (c : CodeT) (x : InsT) (h : x.op < 1) : InsOk 83 c x := by
  intro vc vx w lo hi lo' hi' hc hx ht
  obtain ⟨Aroutines, nroutines, Arecords, nrecords, Aglobals, nglobals, Ainstrs, ninstrs, rfl, hr, ur, mr, hd, ud, md, hg, ug, mg, hi1, ui, mi⟩ := CodeT.form hc
  obtain rfl := InsT.form hx
  unfold maxLen at mr md mg mi
  clear hr hd hg hi1 hc hx
  have HV : Hid (insOk (codeD c) c.instrs.length x = false) := by show _ = _; rw [insOk]; simp; omega
  go_enter Tryz.func83, Tryz.ntmps83
  go_wp2_with fail
  go_ret
  exact ⟨ret_bool HV.out.symm, ((Below.refl _ _).alloc (Nat.le_refl _) _).alloc (by simp) _⟩
set_option maxRecDepth 100000 in
set_option maxHeartbeats 2000000 in
theorem l28_hi (c : CodeT) (x : InsT) (h : 30 < x.op) : InsOk 83 c x := by
  intro vc vx w lo hi lo' hi' hc hx ht
  obtain ⟨Aroutines, nroutines, Arecords, nrecords, Aglobals, nglobals, Ainstrs, ninstrs, rfl, hr, ur, mr, hd, ud, md, hg, ug, mg, hi1, ui, mi⟩ := CodeT.form hc
  obtain rfl := InsT.form hx
  unfold maxLen at mr md mg mi
  clear hr hd hg hi1 hc hx
  have HV : Hid (insOk (codeD c) c.instrs.length x = false) := by show _ = _; rw [insOk]; simp; omega
  go_enter Tryz.func83, Tryz.ntmps83
  go_wp2_with fail
  go_ret
  exact ⟨ret_bool HV.out.symm, ((Below.refl _ _).alloc (Nat.le_refl _) _).alloc (by simp) _⟩
set_option maxRecDepth 100000 in
set_option maxHeartbeats 2000000 in
theorem l28_line (c : CodeT) (x : InsT) (h0 : 1 ≤ x.op) (h1 : x.op ≤ 30) (h : x.line < 0) : InsOk 83 c x := by
  intro vc vx w lo hi lo' hi' hc hx ht
  obtain ⟨Aroutines, nroutines, Arecords, nrecords, Aglobals, nglobals, Ainstrs, ninstrs, rfl, hr, ur, mr, hd, ud, md, hg, ug, mg, hi1, ui, mi⟩ := CodeT.form hc
  obtain rfl := InsT.form hx
  unfold maxLen at mr md mg mi
  clear hr hd hg hi1 hc hx
  have HV : Hid (insOk (codeD c) c.instrs.length x = false) := by show _ = _; rw [insOk]; simp; omega
  go_enter Tryz.func83, Tryz.ntmps83
  go_wp2_with fail
  go_ret
  exact ⟨ret_bool HV.out.symm, ((Below.refl _ _).alloc (Nat.le_refl _) _).alloc (by simp) _⟩
set_option maxRecDepth 100000 in
set_option maxHeartbeats 2000000 in
theorem l28_text (c : CodeT) (x : InsT) (h0 : 1 ≤ x.op) (h1 : x.op ≤ 30) (h2 : 0 ≤ x.line) (n2 : ¬ x.op = 2) (n3 : ¬ x.op = 3) (h : ¬ x.text.size = 0) : InsOk 83 c x := by
  intro vc vx w lo hi lo' hi' hc hx ht
  obtain ⟨Aroutines, nroutines, Arecords, nrecords, Aglobals, nglobals, Ainstrs, ninstrs, rfl, hr, ur, mr, hd, ud, md, hg, ug, mg, hi1, ui, mi⟩ := CodeT.form hc
  obtain rfl := InsT.form hx
  unfold maxLen at mr md mg mi
  clear hr hd hg hi1 hc hx
  have HV : Hid (insOk (codeD c) c.instrs.length x = false) := by show _ = _; rw [insOk, insText, if_neg n2, if_neg n3, decide_eq_false h]; simp
  have f2 : (x.op != 2) = true := by simpa using n2
  have f3 : (x.op != 3) = true := by simpa using n3
  have i1 := eFull h
  go_enter Tryz.func83, Tryz.ntmps83
  go_wp2_with fail
  go_ret
  exact ⟨ret_bool HV.out.symm, ((Below.refl _ _).alloc (Nat.le_refl _) _).alloc (by simp) _⟩
set_option maxRecDepth 100000 in
set_option maxHeartbeats 2000000 in
theorem l28_b2 (c : CodeT) (x : InsT) (h0 : 1 ≤ x.op) (h1 : x.op ≤ 30) (h2 : 0 ≤ x.line) (k : x.op = 2) (h : ¬ x.b = 0) : InsOk 83 c x := by
  intro vc vx w lo hi lo' hi' hc hx ht
  obtain ⟨Aroutines, nroutines, Arecords, nrecords, Aglobals, nglobals, Ainstrs, ninstrs, rfl, hr, ur, mr, hd, ud, md, hg, ug, mg, hi1, ui, mi⟩ := CodeT.form hc
  obtain rfl := InsT.form hx
  unfold maxLen at mr md mg mi
  clear hr hd hg hi1 hc hx
  have HV : Hid (insOk (codeD c) c.instrs.length x = false) := by show _ = _; rw [insOk, insB, if_neg (by omega), if_neg (by omega), decide_eq_false h]; simp
  have f2 : (x.op != 2) = false := by simp [k]
  have f11 : (x.op != 11) = true := by simp; omega
  have f12 : (x.op != 12) = true := by simp; omega
  have fb : (x.b != 0) = true := by simpa using h
  clear k
  go_enter Tryz.func83, Tryz.ntmps83
  go_wp2_with fail
  go_ret
  exact ⟨ret_bool HV.out.symm, ((Below.refl _ _).alloc (Nat.le_refl _) _).alloc (by simp) _⟩
set_option maxRecDepth 100000 in
set_option maxHeartbeats 2000000 in
theorem l28_b3 (c : CodeT) (x : InsT) (h0 : 1 ≤ x.op) (h1 : x.op ≤ 30) (h2 : 0 ≤ x.line) (k : x.op = 3) (h : ¬ x.b = 0) : InsOk 83 c x := by
  intro vc vx w lo hi lo' hi' hc hx ht
  obtain ⟨Aroutines, nroutines, Arecords, nrecords, Aglobals, nglobals, Ainstrs, ninstrs, rfl, hr, ur, mr, hd, ud, md, hg, ug, mg, hi1, ui, mi⟩ := CodeT.form hc
  obtain rfl := InsT.form hx
  unfold maxLen at mr md mg mi
  clear hr hd hg hi1 hc hx
  have HV : Hid (insOk (codeD c) c.instrs.length x = false) := by show _ = _; rw [insOk, insB, if_neg (by omega), if_neg (by omega), decide_eq_false h]; simp
  have f2 : (x.op != 2) = true := by simp; omega
  have f3 : (x.op != 3) = false := by simp [k]
  have f11 : (x.op != 11) = true := by simp; omega
  have f12 : (x.op != 12) = true := by simp; omega
  have fb : (x.b != 0) = true := by simpa using h
  clear k
  go_enter Tryz.func83, Tryz.ntmps83
  go_wp2_with fail
  go_ret
  exact ⟨ret_bool HV.out.symm, ((Below.refl _ _).alloc (Nat.le_refl _) _).alloc (by simp) _⟩
set_option maxRecDepth 100000 in
set_option maxHeartbeats 2000000 in
theorem l28_bo (c : CodeT) (x : InsT) (h0 : 1 ≤ x.op) (h1 : x.op ≤ 30) (h2 : 0 ≤ x.line) (n2 : ¬ x.op = 2) (n3 : ¬ x.op = 3) (n11 : ¬ x.op = 11) (n12 : ¬ x.op = 12) (hs : x.text.size = 0) (h : ¬ x.b = 0) : InsOk 83 c x := by
  intro vc vx w lo hi lo' hi' hc hx ht
  obtain ⟨Aroutines, nroutines, Arecords, nrecords, Aglobals, nglobals, Ainstrs, ninstrs, rfl, hr, ur, mr, hd, ud, md, hg, ug, mg, hi1, ui, mi⟩ := CodeT.form hc
  obtain rfl := InsT.form hx
  unfold maxLen at mr md mg mi
  clear hr hd hg hi1 hc hx
  have HV : Hid (insOk (codeD c) c.instrs.length x = false) := by show _ = _; rw [insOk, insB, if_neg (by omega), if_neg (by omega), decide_eq_false h]; simp
  have f2 : (x.op != 2) = true := by simp; omega
  have f3 : (x.op != 3) = true := by simp; omega
  have i1 := eEmpty hs
  have f11 : (x.op != 11) = true := by simp; omega
  have f12 : (x.op != 12) = true := by simp; omega
  have fb : (x.b != 0) = true := by simpa using h
  clear hs
  go_enter Tryz.func83, Tryz.ntmps83
  go_wp2_with fail
  go_ret
  exact ⟨ret_bool HV.out.symm, ((Below.refl _ _).alloc (Nat.le_refl _) _).alloc (by simp) _⟩
set_option maxRecDepth 100000 in
set_option maxHeartbeats 2000000 in
theorem l28_5 (c : CodeT) (x : InsT) (h0 : 1 ≤ x.op) (h1 : x.op ≤ 30) (h2 : 0 ≤ x.line) (k : x.op = 5) (hs : x.text.size = 0) (hb : x.b = 0) : InsOk 83 c x := by
  intro vc vx w lo hi lo' hi' hc hx ht
  obtain ⟨Aroutines, nroutines, Arecords, nrecords, Aglobals, nglobals, Ainstrs, ninstrs, rfl, hr, ur, mr, hd, ud, md, hg, ug, mg, hi1, ui, mi⟩ := CodeT.form hc
  obtain rfl := InsT.form hx
  unfold maxLen at mr md mg mi
  clear hr hd hg hi1 hc hx
  have HV : Hid (insOk (codeD c) c.instrs.length x = inB x.a 0 (23)) := by
    show _ = _
    have d1 : decide (1 ≤ x.op ∧ x.op ≤ 30) = true := decide_eq_true ⟨h0, h1⟩
    have d2 : decide (0 ≤ x.line) = true := decide_eq_true h2
    rw [insOk, d1, d2, insText, if_neg (by omega), if_neg (by omega), decide_eq_true hs, insB, if_neg (by omega), if_neg (by omega), decide_eq_true hb, insA, if_neg (by rw [k]; decide), if_neg (by omega), k]
    rfl
  have f2 : (x.op != 2) = true := by simp; omega
  have f3 : (x.op != 3) = true := by simp; omega
  have i1 := eEmpty hs
  have f11 : (x.op != 11) = true := by simp; omega
  have f12 : (x.op != 12) = true := by simp; omega
  have fb : (x.b != 0) = false := by simp [hb]
  have HJ : Hid (jumpB x.op = false) := by show _ = _; rw [k]; rfl
  have e1 : (x.op == 1) = false := by simp; omega
  have e10 : (x.op == 10) = false := by simp; omega
  have e2 : (x.op == 2) = false := by simp; omega
  have e3 : (x.op == 3) = false := by simp; omega
  have e5 : (x.op == 5) = true := by simp [k]
  have ka : 5 ≤ x.op := by omega
  have kb : x.op ≤ 5 := by omega
  clear k hs hb
  go_enter Tryz.func83, Tryz.ntmps83
  go_wp2_with fail
  refine (spec_l28Jumps x.op _).mono ?_; rw [HJ.out]; rintro e w1 ⟨rfl, rfl⟩
  go_wp2_with fail
  refine (spec_l1In x.a 0 (23) _).mono ?_; rintro e w2 ⟨rfl, rfl⟩
  go_wp2_with fail
  go_ret
  exact ⟨ret_bool HV.out.symm, (((Below.refl _ _).alloc (Nat.le_refl _) _).alloc (by simp) _).alloc (by simp; omega) _⟩
set_option maxRecDepth 100000 in
set_option maxHeartbeats 2000000 in
theorem l28_6 (c : CodeT) (x : InsT) (h0 : 1 ≤ x.op) (h1 : x.op ≤ 30) (h2 : 0 ≤ x.line) (k : x.op = 6) (hs : x.text.size = 0) (hb : x.b = 0) : InsOk 83 c x := by
  intro vc vx w lo hi lo' hi' hc hx ht
  obtain ⟨Aroutines, nroutines, Arecords, nrecords, Aglobals, nglobals, Ainstrs, ninstrs, rfl, hr, ur, mr, hd, ud, md, hg, ug, mg, hi1, ui, mi⟩ := CodeT.form hc
  obtain rfl := InsT.form hx
  unfold maxLen at mr md mg mi
  clear hr hd hg hi1 hc hx
  have HV : Hid (insOk (codeD c) c.instrs.length x = inB x.a 0 ((c.globals.length : Int) - 1)) := by
    show _ = _
    have d1 : decide (1 ≤ x.op ∧ x.op ≤ 30) = true := decide_eq_true ⟨h0, h1⟩
    have d2 : decide (0 ≤ x.line) = true := decide_eq_true h2
    rw [insOk, d1, d2, insText, if_neg (by omega), if_neg (by omega), decide_eq_true hs, insB, if_neg (by omega), if_neg (by omega), decide_eq_true hb, insA, if_neg (by rw [k]; decide), if_neg (by omega), k]
    rfl
  have f2 : (x.op != 2) = true := by simp; omega
  have f3 : (x.op != 3) = true := by simp; omega
  have i1 := eEmpty hs
  have f11 : (x.op != 11) = true := by simp; omega
  have f12 : (x.op != 12) = true := by simp; omega
  have fb : (x.b != 0) = false := by simp [hb]
  have HJ : Hid (jumpB x.op = false) := by show _ = _; rw [k]; rfl
  have e1 : (x.op == 1) = false := by simp; omega
  have e10 : (x.op == 10) = false := by simp; omega
  have e2 : (x.op == 2) = false := by simp; omega
  have e3 : (x.op == 3) = false := by simp; omega
  have e5 : (x.op == 5) = false := by simp; omega
  have e6 : (x.op == 6) = true := by simp [k]
  have ka : 6 ≤ x.op := by omega
  have kb : x.op ≤ 6 := by omega
  clear k hs hb
  go_enter Tryz.func83, Tryz.ntmps83
  go_wp2_with fail
  refine (spec_l28Jumps x.op _).mono ?_; rw [HJ.out]; rintro e w1 ⟨rfl, rfl⟩
  go_wp2_with fail
  refine (spec_l1In x.a 0 ((c.globals.length : Int) - 1) _).mono ?_; rintro e w2 ⟨rfl, rfl⟩
  go_wp2_with fail
  go_ret
  exact ⟨ret_bool HV.out.symm, (((Below.refl _ _).alloc (Nat.le_refl _) _).alloc (by simp) _).alloc (by simp; omega) _⟩
set_option maxRecDepth 100000 in
set_option maxHeartbeats 2000000 in
theorem l28_7 (c : CodeT) (x : InsT) (h0 : 1 ≤ x.op) (h1 : x.op ≤ 30) (h2 : 0 ≤ x.line) (k : x.op = 7) (hs : x.text.size = 0) (hb : x.b = 0) : InsOk 83 c x := by
  intro vc vx w lo hi lo' hi' hc hx ht
  obtain ⟨Aroutines, nroutines, Arecords, nrecords, Aglobals, nglobals, Ainstrs, ninstrs, rfl, hr, ur, mr, hd, ud, md, hg, ug, mg, hi1, ui, mi⟩ := CodeT.form hc
  obtain rfl := InsT.form hx
  unfold maxLen at mr md mg mi
  clear hr hd hg hi1 hc hx
  have HV : Hid (insOk (codeD c) c.instrs.length x = inB x.a 0 ((c.routines.length : Int) - 1)) := by
    show _ = _
    have d1 : decide (1 ≤ x.op ∧ x.op ≤ 30) = true := decide_eq_true ⟨h0, h1⟩
    have d2 : decide (0 ≤ x.line) = true := decide_eq_true h2
    rw [insOk, d1, d2, insText, if_neg (by omega), if_neg (by omega), decide_eq_true hs, insB, if_neg (by omega), if_neg (by omega), decide_eq_true hb, insA, if_neg (by rw [k]; decide), if_neg (by omega), k]
    rfl
  have f2 : (x.op != 2) = true := by simp; omega
  have f3 : (x.op != 3) = true := by simp; omega
  have i1 := eEmpty hs
  have f11 : (x.op != 11) = true := by simp; omega
  have f12 : (x.op != 12) = true := by simp; omega
  have fb : (x.b != 0) = false := by simp [hb]
  have HJ : Hid (jumpB x.op = false) := by show _ = _; rw [k]; rfl
  have e1 : (x.op == 1) = false := by simp; omega
  have e10 : (x.op == 10) = false := by simp; omega
  have e2 : (x.op == 2) = false := by simp; omega
  have e3 : (x.op == 3) = false := by simp; omega
  have e5 : (x.op == 5) = false := by simp; omega
  have e6 : (x.op == 6) = false := by simp; omega
  have e7 : (x.op == 7) = true := by simp [k]
  have ka : 7 ≤ x.op := by omega
  have kb : x.op ≤ 7 := by omega
  clear k hs hb
  go_enter Tryz.func83, Tryz.ntmps83
  go_wp2_with fail
  refine (spec_l28Jumps x.op _).mono ?_; rw [HJ.out]; rintro e w1 ⟨rfl, rfl⟩
  go_wp2_with fail
  refine (spec_l1In x.a 0 ((c.routines.length : Int) - 1) _).mono ?_; rintro e w2 ⟨rfl, rfl⟩
  go_wp2_with fail
  go_ret
  exact ⟨ret_bool HV.out.symm, (((Below.refl _ _).alloc (Nat.le_refl _) _).alloc (by simp) _).alloc (by simp; omega) _⟩
set_option maxRecDepth 100000 in
set_option maxHeartbeats 2000000 in
theorem l28_8 (c : CodeT) (x : InsT) (h0 : 1 ≤ x.op) (h1 : x.op ≤ 30) (h2 : 0 ≤ x.line) (k : x.op = 8) (hs : x.text.size = 0) (hb : x.b = 0) : InsOk 83 c x := by
  intro vc vx w lo hi lo' hi' hc hx ht
  obtain ⟨Aroutines, nroutines, Arecords, nrecords, Aglobals, nglobals, Ainstrs, ninstrs, rfl, hr, ur, mr, hd, ud, md, hg, ug, mg, hi1, ui, mi⟩ := CodeT.form hc
  obtain rfl := InsT.form hx
  unfold maxLen at mr md mg mi
  clear hr hd hg hi1 hc hx
  have HV : Hid (insOk (codeD c) c.instrs.length x = inB x.a 0 (54)) := by
    show _ = _
    have d1 : decide (1 ≤ x.op ∧ x.op ≤ 30) = true := decide_eq_true ⟨h0, h1⟩
    have d2 : decide (0 ≤ x.line) = true := decide_eq_true h2
    rw [insOk, d1, d2, insText, if_neg (by omega), if_neg (by omega), decide_eq_true hs, insB, if_neg (by omega), if_neg (by omega), decide_eq_true hb, insA, if_neg (by rw [k]; decide), if_neg (by omega), k]
    rfl
  have f2 : (x.op != 2) = true := by simp; omega
  have f3 : (x.op != 3) = true := by simp; omega
  have i1 := eEmpty hs
  have f11 : (x.op != 11) = true := by simp; omega
  have f12 : (x.op != 12) = true := by simp; omega
  have fb : (x.b != 0) = false := by simp [hb]
  have HJ : Hid (jumpB x.op = false) := by show _ = _; rw [k]; rfl
  have e1 : (x.op == 1) = false := by simp; omega
  have e10 : (x.op == 10) = false := by simp; omega
  have e2 : (x.op == 2) = false := by simp; omega
  have e3 : (x.op == 3) = false := by simp; omega
  have e5 : (x.op == 5) = false := by simp; omega
  have e6 : (x.op == 6) = false := by simp; omega
  have e7 : (x.op == 7) = false := by simp; omega
  have e8 : (x.op == 8) = true := by simp [k]
  have ka : 8 ≤ x.op := by omega
  have kb : x.op ≤ 8 := by omega
  clear k hs hb
  go_enter Tryz.func83, Tryz.ntmps83
  go_wp2_with fail
  refine (spec_l28Jumps x.op _).mono ?_; rw [HJ.out]; rintro e w1 ⟨rfl, rfl⟩
  go_wp2_with fail
  refine (spec_l1In x.a 0 (54) _).mono ?_; rintro e w2 ⟨rfl, rfl⟩
  go_wp2_with fail
  go_ret
  exact ⟨ret_bool HV.out.symm, (((Below.refl _ _).alloc (Nat.le_refl _) _).alloc (by simp) _).alloc (by simp; omega) _⟩
set_option maxRecDepth 100000 in
set_option maxHeartbeats 2000000 in
theorem l28_9 (c : CodeT) (x : InsT) (h0 : 1 ≤ x.op) (h1 : x.op ≤ 30) (h2 : 0 ≤ x.line) (k : x.op = 9) (hs : x.text.size = 0) (hb : x.b = 0) : InsOk 83 c x := by
  intro vc vx w lo hi lo' hi' hc hx ht
  obtain ⟨Aroutines, nroutines, Arecords, nrecords, Aglobals, nglobals, Ainstrs, ninstrs, rfl, hr, ur, mr, hd, ud, md, hg, ug, mg, hi1, ui, mi⟩ := CodeT.form hc
  obtain rfl := InsT.form hx
  unfold maxLen at mr md mg mi
  clear hr hd hg hi1 hc hx
  have HV : Hid (insOk (codeD c) c.instrs.length x = inB x.a 0 ((c.records.length : Int) - 1)) := by
    show _ = _
    have d1 : decide (1 ≤ x.op ∧ x.op ≤ 30) = true := decide_eq_true ⟨h0, h1⟩
    have d2 : decide (0 ≤ x.line) = true := decide_eq_true h2
    rw [insOk, d1, d2, insText, if_neg (by omega), if_neg (by omega), decide_eq_true hs, insB, if_neg (by omega), if_neg (by omega), decide_eq_true hb, insA, if_neg (by rw [k]; decide), if_neg (by omega), k]
    rfl
  have f2 : (x.op != 2) = true := by simp; omega
  have f3 : (x.op != 3) = true := by simp; omega
  have i1 := eEmpty hs
  have f11 : (x.op != 11) = true := by simp; omega
  have f12 : (x.op != 12) = true := by simp; omega
  have fb : (x.b != 0) = false := by simp [hb]
  have HJ : Hid (jumpB x.op = false) := by show _ = _; rw [k]; rfl
  have e1 : (x.op == 1) = false := by simp; omega
  have e10 : (x.op == 10) = false := by simp; omega
  have e2 : (x.op == 2) = false := by simp; omega
  have e3 : (x.op == 3) = false := by simp; omega
  have e5 : (x.op == 5) = false := by simp; omega
  have e6 : (x.op == 6) = false := by simp; omega
  have e7 : (x.op == 7) = false := by simp; omega
  have e8 : (x.op == 8) = false := by simp; omega
  have e9 : (x.op == 9) = true := by simp [k]
  have ka : 9 ≤ x.op := by omega
  have kb : x.op ≤ 9 := by omega
  clear k hs hb
  go_enter Tryz.func83, Tryz.ntmps83
  go_wp2_with fail
  refine (spec_l28Jumps x.op _).mono ?_; rw [HJ.out]; rintro e w1 ⟨rfl, rfl⟩
  go_wp2_with fail
  refine (spec_l1In x.a 0 ((c.records.length : Int) - 1) _).mono ?_; rintro e w2 ⟨rfl, rfl⟩
  go_wp2_with fail
  go_ret
  exact ⟨ret_bool HV.out.symm, (((Below.refl _ _).alloc (Nat.le_refl _) _).alloc (by simp) _).alloc (by simp; omega) _⟩
set_option maxRecDepth 100000 in
set_option maxHeartbeats 2000000 in
theorem l28_jump (c : CodeT) (x : InsT) (h0 : 1 ≤ x.op) (h1 : x.op ≤ 30) (h2 : 0 ≤ x.line) (k : jumpB x.op = true) (hs : x.text.size = 0) (hb : x.b = 0) : InsOk 83 c x := by
  intro vc vx w lo hi lo' hi' hc hx ht
  obtain ⟨Aroutines, nroutines, Arecords, nrecords, Aglobals, nglobals, Ainstrs, ninstrs, rfl, hr, ur, mr, hd, ud, md, hg, ug, mg, hi1, ui, mi⟩ := CodeT.form hc
  obtain rfl := InsT.form hx
  unfold maxLen at mr md mg mi
  clear hr hd hg hi1 hc hx
  have kk : x.op = 13 ∨ x.op = 15 ∨ x.op = 17 ∨ x.op = 19 ∨ x.op = 27 := of_decide_eq_true k
  have HV : Hid (insOk (codeD c) c.instrs.length x = (inB x.a 0 ((c.instrs.length : Int) - 1) || (decide (x.op = 13) && decide (x.a = -1)))) := by
    show _ = _
    have d1 : decide (1 ≤ x.op ∧ x.op ≤ 30) = true := decide_eq_true ⟨h0, h1⟩
    have d2 : decide (0 ≤ x.line) = true := decide_eq_true h2
    rw [insOk, d1, d2, insText, if_neg (by omega), if_neg (by omega), decide_eq_true hs, insB, if_neg (by omega), if_neg (by omega), decide_eq_true hb, insA, if_pos k]
    rfl
  have f2 : (x.op != 2) = true := by simp; omega
  have f3 : (x.op != 3) = true := by simp; omega
  have i1 := eEmpty hs
  have f11 : (x.op != 11) = true := by simp; omega
  have f12 : (x.op != 12) = true := by simp; omega
  have fb : (x.b != 0) = false := by simp [hb]
  have HJ := Lib.hid k
  clear k hs hb kk
  have s1 : (c.instrs.length : Int) - 1 ≤ 9223372036854775807 := by omega
  cases hin : inB x.a 0 ((c.instrs.length : Int) - 1) with
  | true =>
    have HI := Lib.hid hin
    have HW : Hid (insOk (codeD c) c.instrs.length x = true) := by show _ = _; rw [HV.out, hin]; rfl
    clear hin
    go_enter Tryz.func83, Tryz.ntmps83
    go_wp2_with fail
    refine (spec_l28Jumps x.op _).mono ?_; rw [HJ.out]; rintro e w1 ⟨rfl, rfl⟩
    go_wp2_with fail
    refine (spec_l1In x.a 0 ((c.instrs.length : Int) - 1) _).mono ?_; rw [HI.out]; rintro e w2 ⟨rfl, rfl⟩
    go_wp2_with fail
    go_ret
    exact ⟨ret_bool HW.out.symm, (((Below.refl _ _).alloc (Nat.le_refl _) _).alloc (by simp) _).alloc (by simp; omega) _⟩
  | false =>
    have HI := Lib.hid hin
    have HX : Hid (insOk (codeD c) c.instrs.length x = (decide (x.op = 13) && decide (x.a = -1))) := by show _ = _; rw [HV.out, hin]; rfl
    clear hin
    by_cases k13 : x.op = 13
    · have e13 : (x.op == 13) = true := by simp [k13]
      by_cases a1 : x.a = -1
      · have f1 : (x.a == -1) = true := by simp [a1]
        have HW : Hid (insOk (codeD c) c.instrs.length x = true) := by show _ = _; rw [HX.out, decide_eq_true k13, decide_eq_true a1]; rfl
        clear k13 a1
        go_enter Tryz.func83, Tryz.ntmps83
        go_wp2_with fail
        refine (spec_l28Jumps x.op _).mono ?_; rw [HJ.out]; rintro e w1 ⟨rfl, rfl⟩
        go_wp2_with fail
        refine (spec_l1In x.a 0 ((c.instrs.length : Int) - 1) _).mono ?_; rw [HI.out]; rintro e w2 ⟨rfl, rfl⟩
        go_wp2_with fail
        go_ret
        exact ⟨ret_bool HW.out.symm, (((Below.refl _ _).alloc (Nat.le_refl _) _).alloc (by simp) _).alloc (by simp; omega) _⟩
      · have f1 : (x.a == -1) = false := by simpa using a1
        have HW : Hid (insOk (codeD c) c.instrs.length x = false) := by show _ = _; rw [HX.out, decide_eq_false a1]; simp
        clear k13 a1
        go_enter Tryz.func83, Tryz.ntmps83
        go_wp2_with fail
        refine (spec_l28Jumps x.op _).mono ?_; rw [HJ.out]; rintro e w1 ⟨rfl, rfl⟩
        go_wp2_with fail
        refine (spec_l1In x.a 0 ((c.instrs.length : Int) - 1) _).mono ?_; rw [HI.out]; rintro e w2 ⟨rfl, rfl⟩
        go_wp2_with fail
        go_ret
        exact ⟨ret_bool HW.out.symm, (((Below.refl _ _).alloc (Nat.le_refl _) _).alloc (by simp) _).alloc (by simp; omega) _⟩
    · have e13 : (x.op == 13) = false := by simpa using k13
      have HW : Hid (insOk (codeD c) c.instrs.length x = false) := by show _ = _; rw [HX.out, decide_eq_false k13]; rfl
      clear k13
      go_enter Tryz.func83, Tryz.ntmps83
      go_wp2_with fail
      refine (spec_l28Jumps x.op _).mono ?_; rw [HJ.out]; rintro e w1 ⟨rfl, rfl⟩
      go_wp2_with fail
      refine (spec_l1In x.a 0 ((c.instrs.length : Int) - 1) _).mono ?_; rw [HI.out]; rintro e w2 ⟨rfl, rfl⟩
      go_wp2_with fail
      go_ret
      exact ⟨ret_bool HW.out.symm, (((Below.refl _ _).alloc (Nat.le_refl _) _).alloc (by simp) _).alloc (by simp; omega) _⟩
set_option maxRecDepth 100000 in
set_option maxHeartbeats 2000000 in
theorem l28_other (c : CodeT) (x : InsT) (h0 : 1 ≤ x.op) (h1 : x.op ≤ 30) (h2 : 0 ≤ x.line) (k : jumpB x.op = false) (n1 : ¬ x.op = 1) (n10 : ¬ x.op = 10) (n2 : ¬ x.op = 2) (n3 : ¬ x.op = 3) (n5 : ¬ x.op = 5) (n6 : ¬ x.op = 6) (n7 : ¬ x.op = 7) (n8 : ¬ x.op = 8) (n9 : ¬ x.op = 9) (n11 : ¬ x.op = 11) (n12 : ¬ x.op = 12) (hs : x.text.size = 0) (hb : x.b = 0) : InsOk 83 c x := by
  intro vc vx w lo hi lo' hi' hc hx ht
  obtain ⟨Aroutines, nroutines, Arecords, nrecords, Aglobals, nglobals, Ainstrs, ninstrs, rfl, hr, ur, mr, hd, ud, md, hg, ug, mg, hi1, ui, mi⟩ := CodeT.form hc
  obtain rfl := InsT.form hx
  unfold maxLen at mr md mg mi
  clear hr hd hg hi1 hc hx
  have HV : Hid (insOk (codeD c) c.instrs.length x = decide (x.a = 0)) := by
    show _ = _
    have d1 : decide (1 ≤ x.op ∧ x.op ≤ 30) = true := decide_eq_true ⟨h0, h1⟩
    have d2 : decide (0 ≤ x.line) = true := decide_eq_true h2
    have hl : leafOk (codeD c) x.op x.a = decide (x.a = 0) := by rw [leafOk, if_neg n1, if_neg n5, if_neg n6, if_neg n7, if_neg n8, if_neg n9, if_neg n10]
    rw [insOk, d1, d2, insText, if_neg n2, if_neg n3, decide_eq_true hs, insB, if_neg n11, if_neg n12, decide_eq_true hb, insA, if_neg (by rw [k]; decide), if_neg n11, hl]
    rfl
  have f2 : (x.op != 2) = true := by simp; omega
  have f3 : (x.op != 3) = true := by simp; omega
  have i1 := eEmpty hs
  have f11 : (x.op != 11) = true := by simp; omega
  have f12 : (x.op != 12) = true := by simp; omega
  have fb : (x.b != 0) = false := by simp [hb]
  have HJ := Lib.hid k
  have e1 : (x.op == 1) = false := by simp; omega
  have e10 : (x.op == 10) = false := by simp; omega
  have e2 : (x.op == 2) = false := by simp; omega
  have e3 : (x.op == 3) = false := by simp; omega
  have e5 : (x.op == 5) = false := by simp; omega
  have e6 : (x.op == 6) = false := by simp; omega
  have e7 : (x.op == 7) = false := by simp; omega
  have e8 : (x.op == 8) = false := by simp; omega
  have e9 : (x.op == 9) = false := by simp; omega
  have e11 : (x.op == 11) = false := by simp; omega
  have e12 : (x.op == 12) = false := by simp; omega
  clear k hs hb
  go_enter Tryz.func83, Tryz.ntmps83
  go_wp2_with fail
  refine (spec_l28Jumps x.op _).mono ?_; rw [HJ.out]; rintro e w1 ⟨rfl, rfl⟩
  go_wp2_with fail
  go_ret
  exact ⟨ret_bool HV.out.symm, (((Below.refl _ _).alloc (Nat.le_refl _) _).alloc (by simp) _).alloc (by simp; omega) _⟩
set_option maxRecDepth 100000 in
set_option maxHeartbeats 2000000 in
theorem l28_12 (c : CodeT) (x : InsT) (h0 : 1 ≤ x.op) (h1 : x.op ≤ 30) (h2 : 0 ≤ x.line) (k : x.op = 12) (hs : x.text.size = 0) : InsOk 83 c x := by
  intro vc vx w lo hi lo' hi' hc hx ht
  obtain ⟨Aroutines, nroutines, Arecords, nrecords, Aglobals, nglobals, Ainstrs, ninstrs, rfl, hr, ur, mr, hd, ud, md, hg, ug, mg, hi1, ui, mi⟩ := CodeT.form hc
  obtain rfl := InsT.form hx
  unfold maxLen at mr md mg mi
  clear hr hd hg hi1 hc hx
  have HV : Hid (insOk (codeD c) c.instrs.length x = (decide (x.a = 0) && inB x.b 1 9)) := by
    show _ = _
    have d1 : decide (1 ≤ x.op ∧ x.op ≤ 30) = true := decide_eq_true ⟨h0, h1⟩
    have d2 : decide (0 ≤ x.line) = true := decide_eq_true h2
    have hl : leafOk (codeD c) x.op x.a = decide (x.a = 0) := by rw [k]; rfl
    rw [insOk, d1, d2, insText, if_neg (by omega), if_neg (by omega), decide_eq_true hs, insB, if_neg (by omega), if_pos k, insA, if_neg (by rw [k]; decide), if_neg (by omega), hl]
    cases decide (x.a = 0) <;> cases inB x.b 1 9 <;> rfl
  have f2 : (x.op != 2) = true := by simp; omega
  have f3 : (x.op != 3) = true := by simp; omega
  have i1 := eEmpty hs
  have f11 : (x.op != 11) = true := by simp; omega
  have f12 : (x.op != 12) = false := by simp [k]
  have HJ : Hid (jumpB x.op = false) := by show _ = _; rw [k]; rfl
  have e1 : (x.op == 1) = false := by simp; omega
  have e10 : (x.op == 10) = false := by simp; omega
  have e2 : (x.op == 2) = false := by simp; omega
  have e3 : (x.op == 3) = false := by simp; omega
  have e5 : (x.op == 5) = false := by simp; omega
  have e6 : (x.op == 6) = false := by simp; omega
  have e7 : (x.op == 7) = false := by simp; omega
  have e8 : (x.op == 8) = false := by simp; omega
  have e9 : (x.op == 9) = false := by simp; omega
  have e11 : (x.op == 11) = false := by simp; omega
  have e12 : (x.op == 12) = true := by simp [k]
  have ka : 12 ≤ x.op := by omega
  have kb : x.op ≤ 12 := by omega
  clear k hs
  by_cases a0 : x.a = 0
  · have ea : (x.a == 0) = true := by simp [a0]
    have HW : Hid (insOk (codeD c) c.instrs.length x = inB x.b 1 9) := by show _ = _; rw [HV.out, decide_eq_true a0]; rfl
    clear a0
    go_enter Tryz.func83, Tryz.ntmps83
    go_wp2_with fail
    refine (spec_l28Jumps x.op _).mono ?_; rw [HJ.out]; rintro e w1 ⟨rfl, rfl⟩
    go_wp2_with fail
    refine (spec_l1In x.b 1 9 _).mono ?_; rintro e w2 ⟨rfl, rfl⟩
    go_wp2_with fail
    go_ret
    exact ⟨ret_bool HW.out.symm, (((Below.refl _ _).alloc (Nat.le_refl _) _).alloc (by simp) _).alloc (by simp; omega) _⟩
  · have ea : (x.a == 0) = false := by simpa using a0
    have HW : Hid (insOk (codeD c) c.instrs.length x = false) := by show _ = _; rw [HV.out, decide_eq_false a0]; rfl
    clear a0
    go_enter Tryz.func83, Tryz.ntmps83
    go_wp2_with fail
    refine (spec_l28Jumps x.op _).mono ?_; rw [HJ.out]; rintro e w1 ⟨rfl, rfl⟩
    go_wp2_with fail
    go_ret
    exact ⟨ret_bool HW.out.symm, (((Below.refl _ _).alloc (Nat.le_refl _) _).alloc (by simp) _).alloc (by simp; omega) _⟩
set_option maxRecDepth 100000 in
set_option maxHeartbeats 2000000 in
theorem l28_2 (c : CodeT) (x : InsT) (h0 : 1 ≤ x.op) (h1 : x.op ≤ 30) (h2 : 0 ≤ x.line) (k : x.op = 2) (hb : x.b = 0) : InsOk 83 c x := by
  intro vc vx w lo hi lo' hi' hc hx ht
  obtain ⟨Aroutines, nroutines, Arecords, nrecords, Aglobals, nglobals, Ainstrs, ninstrs, rfl, hr, ur, mr, hd, ud, md, hg, ug, mg, hi1, ui, mi⟩ := CodeT.form hc
  obtain rfl := InsT.form hx
  unfold maxLen at mr md mg mi
  clear hr hd hg hi1 hc hx
  have HV : Hid (insOk (codeD c) c.instrs.length x = (decide (x.text.size ≤ 120) && decide (x.a = 0))) := by
    show _ = _
    have d1 : decide (1 ≤ x.op ∧ x.op ≤ 30) = true := decide_eq_true ⟨h0, h1⟩
    have d2 : decide (0 ≤ x.line) = true := decide_eq_true h2
    have hl : leafOk (codeD c) x.op x.a = decide (x.a = 0) := by rw [k]; rfl
    rw [insOk, d1, d2, insText, if_pos k, insB, if_neg (by omega), if_neg (by omega), decide_eq_true hb, insA, if_neg (by rw [k]; decide), if_neg (by omega), hl]
    cases decide (x.a = 0) <;> cases decide (x.text.size ≤ 120) <;> rfl
  have f2 : (x.op != 2) = false := by simp [k]
  have f11 : (x.op != 11) = true := by simp; omega
  have f12 : (x.op != 12) = true := by simp; omega
  have fb : (x.b != 0) = false := by simp [hb]
  have HJ : Hid (jumpB x.op = false) := by show _ = _; rw [k]; rfl
  have e1 : (x.op == 1) = false := by simp; omega
  have e10 : (x.op == 10) = false := by simp; omega
  have e2 : (x.op == 2) = true := by simp [k]
  have ka : 2 ≤ x.op := by omega
  have kb : x.op ≤ 2 := by omega
  clear k hb
  by_cases s1 : x.text.size ≤ 120
  · have HW : Hid (insOk (codeD c) c.instrs.length x = decide (x.a = 0)) := by show _ = _; rw [HV.out, decide_eq_true s1]; rfl
    go_enter Tryz.func83, Tryz.ntmps83
    go_wp2_with fail
    refine (spec_l28Jumps x.op _).mono ?_; rw [HJ.out]; rintro e w1 ⟨rfl, rfl⟩
    go_wp2_with fail
    go_ret
    exact ⟨ret_bool HW.out.symm, (((Below.refl _ _).alloc (Nat.le_refl _) _).alloc (by simp) _).alloc (by simp; omega) _⟩
  · have HW : Hid (insOk (codeD c) c.instrs.length x = false) := by show _ = _; rw [HV.out, decide_eq_false s1]; rfl
    go_enter Tryz.func83, Tryz.ntmps83
    go_wp2_with fail
    refine (spec_l28Jumps x.op _).mono ?_; rw [HJ.out]; rintro e w1 ⟨rfl, rfl⟩
    go_wp2_with fail
    go_ret
    exact ⟨ret_bool HW.out.symm, (((Below.refl _ _).alloc (Nat.le_refl _) _).alloc (by simp) _).alloc (by simp; omega) _⟩
set_option maxRecDepth 100000 in
set_option maxHeartbeats 2000000 in
theorem l28_11 (c : CodeT) (x : InsT) (h0 : 1 ≤ x.op) (h1 : x.op ≤ 30) (h2 : 0 ≤ x.line) (k : x.op = 11) (hs : x.text.size = 0) : InsOk 83 c x := by
  intro vc vx w lo hi lo' hi' hc hx ht
  obtain ⟨Aroutines, nroutines, Arecords, nrecords, Aglobals, nglobals, Ainstrs, ninstrs, rfl, hr, ur, mr, hd, ud, md, hg, ug, mg, hi1, ui, mi⟩ := CodeT.form hc
  obtain rfl := InsT.form hx
  unfold maxLen at mr md mg mi
  clear hr hd hg hi1 hc hx
  have HV : Hid (insOk (codeD c) c.instrs.length x = decide (arityLo x.a ≤ x.b ∧ x.b ≤ arityHi x.a)) := by
    show _ = _
    have d1 : decide (1 ≤ x.op ∧ x.op ≤ 30) = true := decide_eq_true ⟨h0, h1⟩
    have d2 : decide (0 ≤ x.line) = true := decide_eq_true h2
    rw [insOk, d1, d2, insText, if_neg (by omega), if_neg (by omega), decide_eq_true hs, insB, if_pos k, insA, if_neg (by rw [k]; decide), if_pos k]
    cases decide (arityLo x.a ≤ x.b ∧ x.b ≤ arityHi x.a) <;> rfl
  have f2 : (x.op != 2) = true := by simp; omega
  have f3 : (x.op != 3) = true := by simp; omega
  have i1 := eEmpty hs
  have f11 : (x.op != 11) = false := by simp [k]
  have HJ : Hid (jumpB x.op = false) := by show _ = _; rw [k]; rfl
  have e1 : (x.op == 1) = false := by simp; omega
  have e10 : (x.op == 10) = false := by simp; omega
  have e2 : (x.op == 2) = false := by simp; omega
  have e3 : (x.op == 3) = false := by simp; omega
  have e5 : (x.op == 5) = false := by simp; omega
  have e6 : (x.op == 6) = false := by simp; omega
  have e7 : (x.op == 7) = false := by simp; omega
  have e8 : (x.op == 8) = false := by simp; omega
  have e9 : (x.op == 9) = false := by simp; omega
  have e11 : (x.op == 11) = true := by simp [k]
  have ka : 11 ≤ x.op := by omega
  have kb : x.op ≤ 11 := by omega
  clear k hs
  by_cases g1 : arityLo x.a ≤ x.b
  · by_cases g2 : x.b ≤ arityHi x.a
    · have HW : Hid (insOk (codeD c) c.instrs.length x = true) := by show _ = _; rw [HV.out, decide_eq_true ⟨g1, g2⟩]
      have g3 : decide (x.b ≤ arityHi x.a) = true := decide_eq_true g2
      go_enter Tryz.func83, Tryz.ntmps83
      go_wp2_with fail
      refine (spec_l28Jumps x.op _).mono ?_; rw [HJ.out]; rintro e w1 ⟨rfl, rfl⟩
      go_wp2_with fail
      refine (spec_OperatorArity x.a _).mono ?_; rintro e w2 ⟨rfl, hb2⟩
      have a1 := (((Blk.newAt (w.alloc (.cells #[.slice Aroutines c.routines.length nroutines, .slice Arecords c.records.length nrecords, .slice Aglobals c.globals.length nglobals, .int .i64 c.main, .slice Ainstrs c.instrs.length ninstrs] 34)) 79 #[.int .i64 x.op, .int .i64 x.a, .int .i64 x.b, .int .i64 x.line, .string x.text] (w.heap.size + 1) (by simp)).alloc _).later hb2)
      have ca := a1.cell
      have la := a1.lt
      go_wp2_with fail
      go_ret
      exact ⟨ret_bool HW.out.symm, ((((Below.refl _ _).alloc (Nat.le_refl _) _).alloc (by simp) _).alloc (by simp; omega) _).trans (hb2.mono (by simp; omega))⟩
    · have HW : Hid (insOk (codeD c) c.instrs.length x = false) := by show _ = _; rw [HV.out, decide_eq_false (fun e => g2 e.2)]
      have g3 : decide (x.b ≤ arityHi x.a) = false := decide_eq_false g2
      go_enter Tryz.func83, Tryz.ntmps83
      go_wp2_with fail
      refine (spec_l28Jumps x.op _).mono ?_; rw [HJ.out]; rintro e w1 ⟨rfl, rfl⟩
      go_wp2_with fail
      refine (spec_OperatorArity x.a _).mono ?_; rintro e w2 ⟨rfl, hb2⟩
      have a1 := (((Blk.newAt (w.alloc (.cells #[.slice Aroutines c.routines.length nroutines, .slice Arecords c.records.length nrecords, .slice Aglobals c.globals.length nglobals, .int .i64 c.main, .slice Ainstrs c.instrs.length ninstrs] 34)) 79 #[.int .i64 x.op, .int .i64 x.a, .int .i64 x.b, .int .i64 x.line, .string x.text] (w.heap.size + 1) (by simp)).alloc _).later hb2)
      have ca := a1.cell
      have la := a1.lt
      go_wp2_with fail
      go_ret
      exact ⟨ret_bool HW.out.symm, ((((Below.refl _ _).alloc (Nat.le_refl _) _).alloc (by simp) _).alloc (by simp; omega) _).trans (hb2.mono (by simp; omega))⟩
  · have HW : Hid (insOk (codeD c) c.instrs.length x = false) := by show _ = _; rw [HV.out, decide_eq_false (fun e => g1 e.1)]
    go_enter Tryz.func83, Tryz.ntmps83
    go_wp2_with fail
    refine (spec_l28Jumps x.op _).mono ?_; rw [HJ.out]; rintro e w1 ⟨rfl, rfl⟩
    go_wp2_with fail
    refine (spec_OperatorArity x.a _).mono ?_; rintro e w2 ⟨rfl, hb2⟩
    have a1 := (((Blk.newAt (w.alloc (.cells #[.slice Aroutines c.routines.length nroutines, .slice Arecords c.records.length nrecords, .slice Aglobals c.globals.length nglobals, .int .i64 c.main, .slice Ainstrs c.instrs.length ninstrs] 34)) 79 #[.int .i64 x.op, .int .i64 x.a, .int .i64 x.b, .int .i64 x.line, .string x.text] (w.heap.size + 1) (by simp)).alloc _).later hb2)
    have ca := a1.cell
    have la := a1.lt
    go_wp2_with fail
    go_ret
    exact ⟨ret_bool HW.out.symm, ((((Below.refl _ _).alloc (Nat.le_refl _) _).alloc (by simp) _).alloc (by simp; omega) _).trans (hb2.mono (by simp; omega))⟩
set_option maxRecDepth 100000 in
set_option maxHeartbeats 2000000 in
theorem l28_1 (c : CodeT) (x : InsT) (h0 : 1 ≤ x.op) (h1 : x.op ≤ 30) (h2 : 0 ≤ x.line) (k : x.op = 1) (hs : x.text.size = 0) (hb : x.b = 0) : InsOk 83 c x := by
  intro vc vx w lo hi lo' hi' hc hx ht
  obtain ⟨Aroutines, nroutines, Arecords, nrecords, Aglobals, nglobals, Ainstrs, ninstrs, rfl, hr, ur, mr, hd, ud, md, hg, ug, mg, hi1, ui, mi⟩ := CodeT.form hc
  obtain rfl := InsT.form hx
  unfold maxLen at mr md mg mi
  clear hr hd hg hi1 hc hx
  have HV : Hid (insOk (codeD c) c.instrs.length x = leafOk ⟨0, 0, 0, 0⟩ x.op x.a) := by
    show _ = _
    have d1 : decide (1 ≤ x.op ∧ x.op ≤ 30) = true := decide_eq_true ⟨h0, h1⟩
    have d2 : decide (0 ≤ x.line) = true := decide_eq_true h2
    rw [insOk, d1, d2, insText, if_neg (by omega), if_neg (by omega), decide_eq_true hs, insB, if_neg (by omega), if_neg (by omega), decide_eq_true hb, insA, if_neg (by rw [k]; decide), if_neg (by omega), k]
    rfl
  have f2 : (x.op != 2) = true := by simp; omega
  have f3 : (x.op != 3) = true := by simp; omega
  have i1 := eEmpty hs
  have f11 : (x.op != 11) = true := by simp; omega
  have f12 : (x.op != 12) = true := by simp; omega
  have fb : (x.b != 0) = false := by simp [hb]
  have HJ : Hid (jumpB x.op = false) := by show _ = _; rw [k]; rfl
  have e1 : (x.op == 1) = true := by simp [k]
  have ka : 1 ≤ x.op := by omega
  have kb : x.op ≤ 1 := by omega
  clear k hs hb
  have HL : Hid (∀ W, Calls Tryz.prog 112 #[.agg #[.slice none 0 0, .slice none 0 0, .slice none 0 0, .int .i64 0], .int .i64 0, .agg #[.int .i64 x.op, .int .i64 0, .int .i64 x.a, .int .i64 0, .string ⟨#[]⟩, .slice none 0 0]] W fun e w' => e = .returned (.bool (leafOk ⟨0, 0, 0, 0⟩ x.op x.a)) ∧ Below W.heap.size W w') :=
    fun W => spec_l10Leaf ⟨0, 0, 0, 0⟩ none none none 0 0 0 0 _ (.mk x.op 0 x.a 0 ⟨#[]⟩ []) W 0 0 (leaf_rep W x.op x.a) (by decide) (by decide) (by decide) (by decide)
  go_enter Tryz.func83, Tryz.ntmps83
  go_wp2_with fail
  refine (spec_l28Jumps x.op _).mono ?_; rw [HJ.out]; rintro e w1 ⟨rfl, rfl⟩
  go_wp2_with fail
  refine (HL.out _).mono ?_; rintro e w2 ⟨rfl, hb2⟩
  go_wp2_with fail
  go_ret
  exact ⟨ret_bool HV.out.symm, ((((Below.refl _ _).alloc (Nat.le_refl _) _).alloc (by simp) _).alloc (by simp; omega) _).trans (hb2.mono (by simp; omega))⟩
set_option maxRecDepth 100000 in
set_option maxHeartbeats 2000000 in
theorem l28_10 (c : CodeT) (x : InsT) (h0 : 1 ≤ x.op) (h1 : x.op ≤ 30) (h2 : 0 ≤ x.line) (k : x.op = 10) (hs : x.text.size = 0) (hb : x.b = 0) : InsOk 83 c x := by
  intro vc vx w lo hi lo' hi' hc hx ht
  obtain ⟨Aroutines, nroutines, Arecords, nrecords, Aglobals, nglobals, Ainstrs, ninstrs, rfl, hr, ur, mr, hd, ud, md, hg, ug, mg, hi1, ui, mi⟩ := CodeT.form hc
  obtain rfl := InsT.form hx
  unfold maxLen at mr md mg mi
  clear hr hd hg hi1 hc hx
  have HV : Hid (insOk (codeD c) c.instrs.length x = leafOk ⟨0, 0, 0, 0⟩ x.op x.a) := by
    show _ = _
    have d1 : decide (1 ≤ x.op ∧ x.op ≤ 30) = true := decide_eq_true ⟨h0, h1⟩
    have d2 : decide (0 ≤ x.line) = true := decide_eq_true h2
    rw [insOk, d1, d2, insText, if_neg (by omega), if_neg (by omega), decide_eq_true hs, insB, if_neg (by omega), if_neg (by omega), decide_eq_true hb, insA, if_neg (by rw [k]; decide), if_neg (by omega), k]
    rfl
  have f2 : (x.op != 2) = true := by simp; omega
  have f3 : (x.op != 3) = true := by simp; omega
  have i1 := eEmpty hs
  have f11 : (x.op != 11) = true := by simp; omega
  have f12 : (x.op != 12) = true := by simp; omega
  have fb : (x.b != 0) = false := by simp [hb]
  have HJ : Hid (jumpB x.op = false) := by show _ = _; rw [k]; rfl
  have e1 : (x.op == 1) = false := by simp; omega
  have e10 : (x.op == 10) = true := by simp [k]
  have ka : 10 ≤ x.op := by omega
  have kb : x.op ≤ 10 := by omega
  clear k hs hb
  have HL : Hid (∀ W, Calls Tryz.prog 112 #[.agg #[.slice none 0 0, .slice none 0 0, .slice none 0 0, .int .i64 0], .int .i64 0, .agg #[.int .i64 x.op, .int .i64 0, .int .i64 x.a, .int .i64 0, .string ⟨#[]⟩, .slice none 0 0]] W fun e w' => e = .returned (.bool (leafOk ⟨0, 0, 0, 0⟩ x.op x.a)) ∧ Below W.heap.size W w') :=
    fun W => spec_l10Leaf ⟨0, 0, 0, 0⟩ none none none 0 0 0 0 _ (.mk x.op 0 x.a 0 ⟨#[]⟩ []) W 0 0 (leaf_rep W x.op x.a) (by decide) (by decide) (by decide) (by decide)
  go_enter Tryz.func83, Tryz.ntmps83
  go_wp2_with fail
  refine (spec_l28Jumps x.op _).mono ?_; rw [HJ.out]; rintro e w1 ⟨rfl, rfl⟩
  go_wp2_with fail
  refine (HL.out _).mono ?_; rintro e w2 ⟨rfl, hb2⟩
  go_wp2_with fail
  go_ret
  exact ⟨ret_bool HV.out.symm, ((((Below.refl _ _).alloc (Nat.le_refl _) _).alloc (by simp) _).alloc (by simp; omega) _).trans (hb2.mono (by simp; omega))⟩
set_option maxRecDepth 100000 in
set_option maxHeartbeats 2000000 in
theorem l28_3 (c : CodeT) (x : InsT) (h0 : 1 ≤ x.op) (h1 : x.op ≤ 30) (h2 : 0 ≤ x.line) (k : x.op = 3) (hb : x.b = 0) : InsOk 83 c x := by
  intro vc vx w lo hi lo' hi' hc hx ht
  obtain ⟨Aroutines, nroutines, Arecords, nrecords, Aglobals, nglobals, Ainstrs, ninstrs, rfl, hr, ur, mr, hd, ud, md, hg, ug, mg, hi1, ui, mi⟩ := CodeT.form hc
  obtain rfl := InsT.form hx
  unfold maxLen at mr md mg mi
  clear hr hd hg hi1 hc hx
  have HV : Hid (insOk (codeD c) c.instrs.length x = (csetOk x.text && decide (x.a = 0))) := by
    show _ = _
    have d1 : decide (1 ≤ x.op ∧ x.op ≤ 30) = true := decide_eq_true ⟨h0, h1⟩
    have d2 : decide (0 ≤ x.line) = true := decide_eq_true h2
    have hl : leafOk (codeD c) x.op x.a = decide (x.a = 0) := by rw [k]; rfl
    rw [insOk, d1, d2, insText, if_neg (by omega), if_pos k, insB, if_neg (by omega), if_neg (by omega), decide_eq_true hb, insA, if_neg (by rw [k]; decide), if_neg (by omega), hl]
    cases decide (x.a = 0) <;> cases csetOk x.text <;> rfl
  have f2 : (x.op != 2) = true := by simp; omega
  have f3 : (x.op != 3) = false := by simp [k]
  have f11 : (x.op != 11) = true := by simp; omega
  have f12 : (x.op != 12) = true := by simp; omega
  have fb : (x.b != 0) = false := by simp [hb]
  have HJ : Hid (jumpB x.op = false) := by show _ = _; rw [k]; rfl
  have e1 : (x.op == 1) = false := by simp; omega
  have e10 : (x.op == 10) = false := by simp; omega
  have e2 : (x.op == 2) = false := by simp; omega
  have e3 : (x.op == 3) = true := by simp [k]
  have ka : 3 ≤ x.op := by omega
  have kb : x.op ≤ 3 := by omega
  clear k hb
  go_enter Tryz.func83, Tryz.ntmps83
  go_wp2_with fail
  refine (spec_l28Jumps x.op _).mono ?_; rw [HJ.out]; rintro e w1 ⟨rfl, rfl⟩
  go_wp2_with fail
  refine (spec_NewCset x.text _ (by omega)).mono ?_; unfold CsetPair; rintro e w3 ⟨rfl, hb3⟩
  have a3 := (((Blk.newAt (w.alloc (.cells #[.slice Aroutines c.routines.length nroutines, .slice Arecords c.records.length nrecords, .slice Aglobals c.globals.length nglobals, .int .i64 c.main, .slice Ainstrs c.instrs.length ninstrs] 34)) 79 #[.int .i64 x.op, .int .i64 x.a, .int .i64 x.b, .int .i64 x.line, .string x.text] (w.heap.size + 1) (by simp)).alloc _).later hb3)
  have hw3 : Below w.heap.size w w3 := ((((Below.refl _ _).alloc (Nat.le_refl _) _).alloc (by simp) _).alloc (by simp; omega) _).trans (hb3.mono (by simp; omega))
  cases hA : asciiB x.text with
  | false =>
    have HW : Hid (insOk (codeD c) c.instrs.length x = false) := by show _ = _; rw [HV.out, cset_ascii hA]; rfl
    clear hA
    have ca := a3.cell
    have la := a3.lt
    unfold CsetT.val
    go_wp2_with fail
    go_quiet (fail)
    go_wp2_with fail
    go_ret
    exact ⟨ret_bool HW.out.symm, (hw3.alloc hw3.size _).trans ⟨rfl, rfl, rfl, Nat.le_refl _, fun _ _ => rfl⟩⟩
  | true =>
    obtain ⟨sv, hsv⟩ : ∃ sv, newCset x.text = sv := ⟨_, rfl⟩
    have hsm := cset_same x.text hA
    rw [hsv] at hsm ⊢
    clear hA hsv
    have a4 := a3.alloc (.cells #[.int .i64 sv.lo.toInt, .int .i64 sv.hi.toInt] 148)
    have b4 := Blk.new w3 148 #[.int .i64 sv.lo.toInt, .int .i64 sv.hi.toInt]
    have hw4 : Below w.heap.size w (w3.alloc (.cells #[.int .i64 sv.lo.toInt, .int .i64 sv.hi.toInt] 148)) := hw3.alloc hw3.size _
    have ca := a4.cell
    have cb := b4.cell
    have la := a4.lt
    unfold CsetT.val
    by_cases hE : csetText sv = x.text
    · have HW : Hid (insOk (codeD c) c.instrs.length x = decide (x.a = 0)) := by show _ = _; rw [HV.out, hsm.1 hE]; rfl
      have HT : Hid (∀ W, Calls Tryz.prog 114 #[.agg #[.int .i64 sv.lo.toInt, .int .i64 sv.hi.toInt]] W fun e w' => e = .returned (.string x.text) ∧ Below W.heap.size W w') := fun W => by have := spec_CsetText sv W; rw [hE] at this; exact this
      have f1 := str_eq x.text
      clear hsm hE
      go_upto_region 14 with (fail)
      generalize w3.alloc (.cells #[.int .i64 sv.lo.toInt, .int .i64 sv.hi.toInt] 148) = w5 at a4 b4 hw4 ca cb la ⊢
      go_region_with (first
          | (go_at_call 114; refine (HT.out _).mono ?_; rintro e w6 ⟨rfl, hb6⟩; have ca6 := (a4.drew.later hb6).cell; have la6 := (a4.drew.later hb6).lt))
      all_goals
        have hw6 : Below w.heap.size w w6 := hw4.drew.trans (hb6.mono hw4.size)
        go_wp2_with fail
        go_ret
        exact ⟨ret_bool HW.out.symm, hw6⟩
    · have HW : Hid (insOk (codeD c) c.instrs.length x = false) := by show _ = _; rw [HV.out]; cases hq : csetOk x.text with | false => rfl | true => exact absurd (hsm.2 hq) hE
      obtain ⟨t, ht⟩ : ∃ t, csetText sv = t := ⟨_, rfl⟩
      have HT : Hid (∀ W, Calls Tryz.prog 114 #[.agg #[.int .i64 sv.lo.toInt, .int .i64 sv.hi.toInt]] W fun e w' => e = .returned (.string t) ∧ Below W.heap.size W w') := fun W => by have := spec_CsetText sv W; rw [ht] at this; exact this
      have f1 := str_ne (show ¬ t = x.text by rw [← ht]; exact hE)
      clear hsm hE ht
      go_upto_region 14 with (fail)
      generalize w3.alloc (.cells #[.int .i64 sv.lo.toInt, .int .i64 sv.hi.toInt] 148) = w5 at a4 b4 hw4 ca cb la ⊢
      first
        | go_region_with (first
            | (go_at_call 114; refine (HT.out _).mono ?_; rintro e w6 ⟨rfl, hb6⟩; have ca6 := (a4.drew.later hb6).cell; have la6 := (a4.drew.later hb6).lt))
        | fail
      all_goals
        have hw6 : Below w.heap.size w w6 := hw4.drew.trans (hb6.mono hw4.size)
        go_wp2_with fail
        go_ret
        exact ⟨ret_bool HW.out.symm, hw6⟩
theorem spec_l28Instr (c : CodeT) (x : InsT) : InsOk 83 c x := by
  by_cases a0 : x.op < 1
  · exact l28_lo c x a0
  by_cases a1 : 30 < x.op
  · exact l28_hi c x a1
  have h0 : 1 ≤ x.op := by omega
  have h1 : x.op ≤ 30 := by omega
  by_cases a2 : x.line < 0
  · exact l28_line c x h0 h1 a2
  have h2 : 0 ≤ x.line := by omega
  by_cases n2 : x.op = 2
  · by_cases hb : x.b = 0
    · exact l28_2 c x h0 h1 h2 n2 hb
    · exact l28_b2 c x h0 h1 h2 n2 hb
  by_cases n3 : x.op = 3
  · by_cases hb : x.b = 0
    · exact l28_3 c x h0 h1 h2 n3 hb
    · exact l28_b3 c x h0 h1 h2 n3 hb
  by_cases hs : x.text.size = 0
  · by_cases n11 : x.op = 11
    · exact l28_11 c x h0 h1 h2 n11 hs
    by_cases n12 : x.op = 12
    · exact l28_12 c x h0 h1 h2 n12 hs
    by_cases hb : x.b = 0
    · cases hj : jumpB x.op with
      | true => exact l28_jump c x h0 h1 h2 hj hs hb
      | false =>
      by_cases n1 : x.op = 1
      · exact l28_1 c x h0 h1 h2 n1 hs hb
      by_cases n10 : x.op = 10
      · exact l28_10 c x h0 h1 h2 n10 hs hb
      by_cases n5 : x.op = 5
      · exact l28_5 c x h0 h1 h2 n5 hs hb
      by_cases n6 : x.op = 6
      · exact l28_6 c x h0 h1 h2 n6 hs hb
      by_cases n7 : x.op = 7
      · exact l28_7 c x h0 h1 h2 n7 hs hb
      by_cases n8 : x.op = 8
      · exact l28_8 c x h0 h1 h2 n8 hs hb
      by_cases n9 : x.op = 9
      · exact l28_9 c x h0 h1 h2 n9 hs hb
      exact l28_other c x h0 h1 h2 hj n1 n10 n2 n3 n5 n6 n7 n8 n9 n11 n12 hs hb
    · exact l28_bo c x h0 h1 h2 n2 n3 n11 n12 hs hb
  · exact l28_text c x h0 h1 h2 n2 n3 hs
end Go.Proofs.YtekobbeoaalibaaGreatDoor
