/- Qb of the program. -/
import Derived.Test.YtoddlphekcihgaaGreatDoorQ06
import Derived.Test.YtoddlphekcihgaaGreatDoorQ10
set_option maxRecDepth 100000
set_option maxHeartbeats 8000000
set_option linter.unusedVariables false
set_option linter.unusedSimpArgs false
namespace Go.Proofs.YtoddlphekcihgaaGreatDoor
open Go.RowKit
def rH (a n : Int) : Bool := decide (0 ≤ a) && decide (a < n)
theorem pY (n a : Int) (b : Nat) (t : TypeId) (cs : Array Value) (w : World) (hb : Blk w b t cs) (hc : cs[1]? = some (.int .i64 a)) :
 Calls Tryz.prog 134 #[.int .i64 n, .pointer (some ⟨b, 0, none⟩)] w fun e w' => e = .returned (.bool (rH a n)) ∧ w = w' := by
 have ca : w.cell? ⟨b, 1, none⟩ = some (.int .i64 a) := by rw [hb.cell, hc]
 have la := hb.lt
 go_enter Tryz.func134, Tryz.ntmps134
 go_wp2_with fail
 all_goals
  go_ret
  exact ⟨ah (by unfold rH; rw [Bool.eq_iff_iff]; simp; try omega), rfl⟩
def mU (c : dK) (x : eO) : Prop := ∀ (vc vx : Value) (w : World) (lo hi lo' hi' : Nat), fA w lo hi dK.ay vc c → fA w lo' hi' eO.ay vx x → x.text.size ≤ 1048576 → iw w →
 Calls Tryz.prog 93 #[vc, vx] w fun e w' => e = .returned (.bool (fK (gL c) c.av.length x)) ∧ Below w.heap.size w w'
theorem nU (s : ByteArray) : s.toList.isEmpty = decide (s.size = 0) := by
 by_cases h : s.size = 0
 ·rw [gY h, dT h]
 ·rw [lW h, dF h]
theorem nV {d : WdT} {n : Nat} {x : eO} {A B T : Bool} (h0 : 1 ≤ x.op) (h1 : x.op ≤ 30) (h2 : 0 ≤ x.line) (hT : iq x = T) (hB : pZ x = B) (hA : qy d n x = A) : fK d n x = ((A && B) && T) := by
 rw [fK, dT (⟨h0, h1⟩ : 1 ≤ x.op ∧ x.op ≤ 30), dT h2, hT, hB, hA]
 cases A <;> cases B <;> cases T <;> rfl
theorem rC (a n : Int) : inB a 0 (n - 1) = rH a n := by
 unfold inB rH
 congr 1
 rw [Bool.eq_iff_iff, decide_eq_true_eq, decide_eq_true_eq]; omega
theorem Qc (a : Int) : inB a 1 2 = (decide (a = 1) || decide (a = 2)) := by
 unfold inB
 rw [Bool.eq_iff_iff]
 simp only [Bool.and_eq_true, Bool.or_eq_true, decide_eq_true_eq]; omega
theorem Oa {lo hi b : Int} {T : Bool} : ((true && decide (lo ≤ b ∧ b ≤ hi)) && T) = ((decide (lo ≤ hi) && (decide (lo ≤ b) && decide (b ≤ hi))) && T) := by
 congr 1
 rw [Bool.eq_iff_iff]
 simp only [Bool.and_eq_true, Bool.true_and, decide_eq_true_eq]; omega
theorem UO (c : dK) (x : eO) (k : x.op = 1) (h2 : 0 ≤ x.line) : mU c x := by
 intro vc vx w lo hi lo' hi' hc hx ht hst
 obtain ⟨bT, bI, bE, aY, bH, aZ, dS, dN, rfl, hr, ur, mr, hd, ud, md, hg, ug, mg, hi1, ui, mi⟩ := dK.form hc
 obtain rfl := eO.form hx
 unfold maxLen at mr md mg mi
 clear hr hd hg hi1 hc hx
 have HV : Hid (fK (gL c) c.av.length x = (((decide (-999999999999 ≤ x.a) && decide (x.a ≤ 999999999999)) && decide (x.b = 0)) && decide (x.text.size = 0))) := by
  show _ = _
  exact nV (by omega) (by omega) h2 (by rw [iq, k]; rfl) (by rw [pZ, k]; rfl) (by rw [qy, k]; rfl)
 have hmf := @nF Tryz.prog
 have HE := lH (nU x.text)
 rw [k]
 clear k
 go_enter Tryz.func93, Tryz.ntmps93
 go_wp2_with fail
 all_goals
  refine (fO 1 _).mono ?_; rw [show lg 1 = false from rfl]; rintro e w1 ⟨rfl, rfl⟩
  go_wp2_with fail
 all_goals
  go_ret
  refine ⟨ah ?_, (bA _ _).alloc (by simp) _⟩
  rw [HV.out]
  first | (rw [HE.out]; simp [*]; done) | (simp [*]; done) | (rw [HE.out]; simp [*]; omega) | (simp [*]; omega)
theorem UQ (c : dK) (x : eO) (k : x.op = 2) (h2 : 0 ≤ x.line) : mU c x := by
 intro vc vx w lo hi lo' hi' hc hx ht hst
 obtain ⟨bT, bI, bE, aY, bH, aZ, dS, dN, rfl, hr, ur, mr, hd, ud, md, hg, ug, mg, hi1, ui, mi⟩ := dK.form hc
 obtain rfl := eO.form hx
 unfold maxLen at mr md mg mi
 clear hr hd hg hi1 hc hx
 have HV : Hid (fK (gL c) c.av.length x = ((decide (x.a = 0) && decide (x.b = 0)) && decide (x.text.size ≤ 120))) := by
  show _ = _
  exact nV (by omega) (by omega) h2 (by rw [iq, k]; rfl) (by rw [pZ, k]; rfl) (by rw [qy, k]; rfl)
 have hmf := @nF Tryz.prog
 have HE := lH (nU x.text)
 rw [k]
 clear k
 go_enter Tryz.func93, Tryz.ntmps93
 go_wp2_with fail
 all_goals
  refine (fO 2 _).mono ?_; rw [show lg 2 = false from rfl]; rintro e w1 ⟨rfl, rfl⟩
  go_wp2_with fail
 all_goals
  go_ret
  refine ⟨ah ?_, (bA _ _).alloc (by simp) _⟩
  rw [HV.out]
  first | (rw [HE.out]; simp [*]; done) | (simp [*]; done) | (rw [HE.out]; simp [*]; omega) | (simp [*]; omega)
theorem UR (c : dK) (x : eO) (k : x.op = 3) (h2 : 0 ≤ x.line) : mU c x := by
 intro vc vx w lo hi lo' hi' hc hx ht hst
 obtain ⟨bT, bI, bE, aY, bH, aZ, dS, dN, rfl, hr, ur, mr, hd, ud, md, hg, ug, mg, hi1, ui, mi⟩ := dK.form hc
 obtain rfl := eO.form hx
 unfold maxLen at mr md mg mi
 clear hr hd hg hi1 hc hx
 have HV : Hid (fK (gL c) c.av.length x = ((decide (x.a = 0) && decide (x.b = 0)) && uV x.text)) := by
  show _ = _
  exact nV (by omega) (by omega) h2 (by rw [iq, k]; rfl) (by rw [pZ, k]; rfl) (by rw [qy, k]; rfl)
 have hmf := @nF Tryz.prog
 have HE := lH (nU x.text)
 rw [k]
 clear k
 go_enter Tryz.func93, Tryz.ntmps93
 go_wp2_with fail
 refine (Bf x.text _ ht).mono ?_; rintro e w3 ⟨rfl, hs3⟩
 have a1 := (Blk.newAt (w.alloc (.cells #[.slice bT c.au.length bI, .slice bE c.aA.length aY, .slice bH c.aB.length aZ, .int .i64 c.main, .slice dS c.av.length dN] 47)) 146 #[.int .i64 3, .int .i64 x.a, .int .i64 x.b, .int .i64 x.line, .string x.text] (w.heap.size + 1) (by simp)).same hs3
 have hw3 : Below w.heap.size w w3 := ((bA _ _).alloc (by simp) _).trans (hs3.below w.heap.size)
 have ca := a1.cell
 have la := a1.lt
 go_wp2_with fail
 all_goals
  refine (fO 3 _).mono ?_; rw [show lg 3 = false from rfl]; rintro e w1 ⟨rfl, rfl⟩
  go_wp2_with fail
 all_goals
  go_ret
  refine ⟨ah ?_, hw3⟩
  rw [HV.out]
  first | (rw [HE.out]; simp [*]; done) | (simp [*]; done) | (rw [HE.out]; simp [*]; omega) | (simp [*]; omega)
theorem US (c : dK) (x : eO) (k : x.op = 4) (h2 : 0 ≤ x.line) : mU c x := by
 intro vc vx w lo hi lo' hi' hc hx ht hst
 obtain ⟨bT, bI, bE, aY, bH, aZ, dS, dN, rfl, hr, ur, mr, hd, ud, md, hg, ug, mg, hi1, ui, mi⟩ := dK.form hc
 obtain rfl := eO.form hx
 unfold maxLen at mr md mg mi
 clear hr hd hg hi1 hc hx
 have HV : Hid (fK (gL c) c.av.length x = ((decide (x.a = 0) && decide (x.b = 0)) && decide (x.text.size = 0))) := by
  show _ = _
  exact nV (by omega) (by omega) h2 (by rw [iq, k]; rfl) (by rw [pZ, k]; rfl) (by rw [qy, k]; rfl)
 have hmf := @nF Tryz.prog
 have HE := lH (nU x.text)
 rw [k]
 clear k
 go_enter Tryz.func93, Tryz.ntmps93
 go_wp2_with fail
 all_goals
  refine (fO 4 _).mono ?_; rw [show lg 4 = false from rfl]; rintro e w1 ⟨rfl, rfl⟩
  go_wp2_with fail
 all_goals
  go_ret
  refine ⟨ah ?_, (bA _ _).alloc (by simp) _⟩
  rw [HV.out]
  first | (rw [HE.out]; simp [*]; done) | (simp [*]; done) | (rw [HE.out]; simp [*]; omega) | (simp [*]; omega)
theorem UT (c : dK) (x : eO) (k : x.op = 5) (h2 : 0 ≤ x.line) : mU c x := by
 intro vc vx w lo hi lo' hi' hc hx ht hst
 obtain ⟨bT, bI, bE, aY, bH, aZ, dS, dN, rfl, hr, ur, mr, hd, ud, md, hg, ug, mg, hi1, ui, mi⟩ := dK.form hc
 obtain rfl := eO.form hx
 unfold maxLen at mr md mg mi
 clear hr hd hg hi1 hc hx
 have HV : Hid (fK (gL c) c.av.length x = ((rH x.a 24 && decide (x.b = 0)) && decide (x.text.size = 0))) := by
  show _ = _
  exact nV (by omega) (by omega) h2 (by rw [iq, k]; rfl) (by rw [pZ, k]; rfl) (by rw [qy, k]; exact rC x.a 24)
 have hmf := @nF Tryz.prog
 have HE := lH (nU x.text)
 rw [k]
 clear k
 go_enter Tryz.func93, Tryz.ntmps93
 go_wp2_with fail
 all_goals
  have a1 := Blk.newAt (w.alloc (.cells #[.slice bT c.au.length bI, .slice bE c.aA.length aY, .slice bH c.aB.length aZ, .int .i64 c.main, .slice dS c.av.length dN] 47)) 146 #[.int .i64 5, .int .i64 x.a, .int .i64 x.b, .int .i64 x.line, .string x.text] (w.heap.size + 1) (by simp)
  refine (pY 24 x.a _ _ _ _ a1 rfl).mono ?_; rintro e w3 ⟨rfl, rfl⟩
  go_wp2_with fail
 all_goals
  refine (fO 5 _).mono ?_; rw [show lg 5 = false from rfl]; rintro e w1 ⟨rfl, rfl⟩
  go_wp2_with fail
 all_goals
  go_ret
  refine ⟨ah ?_, (bA _ _).alloc (by simp) _⟩
  rw [HV.out]
  first | (rw [HE.out]; simp [*]; done) | (simp [*]; done) | (rw [HE.out]; simp [*]; omega) | (simp [*]; omega)
theorem UU (c : dK) (x : eO) (k : x.op = 6) (h2 : 0 ≤ x.line) : mU c x := by
 intro vc vx w lo hi lo' hi' hc hx ht hst
 obtain ⟨bT, bI, bE, aY, bH, aZ, dS, dN, rfl, hr, ur, mr, hd, ud, md, hg, ug, mg, hi1, ui, mi⟩ := dK.form hc
 obtain rfl := eO.form hx
 unfold maxLen at mr md mg mi
 clear hr hd hg hi1 hc hx
 have HV : Hid (fK (gL c) c.av.length x = ((rH x.a (c.aB.length : Int) && decide (x.b = 0)) && decide (x.text.size = 0))) := by
  show _ = _
  exact nV (by omega) (by omega) h2 (by rw [iq, k]; rfl) (by rw [pZ, k]; rfl) (by rw [qy, k]; exact rC x.a (c.aB.length : Int))
 have hmf := @nF Tryz.prog
 have HE := lH (nU x.text)
 rw [k]
 clear k
 go_enter Tryz.func93, Tryz.ntmps93
 go_wp2_with fail
 all_goals
  have a1 := Blk.newAt (w.alloc (.cells #[.slice bT c.au.length bI, .slice bE c.aA.length aY, .slice bH c.aB.length aZ, .int .i64 c.main, .slice dS c.av.length dN] 47)) 146 #[.int .i64 6, .int .i64 x.a, .int .i64 x.b, .int .i64 x.line, .string x.text] (w.heap.size + 1) (by simp)
  refine (pY (c.aB.length : Int) x.a _ _ _ _ a1 rfl).mono ?_; rintro e w3 ⟨rfl, rfl⟩
  go_wp2_with fail
 all_goals
  refine (fO 6 _).mono ?_; rw [show lg 6 = false from rfl]; rintro e w1 ⟨rfl, rfl⟩
  go_wp2_with fail
 all_goals
  go_ret
  refine ⟨ah ?_, (bA _ _).alloc (by simp) _⟩
  rw [HV.out]
  first | (rw [HE.out]; simp [*]; done) | (simp [*]; done) | (rw [HE.out]; simp [*]; omega) | (simp [*]; omega)
theorem UW (c : dK) (x : eO) (k : x.op = 7) (h2 : 0 ≤ x.line) : mU c x := by
 intro vc vx w lo hi lo' hi' hc hx ht hst
 obtain ⟨bT, bI, bE, aY, bH, aZ, dS, dN, rfl, hr, ur, mr, hd, ud, md, hg, ug, mg, hi1, ui, mi⟩ := dK.form hc
 obtain rfl := eO.form hx
 unfold maxLen at mr md mg mi
 clear hr hd hg hi1 hc hx
 have HV : Hid (fK (gL c) c.av.length x = ((rH x.a (c.au.length : Int) && decide (x.b = 0)) && decide (x.text.size = 0))) := by
  show _ = _
  exact nV (by omega) (by omega) h2 (by rw [iq, k]; rfl) (by rw [pZ, k]; rfl) (by rw [qy, k]; exact rC x.a (c.au.length : Int))
 have hmf := @nF Tryz.prog
 have HE := lH (nU x.text)
 rw [k]
 clear k
 go_enter Tryz.func93, Tryz.ntmps93
 go_wp2_with fail
 all_goals
  have a1 := Blk.newAt (w.alloc (.cells #[.slice bT c.au.length bI, .slice bE c.aA.length aY, .slice bH c.aB.length aZ, .int .i64 c.main, .slice dS c.av.length dN] 47)) 146 #[.int .i64 7, .int .i64 x.a, .int .i64 x.b, .int .i64 x.line, .string x.text] (w.heap.size + 1) (by simp)
  refine (pY (c.au.length : Int) x.a _ _ _ _ a1 rfl).mono ?_; rintro e w3 ⟨rfl, rfl⟩
  go_wp2_with fail
 all_goals
  refine (fO 7 _).mono ?_; rw [show lg 7 = false from rfl]; rintro e w1 ⟨rfl, rfl⟩
  go_wp2_with fail
 all_goals
  go_ret
  refine ⟨ah ?_, (bA _ _).alloc (by simp) _⟩
  rw [HV.out]
  first | (rw [HE.out]; simp [*]; done) | (simp [*]; done) | (rw [HE.out]; simp [*]; omega) | (simp [*]; omega)
theorem UX (c : dK) (x : eO) (k : x.op = 8) (h2 : 0 ≤ x.line) : mU c x := by
 intro vc vx w lo hi lo' hi' hc hx ht hst
 obtain ⟨bT, bI, bE, aY, bH, aZ, dS, dN, rfl, hr, ur, mr, hd, ud, md, hg, ug, mg, hi1, ui, mi⟩ := dK.form hc
 obtain rfl := eO.form hx
 unfold maxLen at mr md mg mi
 clear hr hd hg hi1 hc hx
 have HV : Hid (fK (gL c) c.av.length x = ((rH x.a 55 && decide (x.b = 0)) && decide (x.text.size = 0))) := by
  show _ = _
  exact nV (by omega) (by omega) h2 (by rw [iq, k]; rfl) (by rw [pZ, k]; rfl) (by rw [qy, k]; exact rC x.a 55)
 have hmf := @nF Tryz.prog
 have HE := lH (nU x.text)
 rw [k]
 clear k
 go_enter Tryz.func93, Tryz.ntmps93
 go_wp2_with fail
 all_goals
  have a1 := Blk.newAt (w.alloc (.cells #[.slice bT c.au.length bI, .slice bE c.aA.length aY, .slice bH c.aB.length aZ, .int .i64 c.main, .slice dS c.av.length dN] 47)) 146 #[.int .i64 8, .int .i64 x.a, .int .i64 x.b, .int .i64 x.line, .string x.text] (w.heap.size + 1) (by simp)
  refine (pY 55 x.a _ _ _ _ a1 rfl).mono ?_; rintro e w3 ⟨rfl, rfl⟩
  go_wp2_with fail
 all_goals
  refine (fO 8 _).mono ?_; rw [show lg 8 = false from rfl]; rintro e w1 ⟨rfl, rfl⟩
  go_wp2_with fail
 all_goals
  go_ret
  refine ⟨ah ?_, (bA _ _).alloc (by simp) _⟩
  rw [HV.out]
  first | (rw [HE.out]; simp [*]; done) | (simp [*]; done) | (rw [HE.out]; simp [*]; omega) | (simp [*]; omega)
theorem UY (c : dK) (x : eO) (k : x.op = 9) (h2 : 0 ≤ x.line) : mU c x := by
 intro vc vx w lo hi lo' hi' hc hx ht hst
 obtain ⟨bT, bI, bE, aY, bH, aZ, dS, dN, rfl, hr, ur, mr, hd, ud, md, hg, ug, mg, hi1, ui, mi⟩ := dK.form hc
 obtain rfl := eO.form hx
 unfold maxLen at mr md mg mi
 clear hr hd hg hi1 hc hx
 have HV : Hid (fK (gL c) c.av.length x = ((rH x.a (c.aA.length : Int) && decide (x.b = 0)) && decide (x.text.size = 0))) := by
  show _ = _
  exact nV (by omega) (by omega) h2 (by rw [iq, k]; rfl) (by rw [pZ, k]; rfl) (by rw [qy, k]; exact rC x.a (c.aA.length : Int))
 have hmf := @nF Tryz.prog
 have HE := lH (nU x.text)
 rw [k]
 clear k
 go_enter Tryz.func93, Tryz.ntmps93
 go_wp2_with fail
 all_goals
  have a1 := Blk.newAt (w.alloc (.cells #[.slice bT c.au.length bI, .slice bE c.aA.length aY, .slice bH c.aB.length aZ, .int .i64 c.main, .slice dS c.av.length dN] 47)) 146 #[.int .i64 9, .int .i64 x.a, .int .i64 x.b, .int .i64 x.line, .string x.text] (w.heap.size + 1) (by simp)
  refine (pY (c.aA.length : Int) x.a _ _ _ _ a1 rfl).mono ?_; rintro e w3 ⟨rfl, rfl⟩
  go_wp2_with fail
 all_goals
  refine (fO 9 _).mono ?_; rw [show lg 9 = false from rfl]; rintro e w1 ⟨rfl, rfl⟩
  go_wp2_with fail
 all_goals
  go_ret
  refine ⟨ah ?_, (bA _ _).alloc (by simp) _⟩
  rw [HV.out]
  first | (rw [HE.out]; simp [*]; done) | (simp [*]; done) | (rw [HE.out]; simp [*]; omega) | (simp [*]; omega)
theorem Ss (c : dK) (x : eO) (k : x.op = 10) (h2 : 0 ≤ x.line) : mU c x := by
 intro vc vx w lo hi lo' hi' hc hx ht hst
 obtain ⟨bT, bI, bE, aY, bH, aZ, dS, dN, rfl, hr, ur, mr, hd, ud, md, hg, ug, mg, hi1, ui, mi⟩ := dK.form hc
 obtain rfl := eO.form hx
 unfold maxLen at mr md mg mi
 clear hr hd hg hi1 hc hx
 have HV : Hid (fK (gL c) c.av.length x = (((decide (x.a = 1) || decide (x.a = 2)) && decide (x.b = 0)) && decide (x.text.size = 0))) := by
  show _ = _
  exact nV (by omega) (by omega) h2 (by rw [iq, k]; rfl) (by rw [pZ, k]; rfl) (by rw [qy, k]; exact Qc x.a)
 have hmf := @nF Tryz.prog
 have HE := lH (nU x.text)
 rw [k]
 clear k
 go_enter Tryz.func93, Tryz.ntmps93
 go_wp2_with fail
 all_goals
  refine (fO 10 _).mono ?_; rw [show lg 10 = false from rfl]; rintro e w1 ⟨rfl, rfl⟩
  go_wp2_with fail
 all_goals
  go_ret
  refine ⟨ah ?_, (bA _ _).alloc (by simp) _⟩
  rw [HV.out]
  first | (rw [HE.out]; simp [*]; done) | (simp [*]; done) | (rw [HE.out]; simp [*]; omega) | (simp [*]; omega)
theorem Sv (c : dK) (x : eO) (k : x.op = 11) (h2 : 0 ≤ x.line) : mU c x := by
 intro vc vx w lo hi lo' hi' hc hx ht hst
 obtain ⟨bT, bI, bE, aY, bH, aZ, dS, dN, rfl, hr, ur, mr, hd, ud, md, hg, ug, mg, hi1, ui, mi⟩ := dK.form hc
 obtain rfl := eO.form hx
 unfold maxLen at mr md mg mi
 clear hr hd hg hi1 hc hx
 have HV : Hid (fK (gL c) c.av.length x = ((decide (iZ x.a ≤ jc x.a) && (decide (iZ x.a ≤ x.b) && decide (x.b ≤ jc x.a))) && decide (x.text.size = 0))) := by
  show _ = _
  rw [← Oa]
  exact nV (by omega) (by omega) h2 (by rw [iq, k]; rfl) (by rw [pZ, k]; rfl) (by rw [qy, k]; rfl)
 have hmf := @nF Tryz.prog
 have HE := lH (nU x.text)
 rw [k]
 clear k
 go_enter Tryz.func93, Tryz.ntmps93
 go_wp2_with fail
 refine (yT x.a _ (hst.below ((bA _ _).alloc (by simp) _) hst.2)).mono ?_; rintro e w3 ⟨rfl, hb3⟩
 have a1 := (Blk.newAt (w.alloc (.cells #[.slice bT c.au.length bI, .slice bE c.aA.length aY, .slice bH c.aB.length aZ, .int .i64 c.main, .slice dS c.av.length dN] 47)) 146 #[.int .i64 11, .int .i64 x.a, .int .i64 x.b, .int .i64 x.line, .string x.text] (w.heap.size + 1) (by simp)).later hb3
 have hw3 : Below w.heap.size w w3 := ((bA _ _).alloc (by simp) _).trans (hb3.mono (by simp; omega))
 have ca := a1.cell
 have la := a1.lt
 go_wp2_with fail
 all_goals
  refine (fO 11 _).mono ?_; rw [show lg 11 = false from rfl]; rintro e w1 ⟨rfl, rfl⟩
  go_wp2_with fail
 all_goals
  go_ret
  refine ⟨ah ?_, hw3⟩
  rw [HV.out]
  first | (rw [HE.out]; simp [*]; done) | (simp [*]; done) | (rw [HE.out]; simp [*]; omega) | (simp [*]; omega)
theorem Sw (c : dK) (x : eO) (k : x.op = 12) (h2 : 0 ≤ x.line) : mU c x := by
 intro vc vx w lo hi lo' hi' hc hx ht hst
 obtain ⟨bT, bI, bE, aY, bH, aZ, dS, dN, rfl, hr, ur, mr, hd, ud, md, hg, ug, mg, hi1, ui, mi⟩ := dK.form hc
 obtain rfl := eO.form hx
 unfold maxLen at mr md mg mi
 clear hr hd hg hi1 hc hx
 have HV : Hid (fK (gL c) c.av.length x = ((decide (x.a = 0) && (decide (1 ≤ x.b) && decide (x.b ≤ 9))) && decide (x.text.size = 0))) := by
  show _ = _
  exact nV (by omega) (by omega) h2 (by rw [iq, k]; rfl) (by rw [pZ, k]; rfl) (by rw [qy, k]; rfl)
 have hmf := @nF Tryz.prog
 have HE := lH (nU x.text)
 rw [k]
 clear k
 go_enter Tryz.func93, Tryz.ntmps93
 go_wp2_with fail
 all_goals
  refine (fO 12 _).mono ?_; rw [show lg 12 = false from rfl]; rintro e w1 ⟨rfl, rfl⟩
  go_wp2_with fail
 all_goals
  go_ret
  refine ⟨ah ?_, (bA _ _).alloc (by simp) _⟩
  rw [HV.out]
  first | (rw [HE.out]; simp [*]; done) | (simp [*]; done) | (rw [HE.out]; simp [*]; omega) | (simp [*]; omega)
theorem Sy (c : dK) (x : eO) (k : x.op = 13) (h2 : 0 ≤ x.line) : mU c x := by
 intro vc vx w lo hi lo' hi' hc hx ht hst
 obtain ⟨bT, bI, bE, aY, bH, aZ, dS, dN, rfl, hr, ur, mr, hd, ud, md, hg, ug, mg, hi1, ui, mi⟩ := dK.form hc
 obtain rfl := eO.form hx
 unfold maxLen at mr md mg mi
 clear hr hd hg hi1 hc hx
 have HV : Hid (fK (gL c) c.av.length x = (((rH x.a (c.av.length : Int) || decide (x.a = -1)) && decide (x.b = 0)) && decide (x.text.size = 0))) := by
  show _ = _
  exact nV (by omega) (by omega) h2 (by rw [iq, k]; rfl) (by rw [pZ, k]; rfl) (by rw [qy, k, if_pos (by decide), rC]; rfl)
 have hmf := @nF Tryz.prog
 have HE := lH (nU x.text)
 rw [k]
 clear k
 go_enter Tryz.func93, Tryz.ntmps93
 go_wp2_with fail
 all_goals
  refine (fO 13 _).mono ?_; rw [show lg 13 = true from rfl]; rintro e w1 ⟨rfl, rfl⟩
  go_wp2_with fail
 all_goals
  have a1 := Blk.newAt (w.alloc (.cells #[.slice bT c.au.length bI, .slice bE c.aA.length aY, .slice bH c.aB.length aZ, .int .i64 c.main, .slice dS c.av.length dN] 47)) 146 #[.int .i64 13, .int .i64 x.a, .int .i64 x.b, .int .i64 x.line, .string x.text] (w.heap.size + 1) (by simp)
  refine (pY (c.av.length : Int) x.a _ _ _ _ a1 rfl).mono ?_; rintro e w3 ⟨rfl, rfl⟩
  go_wp2_with fail
 all_goals
  go_ret
  refine ⟨ah ?_, (bA _ _).alloc (by simp) _⟩
  rw [HV.out]
  first | (rw [HE.out]; simp [*]; done) | (simp [*]; done) | (rw [HE.out]; simp [*]; omega) | (simp [*]; omega)
theorem Sz (c : dK) (x : eO) (k : x.op = 14) (h2 : 0 ≤ x.line) : mU c x := by
 intro vc vx w lo hi lo' hi' hc hx ht hst
 obtain ⟨bT, bI, bE, aY, bH, aZ, dS, dN, rfl, hr, ur, mr, hd, ud, md, hg, ug, mg, hi1, ui, mi⟩ := dK.form hc
 obtain rfl := eO.form hx
 unfold maxLen at mr md mg mi
 clear hr hd hg hi1 hc hx
 have HV : Hid (fK (gL c) c.av.length x = ((decide (x.a = 0) && decide (x.b = 0)) && decide (x.text.size = 0))) := by
  show _ = _
  exact nV (by omega) (by omega) h2 (by rw [iq, k]; rfl) (by rw [pZ, k]; rfl) (by rw [qy, k]; rfl)
 have hmf := @nF Tryz.prog
 have HE := lH (nU x.text)
 rw [k]
 clear k
 go_enter Tryz.func93, Tryz.ntmps93
 go_wp2_with fail
 all_goals
  refine (fO 14 _).mono ?_; rw [show lg 14 = false from rfl]; rintro e w1 ⟨rfl, rfl⟩
  go_wp2_with fail
 all_goals
  go_ret
  refine ⟨ah ?_, (bA _ _).alloc (by simp) _⟩
  rw [HV.out]
  first | (rw [HE.out]; simp [*]; done) | (simp [*]; done) | (rw [HE.out]; simp [*]; omega) | (simp [*]; omega)
theorem SA (c : dK) (x : eO) (k : x.op = 15) (h2 : 0 ≤ x.line) : mU c x := by
 intro vc vx w lo hi lo' hi' hc hx ht hst
 obtain ⟨bT, bI, bE, aY, bH, aZ, dS, dN, rfl, hr, ur, mr, hd, ud, md, hg, ug, mg, hi1, ui, mi⟩ := dK.form hc
 obtain rfl := eO.form hx
 unfold maxLen at mr md mg mi
 clear hr hd hg hi1 hc hx
 have HV : Hid (fK (gL c) c.av.length x = (((rH x.a (c.av.length : Int) || false) && decide (x.b = 0)) && decide (x.text.size = 0))) := by
  show _ = _
  exact nV (by omega) (by omega) h2 (by rw [iq, k]; rfl) (by rw [pZ, k]; rfl) (by rw [qy, k, if_pos (by decide), rC]; rfl)
 have hmf := @nF Tryz.prog
 have HE := lH (nU x.text)
 rw [k]
 clear k
 go_enter Tryz.func93, Tryz.ntmps93
 go_wp2_with fail
 all_goals
  refine (fO 15 _).mono ?_; rw [show lg 15 = true from rfl]; rintro e w1 ⟨rfl, rfl⟩
  go_wp2_with fail
 all_goals
  have a1 := Blk.newAt (w.alloc (.cells #[.slice bT c.au.length bI, .slice bE c.aA.length aY, .slice bH c.aB.length aZ, .int .i64 c.main, .slice dS c.av.length dN] 47)) 146 #[.int .i64 15, .int .i64 x.a, .int .i64 x.b, .int .i64 x.line, .string x.text] (w.heap.size + 1) (by simp)
  refine (pY (c.av.length : Int) x.a _ _ _ _ a1 rfl).mono ?_; rintro e w3 ⟨rfl, rfl⟩
  go_wp2_with fail
 all_goals
  go_ret
  refine ⟨ah ?_, (bA _ _).alloc (by simp) _⟩
  rw [HV.out]
  first | (rw [HE.out]; simp [*]; done) | (simp [*]; done) | (rw [HE.out]; simp [*]; omega) | (simp [*]; omega)
theorem SB (c : dK) (x : eO) (k : x.op = 16) (h2 : 0 ≤ x.line) : mU c x := by
 intro vc vx w lo hi lo' hi' hc hx ht hst
 obtain ⟨bT, bI, bE, aY, bH, aZ, dS, dN, rfl, hr, ur, mr, hd, ud, md, hg, ug, mg, hi1, ui, mi⟩ := dK.form hc
 obtain rfl := eO.form hx
 unfold maxLen at mr md mg mi
 clear hr hd hg hi1 hc hx
 have HV : Hid (fK (gL c) c.av.length x = ((decide (x.a = 0) && decide (x.b = 0)) && decide (x.text.size = 0))) := by
  show _ = _
  exact nV (by omega) (by omega) h2 (by rw [iq, k]; rfl) (by rw [pZ, k]; rfl) (by rw [qy, k]; rfl)
 have hmf := @nF Tryz.prog
 have HE := lH (nU x.text)
 rw [k]
 clear k
 go_enter Tryz.func93, Tryz.ntmps93
 go_wp2_with fail
 all_goals
  refine (fO 16 _).mono ?_; rw [show lg 16 = false from rfl]; rintro e w1 ⟨rfl, rfl⟩
  go_wp2_with fail
 all_goals
  go_ret
  refine ⟨ah ?_, (bA _ _).alloc (by simp) _⟩
  rw [HV.out]
  first | (rw [HE.out]; simp [*]; done) | (simp [*]; done) | (rw [HE.out]; simp [*]; omega) | (simp [*]; omega)
theorem SC (c : dK) (x : eO) (k : x.op = 17) (h2 : 0 ≤ x.line) : mU c x := by
 intro vc vx w lo hi lo' hi' hc hx ht hst
 obtain ⟨bT, bI, bE, aY, bH, aZ, dS, dN, rfl, hr, ur, mr, hd, ud, md, hg, ug, mg, hi1, ui, mi⟩ := dK.form hc
 obtain rfl := eO.form hx
 unfold maxLen at mr md mg mi
 clear hr hd hg hi1 hc hx
 have HV : Hid (fK (gL c) c.av.length x = (((rH x.a (c.av.length : Int) || false) && decide (x.b = 0)) && decide (x.text.size = 0))) := by
  show _ = _
  exact nV (by omega) (by omega) h2 (by rw [iq, k]; rfl) (by rw [pZ, k]; rfl) (by rw [qy, k, if_pos (by decide), rC]; rfl)
 have hmf := @nF Tryz.prog
 have HE := lH (nU x.text)
 rw [k]
 clear k
 go_enter Tryz.func93, Tryz.ntmps93
 go_wp2_with fail
 all_goals
  refine (fO 17 _).mono ?_; rw [show lg 17 = true from rfl]; rintro e w1 ⟨rfl, rfl⟩
  go_wp2_with fail
 all_goals
  have a1 := Blk.newAt (w.alloc (.cells #[.slice bT c.au.length bI, .slice bE c.aA.length aY, .slice bH c.aB.length aZ, .int .i64 c.main, .slice dS c.av.length dN] 47)) 146 #[.int .i64 17, .int .i64 x.a, .int .i64 x.b, .int .i64 x.line, .string x.text] (w.heap.size + 1) (by simp)
  refine (pY (c.av.length : Int) x.a _ _ _ _ a1 rfl).mono ?_; rintro e w3 ⟨rfl, rfl⟩
  go_wp2_with fail
 all_goals
  go_ret
  refine ⟨ah ?_, (bA _ _).alloc (by simp) _⟩
  rw [HV.out]
  first | (rw [HE.out]; simp [*]; done) | (simp [*]; done) | (rw [HE.out]; simp [*]; omega) | (simp [*]; omega)
theorem SE (c : dK) (x : eO) (k : x.op = 18) (h2 : 0 ≤ x.line) : mU c x := by
 intro vc vx w lo hi lo' hi' hc hx ht hst
 obtain ⟨bT, bI, bE, aY, bH, aZ, dS, dN, rfl, hr, ur, mr, hd, ud, md, hg, ug, mg, hi1, ui, mi⟩ := dK.form hc
 obtain rfl := eO.form hx
 unfold maxLen at mr md mg mi
 clear hr hd hg hi1 hc hx
 have HV : Hid (fK (gL c) c.av.length x = ((decide (x.a = 0) && decide (x.b = 0)) && decide (x.text.size = 0))) := by
  show _ = _
  exact nV (by omega) (by omega) h2 (by rw [iq, k]; rfl) (by rw [pZ, k]; rfl) (by rw [qy, k]; rfl)
 have hmf := @nF Tryz.prog
 have HE := lH (nU x.text)
 rw [k]
 clear k
 go_enter Tryz.func93, Tryz.ntmps93
 go_wp2_with fail
 all_goals
  refine (fO 18 _).mono ?_; rw [show lg 18 = false from rfl]; rintro e w1 ⟨rfl, rfl⟩
  go_wp2_with fail
 all_goals
  go_ret
  refine ⟨ah ?_, (bA _ _).alloc (by simp) _⟩
  rw [HV.out]
  first | (rw [HE.out]; simp [*]; done) | (simp [*]; done) | (rw [HE.out]; simp [*]; omega) | (simp [*]; omega)
theorem SF (c : dK) (x : eO) (k : x.op = 19) (h2 : 0 ≤ x.line) : mU c x := by
 intro vc vx w lo hi lo' hi' hc hx ht hst
 obtain ⟨bT, bI, bE, aY, bH, aZ, dS, dN, rfl, hr, ur, mr, hd, ud, md, hg, ug, mg, hi1, ui, mi⟩ := dK.form hc
 obtain rfl := eO.form hx
 unfold maxLen at mr md mg mi
 clear hr hd hg hi1 hc hx
 have HV : Hid (fK (gL c) c.av.length x = (((rH x.a (c.av.length : Int) || false) && decide (x.b = 0)) && decide (x.text.size = 0))) := by
  show _ = _
  exact nV (by omega) (by omega) h2 (by rw [iq, k]; rfl) (by rw [pZ, k]; rfl) (by rw [qy, k, if_pos (by decide), rC]; rfl)
 have hmf := @nF Tryz.prog
 have HE := lH (nU x.text)
 rw [k]
 clear k
 go_enter Tryz.func93, Tryz.ntmps93
 go_wp2_with fail
 all_goals
  refine (fO 19 _).mono ?_; rw [show lg 19 = true from rfl]; rintro e w1 ⟨rfl, rfl⟩
  go_wp2_with fail
 all_goals
  have a1 := Blk.newAt (w.alloc (.cells #[.slice bT c.au.length bI, .slice bE c.aA.length aY, .slice bH c.aB.length aZ, .int .i64 c.main, .slice dS c.av.length dN] 47)) 146 #[.int .i64 19, .int .i64 x.a, .int .i64 x.b, .int .i64 x.line, .string x.text] (w.heap.size + 1) (by simp)
  refine (pY (c.av.length : Int) x.a _ _ _ _ a1 rfl).mono ?_; rintro e w3 ⟨rfl, rfl⟩
  go_wp2_with fail
 all_goals
  go_ret
  refine ⟨ah ?_, (bA _ _).alloc (by simp) _⟩
  rw [HV.out]
  first | (rw [HE.out]; simp [*]; done) | (simp [*]; done) | (rw [HE.out]; simp [*]; omega) | (simp [*]; omega)
theorem SG (c : dK) (x : eO) (k : x.op = 20) (h2 : 0 ≤ x.line) : mU c x := by
 intro vc vx w lo hi lo' hi' hc hx ht hst
 obtain ⟨bT, bI, bE, aY, bH, aZ, dS, dN, rfl, hr, ur, mr, hd, ud, md, hg, ug, mg, hi1, ui, mi⟩ := dK.form hc
 obtain rfl := eO.form hx
 unfold maxLen at mr md mg mi
 clear hr hd hg hi1 hc hx
 have HV : Hid (fK (gL c) c.av.length x = ((decide (x.a = 0) && decide (x.b = 0)) && decide (x.text.size = 0))) := by
  show _ = _
  exact nV (by omega) (by omega) h2 (by rw [iq, k]; rfl) (by rw [pZ, k]; rfl) (by rw [qy, k]; rfl)
 have hmf := @nF Tryz.prog
 have HE := lH (nU x.text)
 rw [k]
 clear k
 go_enter Tryz.func93, Tryz.ntmps93
 go_wp2_with fail
 all_goals
  refine (fO 20 _).mono ?_; rw [show lg 20 = false from rfl]; rintro e w1 ⟨rfl, rfl⟩
  go_wp2_with fail
 all_goals
  go_ret
  refine ⟨ah ?_, (bA _ _).alloc (by simp) _⟩
  rw [HV.out]
  first | (rw [HE.out]; simp [*]; done) | (simp [*]; done) | (rw [HE.out]; simp [*]; omega) | (simp [*]; omega)
theorem SH (c : dK) (x : eO) (k : x.op = 21) (h2 : 0 ≤ x.line) : mU c x := by
 intro vc vx w lo hi lo' hi' hc hx ht hst
 obtain ⟨bT, bI, bE, aY, bH, aZ, dS, dN, rfl, hr, ur, mr, hd, ud, md, hg, ug, mg, hi1, ui, mi⟩ := dK.form hc
 obtain rfl := eO.form hx
 unfold maxLen at mr md mg mi
 clear hr hd hg hi1 hc hx
 have HV : Hid (fK (gL c) c.av.length x = ((decide (x.a = 0) && decide (x.b = 0)) && decide (x.text.size = 0))) := by
  show _ = _
  exact nV (by omega) (by omega) h2 (by rw [iq, k]; rfl) (by rw [pZ, k]; rfl) (by rw [qy, k]; rfl)
 have hmf := @nF Tryz.prog
 have HE := lH (nU x.text)
 rw [k]
 clear k
 go_enter Tryz.func93, Tryz.ntmps93
 go_wp2_with fail
 all_goals
  refine (fO 21 _).mono ?_; rw [show lg 21 = false from rfl]; rintro e w1 ⟨rfl, rfl⟩
  go_wp2_with fail
 all_goals
  go_ret
  refine ⟨ah ?_, (bA _ _).alloc (by simp) _⟩
  rw [HV.out]
  first | (rw [HE.out]; simp [*]; done) | (simp [*]; done) | (rw [HE.out]; simp [*]; omega) | (simp [*]; omega)
theorem SI (c : dK) (x : eO) (k : x.op = 22) (h2 : 0 ≤ x.line) : mU c x := by
 intro vc vx w lo hi lo' hi' hc hx ht hst
 obtain ⟨bT, bI, bE, aY, bH, aZ, dS, dN, rfl, hr, ur, mr, hd, ud, md, hg, ug, mg, hi1, ui, mi⟩ := dK.form hc
 obtain rfl := eO.form hx
 unfold maxLen at mr md mg mi
 clear hr hd hg hi1 hc hx
 have HV : Hid (fK (gL c) c.av.length x = ((decide (x.a = 0) && decide (x.b = 0)) && decide (x.text.size = 0))) := by
  show _ = _
  exact nV (by omega) (by omega) h2 (by rw [iq, k]; rfl) (by rw [pZ, k]; rfl) (by rw [qy, k]; rfl)
 have hmf := @nF Tryz.prog
 have HE := lH (nU x.text)
 rw [k]
 clear k
 go_enter Tryz.func93, Tryz.ntmps93
 go_wp2_with fail
 all_goals
  refine (fO 22 _).mono ?_; rw [show lg 22 = false from rfl]; rintro e w1 ⟨rfl, rfl⟩
  go_wp2_with fail
 all_goals
  go_ret
  refine ⟨ah ?_, (bA _ _).alloc (by simp) _⟩
  rw [HV.out]
  first | (rw [HE.out]; simp [*]; done) | (simp [*]; done) | (rw [HE.out]; simp [*]; omega) | (simp [*]; omega)
theorem SK (c : dK) (x : eO) (k : x.op = 23) (h2 : 0 ≤ x.line) : mU c x := by
 intro vc vx w lo hi lo' hi' hc hx ht hst
 obtain ⟨bT, bI, bE, aY, bH, aZ, dS, dN, rfl, hr, ur, mr, hd, ud, md, hg, ug, mg, hi1, ui, mi⟩ := dK.form hc
 obtain rfl := eO.form hx
 unfold maxLen at mr md mg mi
 clear hr hd hg hi1 hc hx
 have HV : Hid (fK (gL c) c.av.length x = ((decide (x.a = 0) && decide (x.b = 0)) && decide (x.text.size = 0))) := by
  show _ = _
  exact nV (by omega) (by omega) h2 (by rw [iq, k]; rfl) (by rw [pZ, k]; rfl) (by rw [qy, k]; rfl)
 have hmf := @nF Tryz.prog
 have HE := lH (nU x.text)
 rw [k]
 clear k
 go_enter Tryz.func93, Tryz.ntmps93
 go_wp2_with fail
 all_goals
  refine (fO 23 _).mono ?_; rw [show lg 23 = false from rfl]; rintro e w1 ⟨rfl, rfl⟩
  go_wp2_with fail
 all_goals
  go_ret
  refine ⟨ah ?_, (bA _ _).alloc (by simp) _⟩
  rw [HV.out]
  first | (rw [HE.out]; simp [*]; done) | (simp [*]; done) | (rw [HE.out]; simp [*]; omega) | (simp [*]; omega)
theorem SL (c : dK) (x : eO) (k : x.op = 24) (h2 : 0 ≤ x.line) : mU c x := by
 intro vc vx w lo hi lo' hi' hc hx ht hst
 obtain ⟨bT, bI, bE, aY, bH, aZ, dS, dN, rfl, hr, ur, mr, hd, ud, md, hg, ug, mg, hi1, ui, mi⟩ := dK.form hc
 obtain rfl := eO.form hx
 unfold maxLen at mr md mg mi
 clear hr hd hg hi1 hc hx
 have HV : Hid (fK (gL c) c.av.length x = ((decide (x.a = 0) && decide (x.b = 0)) && decide (x.text.size = 0))) := by
  show _ = _
  exact nV (by omega) (by omega) h2 (by rw [iq, k]; rfl) (by rw [pZ, k]; rfl) (by rw [qy, k]; rfl)
 have hmf := @nF Tryz.prog
 have HE := lH (nU x.text)
 rw [k]
 clear k
 go_enter Tryz.func93, Tryz.ntmps93
 go_wp2_with fail
 all_goals
  refine (fO 24 _).mono ?_; rw [show lg 24 = false from rfl]; rintro e w1 ⟨rfl, rfl⟩
  go_wp2_with fail
 all_goals
  go_ret
  refine ⟨ah ?_, (bA _ _).alloc (by simp) _⟩
  rw [HV.out]
  first | (rw [HE.out]; simp [*]; done) | (simp [*]; done) | (rw [HE.out]; simp [*]; omega) | (simp [*]; omega)
theorem SN (c : dK) (x : eO) (k : x.op = 25) (h2 : 0 ≤ x.line) : mU c x := by
 intro vc vx w lo hi lo' hi' hc hx ht hst
 obtain ⟨bT, bI, bE, aY, bH, aZ, dS, dN, rfl, hr, ur, mr, hd, ud, md, hg, ug, mg, hi1, ui, mi⟩ := dK.form hc
 obtain rfl := eO.form hx
 unfold maxLen at mr md mg mi
 clear hr hd hg hi1 hc hx
 have HV : Hid (fK (gL c) c.av.length x = ((decide (x.a = 0) && decide (x.b = 0)) && decide (x.text.size = 0))) := by
  show _ = _
  exact nV (by omega) (by omega) h2 (by rw [iq, k]; rfl) (by rw [pZ, k]; rfl) (by rw [qy, k]; rfl)
 have hmf := @nF Tryz.prog
 have HE := lH (nU x.text)
 rw [k]
 clear k
 go_enter Tryz.func93, Tryz.ntmps93
 go_wp2_with fail
 all_goals
  refine (fO 25 _).mono ?_; rw [show lg 25 = false from rfl]; rintro e w1 ⟨rfl, rfl⟩
  go_wp2_with fail
 all_goals
  go_ret
  refine ⟨ah ?_, (bA _ _).alloc (by simp) _⟩
  rw [HV.out]
  first | (rw [HE.out]; simp [*]; done) | (simp [*]; done) | (rw [HE.out]; simp [*]; omega) | (simp [*]; omega)
theorem SQ (c : dK) (x : eO) (k : x.op = 26) (h2 : 0 ≤ x.line) : mU c x := by
 intro vc vx w lo hi lo' hi' hc hx ht hst
 obtain ⟨bT, bI, bE, aY, bH, aZ, dS, dN, rfl, hr, ur, mr, hd, ud, md, hg, ug, mg, hi1, ui, mi⟩ := dK.form hc
 obtain rfl := eO.form hx
 unfold maxLen at mr md mg mi
 clear hr hd hg hi1 hc hx
 have HV : Hid (fK (gL c) c.av.length x = ((decide (x.a = 0) && decide (x.b = 0)) && decide (x.text.size = 0))) := by
  show _ = _
  exact nV (by omega) (by omega) h2 (by rw [iq, k]; rfl) (by rw [pZ, k]; rfl) (by rw [qy, k]; rfl)
 have hmf := @nF Tryz.prog
 have HE := lH (nU x.text)
 rw [k]
 clear k
 go_enter Tryz.func93, Tryz.ntmps93
 go_wp2_with fail
 all_goals
  refine (fO 26 _).mono ?_; rw [show lg 26 = false from rfl]; rintro e w1 ⟨rfl, rfl⟩
  go_wp2_with fail
 all_goals
  go_ret
  refine ⟨ah ?_, (bA _ _).alloc (by simp) _⟩
  rw [HV.out]
  first | (rw [HE.out]; simp [*]; done) | (simp [*]; done) | (rw [HE.out]; simp [*]; omega) | (simp [*]; omega)
theorem SS (c : dK) (x : eO) (k : x.op = 27) (h2 : 0 ≤ x.line) : mU c x := by
 intro vc vx w lo hi lo' hi' hc hx ht hst
 obtain ⟨bT, bI, bE, aY, bH, aZ, dS, dN, rfl, hr, ur, mr, hd, ud, md, hg, ug, mg, hi1, ui, mi⟩ := dK.form hc
 obtain rfl := eO.form hx
 unfold maxLen at mr md mg mi
 clear hr hd hg hi1 hc hx
 have HV : Hid (fK (gL c) c.av.length x = (((rH x.a (c.av.length : Int) || false) && decide (x.b = 0)) && decide (x.text.size = 0))) := by
  show _ = _
  exact nV (by omega) (by omega) h2 (by rw [iq, k]; rfl) (by rw [pZ, k]; rfl) (by rw [qy, k, if_pos (by decide), rC]; rfl)
 have hmf := @nF Tryz.prog
 have HE := lH (nU x.text)
 rw [k]
 clear k
 go_enter Tryz.func93, Tryz.ntmps93
 go_wp2_with fail
 all_goals
  refine (fO 27 _).mono ?_; rw [show lg 27 = true from rfl]; rintro e w1 ⟨rfl, rfl⟩
  go_wp2_with fail
 all_goals
  have a1 := Blk.newAt (w.alloc (.cells #[.slice bT c.au.length bI, .slice bE c.aA.length aY, .slice bH c.aB.length aZ, .int .i64 c.main, .slice dS c.av.length dN] 47)) 146 #[.int .i64 27, .int .i64 x.a, .int .i64 x.b, .int .i64 x.line, .string x.text] (w.heap.size + 1) (by simp)
  refine (pY (c.av.length : Int) x.a _ _ _ _ a1 rfl).mono ?_; rintro e w3 ⟨rfl, rfl⟩
  go_wp2_with fail
 all_goals
  go_ret
  refine ⟨ah ?_, (bA _ _).alloc (by simp) _⟩
  rw [HV.out]
  first | (rw [HE.out]; simp [*]; done) | (simp [*]; done) | (rw [HE.out]; simp [*]; omega) | (simp [*]; omega)
theorem SV (c : dK) (x : eO) (k : x.op = 28) (h2 : 0 ≤ x.line) : mU c x := by
 intro vc vx w lo hi lo' hi' hc hx ht hst
 obtain ⟨bT, bI, bE, aY, bH, aZ, dS, dN, rfl, hr, ur, mr, hd, ud, md, hg, ug, mg, hi1, ui, mi⟩ := dK.form hc
 obtain rfl := eO.form hx
 unfold maxLen at mr md mg mi
 clear hr hd hg hi1 hc hx
 have HV : Hid (fK (gL c) c.av.length x = ((decide (x.a = 0) && decide (x.b = 0)) && decide (x.text.size = 0))) := by
  show _ = _
  exact nV (by omega) (by omega) h2 (by rw [iq, k]; rfl) (by rw [pZ, k]; rfl) (by rw [qy, k]; rfl)
 have hmf := @nF Tryz.prog
 have HE := lH (nU x.text)
 rw [k]
 clear k
 go_enter Tryz.func93, Tryz.ntmps93
 go_wp2_with fail
 all_goals
  refine (fO 28 _).mono ?_; rw [show lg 28 = false from rfl]; rintro e w1 ⟨rfl, rfl⟩
  go_wp2_with fail
 all_goals
  go_ret
  refine ⟨ah ?_, (bA _ _).alloc (by simp) _⟩
  rw [HV.out]
  first | (rw [HE.out]; simp [*]; done) | (simp [*]; done) | (rw [HE.out]; simp [*]; omega) | (simp [*]; omega)
theorem SX (c : dK) (x : eO) (k : x.op = 29) (h2 : 0 ≤ x.line) : mU c x := by
 intro vc vx w lo hi lo' hi' hc hx ht hst
 obtain ⟨bT, bI, bE, aY, bH, aZ, dS, dN, rfl, hr, ur, mr, hd, ud, md, hg, ug, mg, hi1, ui, mi⟩ := dK.form hc
 obtain rfl := eO.form hx
 unfold maxLen at mr md mg mi
 clear hr hd hg hi1 hc hx
 have HV : Hid (fK (gL c) c.av.length x = ((decide (x.a = 0) && decide (x.b = 0)) && decide (x.text.size = 0))) := by
  show _ = _
  exact nV (by omega) (by omega) h2 (by rw [iq, k]; rfl) (by rw [pZ, k]; rfl) (by rw [qy, k]; rfl)
 have hmf := @nF Tryz.prog
 have HE := lH (nU x.text)
 rw [k]
 clear k
 go_enter Tryz.func93, Tryz.ntmps93
 go_wp2_with fail
 all_goals
  refine (fO 29 _).mono ?_; rw [show lg 29 = false from rfl]; rintro e w1 ⟨rfl, rfl⟩
  go_wp2_with fail
 all_goals
  go_ret
  refine ⟨ah ?_, (bA _ _).alloc (by simp) _⟩
  rw [HV.out]
  first | (rw [HE.out]; simp [*]; done) | (simp [*]; done) | (rw [HE.out]; simp [*]; omega) | (simp [*]; omega)
theorem SY (c : dK) (x : eO) (k : x.op = 30) (h2 : 0 ≤ x.line) : mU c x := by
 intro vc vx w lo hi lo' hi' hc hx ht hst
 obtain ⟨bT, bI, bE, aY, bH, aZ, dS, dN, rfl, hr, ur, mr, hd, ud, md, hg, ug, mg, hi1, ui, mi⟩ := dK.form hc
 obtain rfl := eO.form hx
 unfold maxLen at mr md mg mi
 clear hr hd hg hi1 hc hx
 have HV : Hid (fK (gL c) c.av.length x = ((decide (x.a = 0) && decide (x.b = 0)) && decide (x.text.size = 0))) := by
  show _ = _
  exact nV (by omega) (by omega) h2 (by rw [iq, k]; rfl) (by rw [pZ, k]; rfl) (by rw [qy, k]; rfl)
 have hmf := @nF Tryz.prog
 have HE := lH (nU x.text)
 rw [k]
 clear k
 go_enter Tryz.func93, Tryz.ntmps93
 go_wp2_with fail
 all_goals
  refine (fO 30 _).mono ?_; rw [show lg 30 = false from rfl]; rintro e w1 ⟨rfl, rfl⟩
  go_wp2_with fail
 all_goals
  go_ret
  refine ⟨ah ?_, (bA _ _).alloc (by simp) _⟩
  rw [HV.out]
  first | (rw [HE.out]; simp [*]; done) | (simp [*]; done) | (rw [HE.out]; simp [*]; omega) | (simp [*]; omega)
theorem S7 (c : dK) (x : eO) (h : x.op < 1) : mU c x := by
 intro vc vx w lo hi lo' hi' hc hx ht hst
 obtain ⟨bT, bI, bE, aY, bH, aZ, dS, dN, rfl, hr, ur, mr, hd, ud, md, hg, ug, mg, hi1, ui, mi⟩ := dK.form hc
 obtain rfl := eO.form hx
 clear hr hd hg hi1 hc hx
 have HV : Hid (fK (gL c) c.av.length x = false) := lH (by rw [fK]; simp; omega)
 go_enter Tryz.func93, Tryz.ntmps93
 go_wp2_with fail
 go_ret
 exact ⟨ah HV.out.symm, (bA _ _).alloc (by simp) _⟩
theorem S8 (c : dK) (x : eO) (h : 30 < x.op) : mU c x := by
 intro vc vx w lo hi lo' hi' hc hx ht hst
 obtain ⟨bT, bI, bE, aY, bH, aZ, dS, dN, rfl, hr, ur, mr, hd, ud, md, hg, ug, mg, hi1, ui, mi⟩ := dK.form hc
 obtain rfl := eO.form hx
 clear hr hd hg hi1 hc hx
 have HV : Hid (fK (gL c) c.av.length x = false) := lH (by rw [fK]; simp; omega)
 go_enter Tryz.func93, Tryz.ntmps93
 go_wp2_with fail
 go_ret
 exact ⟨ah HV.out.symm, (bA _ _).alloc (by simp) _⟩
theorem Ob (c : dK) (x : eO) (h0 : 1 ≤ x.op) (h1 : x.op ≤ 30) (h : x.line < 0) : mU c x := by
 intro vc vx w lo hi lo' hi' hc hx ht hst
 obtain ⟨bT, bI, bE, aY, bH, aZ, dS, dN, rfl, hr, ur, mr, hd, ud, md, hg, ug, mg, hi1, ui, mi⟩ := dK.form hc
 obtain rfl := eO.form hx
 clear hr hd hg hi1 hc hx
 have HV : Hid (fK (gL c) c.av.length x = false) := lH (by rw [fK]; simp; omega)
 go_enter Tryz.func93, Tryz.ntmps93
 go_wp2_with fail
 go_ret
 exact ⟨ah HV.out.symm, (bA _ _).alloc (by simp) _⟩
theorem Bq (c : dK) (x : eO) : mU c x := by
 by_cases a0 : x.op < 1
 ·exact S7 c x a0
 by_cases a1 : 30 < x.op
 ·exact S8 c x a1
 by_cases a2 : x.line < 0
 ·exact Ob c x (by omega) (by omega) a2
 have h2 : 0 ≤ x.line := by omega
 have hop : x.op = 1 ∨ x.op = 2 ∨ x.op = 3 ∨ x.op = 4 ∨ x.op = 5 ∨ x.op = 6 ∨ x.op = 7 ∨ x.op = 8 ∨ x.op = 9 ∨ x.op = 10 ∨ x.op = 11 ∨ x.op = 12 ∨ x.op = 13 ∨ x.op = 14 ∨ x.op = 15 ∨ x.op = 16 ∨ x.op = 17 ∨ x.op = 18 ∨ x.op = 19 ∨ x.op = 20 ∨ x.op = 21 ∨ x.op = 22 ∨ x.op = 23 ∨ x.op = 24 ∨ x.op = 25 ∨ x.op = 26 ∨ x.op = 27 ∨ x.op = 28 ∨ x.op = 29 ∨ x.op = 30 := by omega
 rcases hop with k | k | k | k | k | k | k | k | k | k | k | k | k | k | k | k | k | k | k | k | k | k | k | k | k | k | k | k | k | k
 ·exact UO c x k h2
 ·exact UQ c x k h2
 ·exact UR c x k h2
 ·exact US c x k h2
 ·exact UT c x k h2
 ·exact UU c x k h2
 ·exact UW c x k h2
 ·exact UX c x k h2
 ·exact UY c x k h2
 ·exact Ss c x k h2
 ·exact Sv c x k h2
 ·exact Sw c x k h2
 ·exact Sy c x k h2
 ·exact Sz c x k h2
 ·exact SA c x k h2
 ·exact SB c x k h2
 ·exact SC c x k h2
 ·exact SE c x k h2
 ·exact SF c x k h2
 ·exact SG c x k h2
 ·exact SH c x k h2
 ·exact SI c x k h2
 ·exact SK c x k h2
 ·exact SL c x k h2
 ·exact SN c x k h2
 ·exact SQ c x k h2
 ·exact SS c x k h2
 ·exact SV c x k h2
 ·exact SX c x k h2
 ·exact SY c x k h2
end Go.Proofs.YtoddlphekcihgaaGreatDoor
