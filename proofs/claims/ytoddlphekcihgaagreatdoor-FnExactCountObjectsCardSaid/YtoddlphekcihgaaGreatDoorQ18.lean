/- AY of the program: a scan; all kinds. -/
import Derived.Test.YtoddlphekcihgaaGreatDoorQ16
import Derived.Test.YtoddlphekcihgaaGreatDoorQ17
set_option maxRecDepth 100000
set_option maxHeartbeats 8000000
set_option linter.unusedVariables false
set_option linter.unusedSimpArgs false
namespace Go.Proofs.YtoddlphekcihgaaGreatDoor
open Go.RowKit
theorem PL (s : dP) (tag ak : Int) (aj aX : List aQ) (Ai Ak : Option Addr) (ni nk : Nat) (w : World) {g off lo hi lo' hi' : Nat} (h : At w g off lo hi dP.ay s)
 (hi_ : dz w lo' hi' 6 aQ.ay (.slice Ai aj.length ni) aj) (hk_ : dz w lo' hi' 6 aQ.ay (.slice Ak aX.length nk) aX) (hhi : hi' ≤ w.heap.size) :
 Calls Tryz.prog 96 #[.pointer (some ⟨g, off, none⟩), .agg #[.int .i64 9, .int .i64 tag, .int .i64 ak, .slice Ai aj.length ni, .slice Ak aX.length nk]] w fun e w' => e = .returned (.bool (fZ s ⟨9, tag, ak, aj, aX⟩)) ∧ Below w.heap.size w w' := by
 obtain ⟨a0, hW⟩ := eZ w 97 #[.int .i64 9, .int .i64 tag, .int .i64 ak, .slice Ai aj.length ni, .slice Ak aX.length nk]
 by_cases hs : ak = 0
 rotate_left
 ·have e0 : (ak != 0) = true := by simp [hs]
  have HO : Hid (fZ s ⟨9, tag, ak, aj, aX⟩ = false) := by show _ = _; simp [fZ, fU, hs]
  clear hs
  go_enter Tryz.func96, Tryz.ntmps96
  go_upto_region 2 with fail
  go_quiet (fail)
  go_wp2_with fail
  go_ret
  exact ⟨ah HO.out.symm, bN hW _⟩
 have e0 : (ak != 0) = false := by simp [hs]
 generalize hV : fZ s ⟨9, tag, ak, aj, aX⟩ = V
 have HE : Hid (V = (decide (tag = 0) && decide (aX.length = 0) && yN s aj)) := by
  show _ = _
  rw [← hV]
  simp [fZ, fU, tK, qV, mK, hs]
 clear hs hV
 by_cases h2 : aj.length = 2
 rotate_left
 ·have HO : Hid (V = false) := lH (by rw [HE.out, GD h2]; simp)
  have d2 : ((aj.length : Int) == 2) = false := by simp; omega
  clear h2 HE
  go_enter Tryz.func96, Tryz.ntmps96
  go_upto_region 2 with fail
  go_quiet (fail)
  replace a0 := a0.drewN nq
  replace hW := bN hW nq
  generalize World.drewN (w.alloc (.cells #[.int .i64 9, .int .i64 tag, .int .i64 ak, .slice Ai aj.length ni, .slice Ak aX.length nk] 97)) nq = W at *
  have ca := a0.cell
  have la := a0.lt
  go_upto_region 31 with fail
  go_quiet (fail)
  go_wp2_with fail
  all_goals go_ret
  all_goals ((try subst_vars); exact ⟨ah (by first | rfl | exact HO.out.symm), by first | exact hW | exact bN hW _ | exact bN (bN hW _) _⟩)
 have d2 : ((aj.length : Int) == 2) = true := by simp; omega
 have hln : 2 ≤ aj.length := by omega
 obtain ⟨a, ha⟩ : ∃ c, aj[0]? = some c := ⟨_, gE (by omega)⟩
 obtain ⟨b, hb⟩ : ∃ c, aj[1]? = some c := ⟨_, gE (by omega)⟩
 obtain ⟨g', off', rfl, hg1, hg2, -⟩ := aQ.at_ hi_ (j := 0) ha
 have HC := lH (Lj (s := s) h2 ha hb)
 clear h2
 by_cases ka : a.kind = 2
 rotate_left
 ·have HO : Hid (V = false) := lH (by rw [HE.out, HC.out, dF ka]; simp)
  have ea : (a.kind == 2) = false := by simp [ka]
  clear HE HC ka
  go_enter Tryz.func96, Tryz.ntmps96
  go_upto_region 2 with fail
  go_quiet (fail)
  replace a0 := a0.drewN nq
  replace hW := bN hW nq
  generalize World.drewN (w.alloc (.cells #[.int .i64 9, .int .i64 tag, .int .i64 ak, .slice (some ⟨g', off', none⟩) aj.length ni, .slice Ak aX.length nk] 97)) nq = W at *
  have ca := a0.cell
  have la := a0.lt
  obtain ⟨pa0, pa1, pa2, pa3, pa4, pa5⟩ := dV (hi_.below hW hhi) ha (p := off') (by omega)
  obtain ⟨pb0, pb1, pb2, pb3, pb4, pb5⟩ := dV (hi_.below hW hhi) hb (p := off' + 6) (by omega)
  go_upto_region 31 with fail
  go_quiet (fail)
  go_wp2_with fail
  all_goals go_ret
  all_goals ((try subst_vars); exact ⟨ah (by first | rfl | exact HO.out.symm), by first | exact hW | exact bN hW _ | exact bN (bN hW _) _⟩)
 have ea : (a.kind == 2) = true := by simp [ka]
 have KA := lH (dT ka)
 clear ka
 by_cases kb : b.kind = 1
 rotate_left
 ·have HO : Hid (V = false) := lH (by rw [HE.out, HC.out, dF kb]; simp)
  have eb : (b.kind == 1) = false := by simp [kb]
  clear HE HC kb
  go_enter Tryz.func96, Tryz.ntmps96
  go_upto_region 2 with fail
  go_quiet (fail)
  replace a0 := a0.drewN nq
  replace hW := bN hW nq
  generalize World.drewN (w.alloc (.cells #[.int .i64 9, .int .i64 tag, .int .i64 ak, .slice (some ⟨g', off', none⟩) aj.length ni, .slice Ak aX.length nk] 97)) nq = W at *
  have ca := a0.cell
  have la := a0.lt
  obtain ⟨pa0, pa1, pa2, pa3, pa4, pa5⟩ := dV (hi_.below hW hhi) ha (p := off') (by omega)
  obtain ⟨pb0, pb1, pb2, pb3, pb4, pb5⟩ := dV (hi_.below hW hhi) hb (p := off' + 6) (by omega)
  go_upto_region 31 with fail
  go_quiet (fail)
  go_wp2_with fail
  all_goals go_ret
  all_goals ((try subst_vars); exact ⟨ah (by first | rfl | exact HO.out.symm), by first | exact hW | exact bN hW _ | exact bN (bN hW _) _⟩)
 have eb : (b.kind == 1) = true := by simp [kb]
 have KB := lH (dT kb)
 clear kb
 cases hd : aj.all (ig s)
 have HD := lH hd
 have HO : Hid (V = false) := lH (by rw [HE.out, HC.out, HD.out]; simp)
 clear HE HC hd
 rotate_left
 have HD := lH hd
 clear hd
 rcases (Classical.em (1 ≤ b.number)).symm with n1 | n1
 have HO : Hid (V = false) := lH (by rw [HE.out, HC.out, dF n1]; simp)
 have e1 := dF n1
 clear HE HC n1
 rotate_left
 have e1 := dT n1
 have hsz : a.text.size ≤ 120 := Nz (HD.out) (mG ha) (by simpa using ea)
 have hwr : IntKind.i64.wrap ((a.text.size : Int) + 1) = (a.text.size : Int) + 1 := IntWalk.i64_in _ (by omega)
 cases e2 : decide (b.number ≤ (a.text.size : Int) + 1)
 have HO : Hid (V = false) := lH (by rw [HE.out, HC.out, e2]; simp)
 clear HE HC
 rotate_left
 rotate_right 3
 iterate 3 focus
  go_enter Tryz.func96, Tryz.ntmps96
  go_upto_region 2 with fail
  go_quiet (fail)
  replace a0 := a0.drewN nq
  replace hW := bN hW nq
  generalize World.drewN (w.alloc (.cells #[.int .i64 9, .int .i64 tag, .int .i64 ak, .slice (some ⟨g', off', none⟩) aj.length ni, .slice Ak aX.length nk] 97)) nq = W at *
  have ca := a0.cell
  have la := a0.lt
  obtain ⟨pa0, pa1, pa2, pa3, pa4, pa5⟩ := dV (hi_.below hW hhi) ha (p := off') (by omega)
  obtain ⟨pb0, pb1, pb2, pb3, pb4, pb5⟩ := dV (hi_.below hW hhi) hb (p := off' + 6) (by omega)
  go_upto_region 31 with fail
  have hgi : g' < W.heap.size := nL (nL hg2 hhi) hW.size
  have kca := qC (B := W.heap.size) a0 la
  have FB := aW (B := W.heap.size) pa0 hgi
  have FC := aW (B := W.heap.size) pa3 hgi
  have FD := aW (B := W.heap.size) pb0 hgi
  have FE := aW (B := W.heap.size) pb1 hgi
  refine fI (B := W.heap.size) (by kernel_rfl) (by kernel_rfl) ?_
  repeat (go_big_quiet_step (first | (go_at_call 95; exact fB (nR _) ((fE s aj _ _ (h.below (Kept.of hW hW.size _)) (hi_.below (Kept.of hW hW.size _) hhi) (nT hhi (Kept.of hW hW.size _).size)).mono fun _ _ ⟨a, b⟩ => ⟨a.trans (by rw [HD.out]), b⟩)) | fail))
  refine wpQuiet_nil ?_
  intro w' hw'
  obtain ⟨v, rfl⟩ := hw'
  replace hW := Kept.of hW hW.size v
  go_wp2_with fail
  all_goals go_ret
  all_goals ((try subst_vars); exact ⟨ah (by first | rfl | exact HO.out.symm), by first | exact hW | exact bN hW _ | exact bN (bN hW _) _⟩)
 have HO : Hid (V = (decide (tag = 0) && decide (aX.length = 0))) := lH (by rw [HE.out, HC.out, KA.out, KB.out, HD.out, dT n1, e2]; simp)
 clear HE HC
 go_enter Tryz.func96, Tryz.ntmps96
 go_upto_region 2 with fail
 go_quiet (fail)
 replace a0 := a0.drewN nq
 replace hW := bN hW nq
 generalize World.drewN (w.alloc (.cells #[.int .i64 9, .int .i64 tag, .int .i64 ak, .slice (some ⟨g', off', none⟩) aj.length ni, .slice Ak aX.length nk] 97)) nq = W at *
 have ca := a0.cell
 have la := a0.lt
 obtain ⟨pa0, pa1, pa2, pa3, pa4, pa5⟩ := dV (hi_.below hW hhi) ha (p := off') (by omega)
 obtain ⟨pb0, pb1, pb2, pb3, pb4, pb5⟩ := dV (hi_.below hW hhi) hb (p := off' + 6) (by omega)
 go_upto_region 31 with fail
 have hgi : g' < W.heap.size := nL (nL hg2 hhi) hW.size
 have kca := qC (B := W.heap.size) a0 la
 have FB := aW (B := W.heap.size) pa0 hgi
 have FC := aW (B := W.heap.size) pa3 hgi
 have FD := aW (B := W.heap.size) pb0 hgi
 have FE := aW (B := W.heap.size) pb1 hgi
 refine fI (B := W.heap.size) (by kernel_rfl) (by kernel_rfl) ?_
 repeat (go_big_quiet_step (first | (go_at_call 95; exact fB (nR _) ((fE s aj _ _ (h.below (Kept.of hW hW.size _)) (hi_.below (Kept.of hW hW.size _) hhi) (nT hhi (Kept.of hW hW.size _).size)).mono fun _ _ ⟨a, b⟩ => ⟨a.trans (by rw [HD.out]), b⟩)) | fail))
 refine wpQuiet_nil ?_
 intro w' hw'
 obtain ⟨v, rfl⟩ := hw'
 replace hW := Kept.of hW hW.size v
 go_wp2_with fail
 all_goals go_ret
 all_goals ((try subst_vars); exact ⟨ah (by clear h hi_ hk_ a0 hW ca la; (try rw [HO.out]); simp_all <;> omega), by first | exact hW | exact bN hW _ | exact bN (bN hW _) _⟩)
theorem zX (s : dP) (c : fV) (x : Value) (w : World) {g off lo hi lo' hi' : Nat} (h : At w g off lo hi dP.ay s) (hx : fA w lo' hi' fV.ay x c) (hhi : hi' ≤ w.heap.size) :
 Calls Tryz.prog 96 #[.pointer (some ⟨g, off, none⟩), x] w fun e w' => e = .returned (.bool (fZ s c)) ∧ Below w.heap.size w w' := by
 obtain ⟨Ai, ni, Ak, nk, rfl, h1, -, -, h2, -, -⟩ := fV.form hx
 obtain ⟨k, tag, ak, aj, aX⟩ := c
 by_cases k0 : k < 1
 ·exact NN s tag ak k aj aX Ai Ak ni nk w h h1 h2 hhi k0
 by_cases kh : 9 < k
 ·exact NP s tag ak k aj aX Ai Ak ni nk w h h1 h2 hhi kh
 by_cases k1 : k = 1
 ·subst k1; exact Pz s tag ak aj aX Ai Ak ni nk w h h1 h2 hhi
 by_cases k2 : k = 2
 ·subst k2; exact PD s tag ak aj aX Ai Ak ni nk w h h1 h2 hhi
 by_cases k3 : k = 3
 ·subst k3; exact PE s tag ak aj aX Ai Ak ni nk w h h1 h2 hhi
 by_cases k4 : k = 4
 ·subst k4; exact PG s tag ak aj aX Ai Ak ni nk w h h1 h2 hhi
 by_cases k5 : k = 5
 ·subst k5; exact Py s tag ak aj aX Ai Ak ni nk w h h1 h2 hhi
 by_cases k6 : k = 6
 ·subst k6; exact Px s tag ak aj aX Ai Ak ni nk w h h1 h2 hhi
 by_cases k7 : k = 7
 ·subst k7; exact PI s tag ak aj aX Ai Ak ni nk w h h1 h2 hhi
 by_cases k8 : k = 8
 ·subst k8; exact PK s tag ak aj aX Ai Ak ni nk w h h1 h2 hhi
 obtain rfl : k = 9 := by omega
 exact PL s tag ak aj aX Ai Ak ni nk w h h1 h2 hhi
end Go.Proofs.YtoddlphekcihgaaGreatDoor
