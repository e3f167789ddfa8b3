/- wK of the reference: a scan; all kinds. -/
import Derived.Test.YtoddlphekcihgaaGreatDoorQ35
import Derived.Test.YtoddlphekcihgaaGreatDoorQ36
import Derived.Test.YtoddlphekcihgaaGreatDoorQ37
import Derived.Test.YtoddlphekcihgaaGreatDoorQ38
import Derived.Test.YtoddlphekcihgaaGreatDoorQ39
set_option maxRecDepth 100000
set_option maxHeartbeats 40000000
set_option linter.unusedVariables false
set_option linter.unusedSimpArgs false
namespace Go.Proofs.YtoddlphekcihgaaGreatDoor
open Go.RowKit
theorem QG (s : dP) (tag ak : Int) (aj aX : List aQ) (Ai Ak : Option Addr) (ni nk : Nat) (w : World) {g off lo hi lo' hi' : Nat} (h : At w g off lo hi dP.ay s)
 (hi_ : dz w lo' hi' 6 aQ.ay (.slice Ai aj.length ni) aj) (hk_ : dz w lo' hi' 6 aQ.ay (.slice Ak aX.length nk) aX) (hhi : hi' ≤ w.heap.size) :
 Calls Tryz.prog 74 #[.pointer (some ⟨g, off, none⟩), .agg #[Value.int .i64 9, .int .i64 tag, .int .i64 ak, .slice Ai aj.length ni, .slice Ak aX.length nk]] w fun e w' => e = .returned (.bool (fZ s ⟨9, tag, ak, aj, aX⟩)) ∧ Below w.heap.size w w' := by
 obtain ⟨a0, hW⟩ := eZ w 97 #[.int .i64 9, .int .i64 tag, .int .i64 ak, .slice Ai aj.length ni, .slice Ak aX.length nk]
 by_cases hs : ak = 0
 rotate_left
 ·have e0 : (ak != 0) = true := by simp [hs]
  have HO : Hid (fZ s ⟨9, tag, ak, aj, aX⟩ = false) := by show _ = _; simp [fZ, fU, hs]
  clear hs
  go_enter Tryz.func74, Tryz.ntmps74
  go_upto_region 1 with fail
  generalize w.alloc (.cells #[Value.int .i64 9, .int .i64 tag, .int .i64 ak, .slice Ai aj.length ni, .slice Ak aX.length nk] 97) = W at *
  have ca := a0.cell
  have la := a0.lt
  go_wp2_with fail
  go_ret
  exact ⟨ah HO.out.symm, hW⟩
 have e0 : (ak != 0) = false := by simp [hs]
 generalize hV : fZ s ⟨9, tag, ak, aj, aX⟩ = V
 have HE : Hid (V = (decide (tag = 0) && decide (aX.length = 0) && yN s aj)) := by
  show _ = _
  rw [← hV]
  simp [fZ, fU, tK, qV, mK, hs]
 clear hs
 clear hV
 by_cases t0 : tag = 0
 rotate_left
 ·have HO : Hid (V = false) := lH (by rw [HE.out, dF t0]; simp)
  have dt0 : (tag != 0) = true := by simp [t0]
  clear t0 HE
  go_enter Tryz.func74, Tryz.ntmps74
  go_upto_region 1 with fail
  generalize w.alloc (.cells #[Value.int .i64 9, .int .i64 tag, .int .i64 ak, .slice Ai aj.length ni, .slice Ak aX.length nk] 97) = W at *
  have ca := a0.cell
  have la := a0.lt
  go_wp2_with fail
  all_goals go_ret
  all_goals ((try subst_vars); exact ⟨ah (by first | rfl | exact HO.out.symm), by first | exact hW | exact bN hW _⟩)
 have dt0 : (tag != 0) = false := by simp [t0]
 have Ht0 := lH (dT t0)
 clear t0
 by_cases k0 : aX.length = 0
 rotate_left
 ·have HO : Hid (V = false) := lH (by rw [HE.out, dF k0]; simp)
  have dk0 : ((aX.length : Int) != 0) = true := by simp; intro e; rw [e] at k0; exact k0 rfl
  clear k0 HE
  go_enter Tryz.func74, Tryz.ntmps74
  go_upto_region 1 with fail
  generalize w.alloc (.cells #[Value.int .i64 9, .int .i64 tag, .int .i64 ak, .slice Ai aj.length ni, .slice Ak aX.length nk] 97) = W at *
  have ca := a0.cell
  have la := a0.lt
  go_wp2_with fail
  all_goals go_ret
  all_goals ((try subst_vars); exact ⟨ah (by first | rfl | exact HO.out.symm), by first | exact hW | exact bN hW _⟩)
 have dk0 : ((aX.length : Int) != 0) = false := by simp; exact List.eq_nil_of_length_eq_zero k0
 have Hk0 := lH (dT k0)
 clear k0
 by_cases h2 : aj.length = 2
 rotate_left
 ·have HO : Hid (V = false) := lH (by rw [HE.out, GD h2]; simp)
  have d2 : ((aj.length : Int) == 2) = false := by simp; omega
  clear h2 HE
  go_enter Tryz.func74, Tryz.ntmps74
  go_upto_region 1 with fail
  generalize w.alloc (.cells #[Value.int .i64 9, .int .i64 tag, .int .i64 ak, .slice Ai aj.length ni, .slice Ak aX.length nk] 97) = W at *
  have ca := a0.cell
  have la := a0.lt
  go_upto_region 26 with fail
  go_quiet (fail)
  go_wp2_with fail
  all_goals go_ret
  all_goals ((try subst_vars); exact ⟨ah (by first | rfl | exact HO.out.symm), by first | exact hW | exact bN hW _⟩)
 have d2 : ((aj.length : Int) == 2) = true := by simp; omega
 have hln : 2 ≤ aj.length := by omega
 obtain ⟨a, ha⟩ : ∃ c, aj[0]? = some c := ⟨_, gE (by omega)⟩
 obtain ⟨b, hb⟩ : ∃ c, aj[1]? = some c := ⟨_, gE (by omega)⟩
 obtain ⟨g', off', rfl, hg1, hg2, -⟩ := aQ.at_ hi_ (j := 0) ha
 have HC := lH (JI (s := s) h2 ha hb)
 clear h2
 by_cases ka : a.kind = 2
 rotate_left
 ·have HO : Hid (V = false) := lH (by rw [HE.out, HC.out, dF ka]; simp)
  have ea : (a.kind == 2) = false := by simp [ka]
  clear HE HC ka
  go_enter Tryz.func74, Tryz.ntmps74
  go_upto_region 1 with fail
  generalize w.alloc (.cells #[Value.int .i64 9, .int .i64 tag, .int .i64 ak, .slice (some ⟨g', off', none⟩) aj.length ni, .slice Ak aX.length nk] 97) = W at *
  have ca := a0.cell
  have la := a0.lt
  obtain ⟨pa0, pa1, pa2, pa3, pa4, pa5⟩ := dV (hi_.below hW hhi) ha (p := off') (by omega)
  obtain ⟨pb0, pb1, pb2, pb3, pb4, pb5⟩ := dV (hi_.below hW hhi) hb (p := off' + 6) (by omega)
  go_upto_region 26 with fail
  go_quiet (fail)
  go_wp2_with fail
  all_goals go_ret
  all_goals ((try subst_vars); exact ⟨ah (by first | rfl | exact HO.out.symm), by first | exact hW | exact bN hW _⟩)
 have ea : (a.kind == 2) = true := by simp [ka]
 have KA := lH (dT ka)
 clear ka
 by_cases kb : b.kind = 1
 rotate_left
 ·have HO : Hid (V = false) := lH (by rw [HE.out, HC.out, dF kb]; simp)
  have eb : (b.kind == 1) = false := by simp [kb]
  clear HE HC kb
  go_enter Tryz.func74, Tryz.ntmps74
  go_upto_region 1 with fail
  generalize w.alloc (.cells #[Value.int .i64 9, .int .i64 tag, .int .i64 ak, .slice (some ⟨g', off', none⟩) aj.length ni, .slice Ak aX.length nk] 97) = W at *
  have ca := a0.cell
  have la := a0.lt
  obtain ⟨pa0, pa1, pa2, pa3, pa4, pa5⟩ := dV (hi_.below hW hhi) ha (p := off') (by omega)
  obtain ⟨pb0, pb1, pb2, pb3, pb4, pb5⟩ := dV (hi_.below hW hhi) hb (p := off' + 6) (by omega)
  go_upto_region 26 with fail
  go_quiet (fail)
  go_wp2_with fail
  all_goals go_ret
  all_goals ((try subst_vars); exact ⟨ah (by first | rfl | exact HO.out.symm), by first | exact hW | exact bN hW _⟩)
 have eb : (b.kind == 1) = true := by simp [kb]
 have KB := lH (dT kb)
 clear kb
 cases ha2 : cK s a
 have HA := lH ha2
 have HO : Hid (V = false) := lH (by rw [HE.out, HC.out, HA.out]; simp)
 clear HE HC ha2
 rotate_left
 have HA := lH ha2
 clear ha2
 cases hb2 : cK s b
 have HB := lH hb2
 have HO : Hid (V = false) := lH (by rw [HE.out, HC.out, HB.out]; simp)
 clear HE HC hb2
 rotate_left
 rotate_right 2
 iterate 2 focus
  go_enter Tryz.func74, Tryz.ntmps74
  go_upto_region 1 with fail
  generalize w.alloc (.cells #[Value.int .i64 9, .int .i64 tag, .int .i64 ak, .slice (some ⟨g', off', none⟩) aj.length ni, .slice Ak aX.length nk] 97) = W at *
  have ca := a0.cell
  have la := a0.lt
  obtain ⟨pa0, pa1, pa2, pa3, pa4, pa5⟩ := dV (hi_.below hW hhi) ha (p := off') (by omega)
  obtain ⟨pb0, pb1, pb2, pb3, pb4, pb5⟩ := dV (hi_.below hW hhi) hb (p := off' + 6) (by omega)
  go_upto_region 26 with fail
  have hgi : g' < W.heap.size := nL (nL hg2 hhi) hW.size
  have kca := qC (B := W.heap.size) a0 la
  have FB := aW (B := W.heap.size) pa0 hgi
  have Iv := aW (B := W.heap.size) pa1 hgi
  have Iw := aW (B := W.heap.size) pa2 hgi
  have FC := aW (B := W.heap.size) pa3 hgi
  have Iy := aW (B := W.heap.size) pa4 hgi
  have Iz := aW (B := W.heap.size) pa5 hgi
  have FD := aW (B := W.heap.size) pb0 hgi
  have FE := aW (B := W.heap.size) pb1 hgi
  have IB := aW (B := W.heap.size) pb2 hgi
  have IC := aW (B := W.heap.size) pb3 hgi
  have IE := aW (B := W.heap.size) pb4 hgi
  have IG := aW (B := W.heap.size) pb5 hgi
  refine fI (B := W.heap.size) (by kernel_rfl) (by kernel_rfl) ?_
  repeat (go_big_quiet_step (first | (go_at_call_of 76 (Value.agg #[Value.int .i64 a.kind, .int .i64 a.number, .int .i64 a.index, .string a.text, .int .i64 a.eB, .int .i64 a.dW]); exact fB (nR _) ((mH s a _ _ (h.below (Kept.of hW hW.size _)) (aQ.mk_ (lo := 0) (hi := 0))).mono fun _ _ ⟨a, b⟩ => ⟨a.trans (by rw [HA.out]), b⟩)) | (go_at_call_of 76 (Value.agg #[Value.int .i64 b.kind, .int .i64 b.number, .int .i64 b.index, .string b.text, .int .i64 b.eB, .int .i64 b.dW]); exact fB (nR _) ((mH s b _ _ (h.below (Kept.of hW hW.size _)) (aQ.mk_ (lo := 0) (hi := 0))).mono fun _ _ ⟨a, b⟩ => ⟨a.trans (by rw [HB.out]), b⟩)) | (go_at_call 36; exact dB (bJ b.number 1 _ _)) | fail))
  refine wpQuiet_nil ?_
  intro w' hw'
  obtain ⟨v, rfl⟩ := hw'
  replace hW := Kept.of hW hW.size v
  go_wp2_with fail
  all_goals go_ret
  all_goals ((try subst_vars); exact ⟨ah (by first | rfl | exact HO.out.symm), hW⟩)
 have HB := lH hb2
 clear hb2
 have hsz : a.text.size ≤ 120 := Ll HA.out (by simpa using ea)
 have hwr : IntKind.i64.wrap ((a.text.size : Int) + 1) = (a.text.size : Int) + 1 := IntWalk.i64_in _ (by omega)
 have HO : Hid (V = inB b.number 1 ((a.text.size : Int) + 1)) := lH (by rw [HE.out, HC.out, Ht0.out, Hk0.out, KA.out, KB.out, HA.out, HB.out]; simp [inB])
 clear HE HC
 go_enter Tryz.func74, Tryz.ntmps74
 go_upto_region 1 with fail
 generalize w.alloc (.cells #[Value.int .i64 9, .int .i64 tag, .int .i64 ak, .slice (some ⟨g', off', none⟩) aj.length ni, .slice Ak aX.length nk] 97) = W at *
 have ca := a0.cell
 have la := a0.lt
 obtain ⟨pa0, pa1, pa2, pa3, pa4, pa5⟩ := dV (hi_.below hW hhi) ha (p := off') (by omega)
 obtain ⟨pb0, pb1, pb2, pb3, pb4, pb5⟩ := dV (hi_.below hW hhi) hb (p := off' + 6) (by omega)
 go_upto_region 26 with fail
 have hgi : g' < W.heap.size := nL (nL hg2 hhi) hW.size
 have kca := qC (B := W.heap.size) a0 la
 have FB := aW (B := W.heap.size) pa0 hgi
 have Iv := aW (B := W.heap.size) pa1 hgi
 have Iw := aW (B := W.heap.size) pa2 hgi
 have FC := aW (B := W.heap.size) pa3 hgi
 have Iy := aW (B := W.heap.size) pa4 hgi
 have Iz := aW (B := W.heap.size) pa5 hgi
 have FD := aW (B := W.heap.size) pb0 hgi
 have FE := aW (B := W.heap.size) pb1 hgi
 have IB := aW (B := W.heap.size) pb2 hgi
 have IC := aW (B := W.heap.size) pb3 hgi
 have IE := aW (B := W.heap.size) pb4 hgi
 have IG := aW (B := W.heap.size) pb5 hgi
 refine fI (B := W.heap.size) (by kernel_rfl) (by kernel_rfl) ?_
 repeat (go_big_quiet_step (first | (go_at_call_of 76 (Value.agg #[Value.int .i64 a.kind, .int .i64 a.number, .int .i64 a.index, .string a.text, .int .i64 a.eB, .int .i64 a.dW]); exact fB (nR _) ((mH s a _ _ (h.below (Kept.of hW hW.size _)) (aQ.mk_ (lo := 0) (hi := 0))).mono fun _ _ ⟨a, b⟩ => ⟨a.trans (by rw [HA.out]), b⟩)) | (go_at_call_of 76 (Value.agg #[Value.int .i64 b.kind, .int .i64 b.number, .int .i64 b.index, .string b.text, .int .i64 b.eB, .int .i64 b.dW]); exact fB (nR _) ((mH s b _ _ (h.below (Kept.of hW hW.size _)) (aQ.mk_ (lo := 0) (hi := 0))).mono fun _ _ ⟨a, b⟩ => ⟨a.trans (by rw [HB.out]), b⟩)) | (go_at_call 36; exact dB (bJ b.number 1 _ _)) | fail))
 refine wpQuiet_nil ?_
 intro w' hw'
 obtain ⟨v, rfl⟩ := hw'
 replace hW := Kept.of hW hW.size v
 go_wp2_with fail
 all_goals go_ret
 all_goals ((try subst_vars); exact ⟨ah (by first | rfl | exact HO.out.symm), hW⟩)
theorem CW (s : dP) (c : fV) (x : Value) (w : World) {g off lo hi lo' hi' : Nat} (h : At w g off lo hi dP.ay s) (hx : fA w lo' hi' fV.ay x c) (hhi : hi' ≤ w.heap.size) :
 Calls Tryz.prog 74 #[.pointer (some ⟨g, off, none⟩), x] w fun e w' => e = .returned (.bool (fZ s c)) ∧ Below w.heap.size w w' := by
 obtain ⟨Ai, ni, Ak, nk, rfl, h1, -, -, h2, -, -⟩ := fV.form hx
 obtain ⟨k, tag, ak, aj, aX⟩ := c
 by_cases k0 : k < 1
 ·exact Oi s tag ak k aj aX Ai Ak ni nk w h h1 h2 hhi k0
 by_cases kh : 9 < k
 ·exact Oj s tag ak k aj aX Ai Ak ni nk w h h1 h2 hhi kh
 by_cases k1 : k = 1
 ·subst k1; exact QD s tag ak aj aX Ai Ak ni nk w h h1 h2 hhi
 by_cases k2 : k = 2
 ·subst k2; exact QE s tag ak aj aX Ai Ak ni nk w h h1 h2 hhi
 by_cases k3 : k = 3
 ·subst k3; exact Qy s tag ak aj aX Ai Ak ni nk w h h1 h2 hhi
 by_cases k4 : k = 4
 ·subst k4; exact Qz s tag ak aj aX Ai Ak ni nk w h h1 h2 hhi
 by_cases k5 : k = 5
 ·subst k5; exact QB s tag ak aj aX Ai Ak ni nk w h h1 h2 hhi
 by_cases k6 : k = 6
 ·subst k6; exact QC s tag ak aj aX Ai Ak ni nk w h h1 h2 hhi
 by_cases k7 : k = 7
 ·subst k7; exact QF s tag ak aj aX Ai Ak ni nk w h h1 h2 hhi
 by_cases k8 : k = 8
 ·subst k8; exact QA s tag ak aj aX Ai Ak ni nk w h h1 h2 hhi
 obtain rfl : k = 9 := by omega
 exact QG s tag ak aj aX Ai Ak ni nk w h h1 h2 hhi
end Go.Proofs.YtoddlphekcihgaaGreatDoor
