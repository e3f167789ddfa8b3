/- EY and wu of the program. -/
import Derived.Test.YtoddlphekcihgaaGreatDoorQ02
set_option maxRecDepth 100000
set_option maxHeartbeats 8000000
set_option linter.unusedVariables false
set_option linter.unusedSimpArgs false
namespace Go.Proofs.YtoddlphekcihgaaGreatDoor
open Go.RowKit
theorem EZ (op : Int) (w : World) (ht : iw w) (h1 : 1 ≤ op) (h2 : op ≤ 11) : Calls Tryz.prog 158 #[.int .i64 op] w (uI 20 op w) := by
 have HO := lH (uT (op := op) (by omega))
 obtain ⟨j, rfl⟩ : ∃ j : Nat, op = (j : Int) + 1 := ⟨(op - 1).toNat, by omega⟩
 have hj : j < 11 := by omega
 go_enter Tryz.func158, Tryz.ntmps158
 go_wp2_with fail
 refine sZ 11 (by decide) (by decide +kernel) (by decide +kernel) (by decide +kernel) ht ?_
 intro l w1 hd hl hne hB hb
 clear hd
 have hc := sF hB j (by omega)
 have hm := hne (l.getD j ByteArray.empty) (by rw [List.getD, gE (by omega)]; exact List.getElem_mem _)
 have HM := lH hm
 clear hm hne hl hB
 generalize l.getD j ByteArray.empty = t at *
 go_wp2_with fail
 go_ret
 exact ⟨_, rfl, by rw [HO.out]; exact HM.out.1, by have := HM.out.2; omega, hb⟩
theorem zm (op : Int) (w : World) (ht : iw w) (h1 : 20 ≤ op) (h2 : op ≤ 25) : Calls Tryz.prog 158 #[.int .i64 op] w (uI 20 op w) := by
 have HO := lH (uT (op := op) (by omega))
 have hj : (op - 20).toNat < 6 := by omega
 go_enter Tryz.func158, Tryz.ntmps158
 go_wp2_with fail
 refine sZ 6 (by decide) (by decide +kernel) (by decide +kernel) (by decide +kernel) ht ?_
 intro l w1 hd hl hne hB hb
 clear hd
 have hc := sF hB (op - 20).toNat (by omega)
 have hm := hne (l.getD (op - 20).toNat ByteArray.empty) (by rw [List.getD, gE (by omega)]; exact List.getElem_mem _)
 have HM := lH hm
 clear hm hne hl hB
 generalize l.getD (op - 20).toNat ByteArray.empty = t at *
 go_wp2_with fail
 go_ret
 exact ⟨_, rfl, by rw [HO.out]; exact HM.out.1, by have := HM.out.2; omega, hb⟩
theorem E4 (op : Int) (w : World) (ht : iw w) (h1 : 30 ≤ op) (h2 : op ≤ 35) : Calls Tryz.prog 158 #[.int .i64 op] w (uI 20 op w) := by
 have HO := lH (uT (op := op) (by omega))
 have hj : (op - 30).toNat < 6 := by omega
 go_enter Tryz.func158, Tryz.ntmps158
 go_wp2_with fail
 refine sZ 6 (by decide) (by decide +kernel) (by decide +kernel) (by decide +kernel) ht ?_
 intro l w1 hd hl hne hB hb
 clear hd
 have hc := sF hB (op - 30).toNat (by omega)
 have hm := hne (l.getD (op - 30).toNat ByteArray.empty) (by rw [List.getD, gE (by omega)]; exact List.getElem_mem _)
 have HM := lH hm
 clear hm hne hl hB
 generalize l.getD (op - 30).toNat ByteArray.empty = t at *
 go_wp2_with fail
 go_ret
 exact ⟨_, rfl, by rw [HO.out]; exact HM.out.1, by have := HM.out.2; omega, hb⟩
theorem E5 (op : Int) (w : World) (ht : iw w) (h1 : 40 ≤ op) (h2 : op ≤ 47) : Calls Tryz.prog 158 #[.int .i64 op] w (uI 20 op w) := by
 have HO := lH (uT (op := op) (by omega))
 have hj : (op - 40).toNat < 8 := by omega
 go_enter Tryz.func158, Tryz.ntmps158
 go_wp2_with fail
 refine sZ 8 (by decide) (by decide +kernel) (by decide +kernel) (by decide +kernel) ht ?_
 intro l w1 hd hl hne hB hb
 clear hd
 have hc := sF hB (op - 40).toNat (by omega)
 have hm := hne (l.getD (op - 40).toNat ByteArray.empty) (by rw [List.getD, gE (by omega)]; exact List.getElem_mem _)
 have HM := lH hm
 clear hm hne hl hB
 generalize l.getD (op - 40).toNat ByteArray.empty = t at *
 go_wp2_with fail
 go_ret
 exact ⟨_, rfl, by rw [HO.out]; exact HM.out.1, by have := HM.out.2; omega, hb⟩
theorem zn (op : Int) (w : World) (ht : iw w) (h1 : 50 ≤ op) (h2 : op ≤ 54) : Calls Tryz.prog 158 #[.int .i64 op] w (uI 20 op w) := by
 have HO := lH (uT (op := op) (by omega))
 have hj : (op - 50).toNat < 5 := by omega
 go_enter Tryz.func158, Tryz.ntmps158
 go_wp2_with fail
 refine sZ 5 (by decide) (by decide +kernel) (by decide +kernel) (by decide +kernel) ht ?_
 intro l w1 hd hl hne hB hb
 clear hd
 have hc := sF hB (op - 50).toNat (by omega)
 have hm := hne (l.getD (op - 50).toNat ByteArray.empty) (by rw [List.getD, gE (by omega)]; exact List.getElem_mem _)
 have HM := lH hm
 clear hm hne hl hB
 generalize l.getD (op - 50).toNat ByteArray.empty = t at *
 go_wp2_with fail
 go_ret
 exact ⟨_, rfl, by rw [HO.out]; exact HM.out.1, by have := HM.out.2; omega, hb⟩
theorem E6 (op : Int) (w : World) (ht : iw w) (h1 : 60 ≤ op) (h2 : op ≤ 63) : Calls Tryz.prog 158 #[.int .i64 op] w (uI 20 op w) := by
 have HO := lH (uT (op := op) (by omega))
 have hj : (op - 60).toNat < 4 := by omega
 go_enter Tryz.func158, Tryz.ntmps158
 go_wp2_with fail
 refine sZ 4 (by decide) (by decide +kernel) (by decide +kernel) (by decide +kernel) ht ?_
 intro l w1 hd hl hne hB hb
 clear hd
 have hc := sF hB (op - 60).toNat (by omega)
 have hm := hne (l.getD (op - 60).toNat ByteArray.empty) (by rw [List.getD, gE (by omega)]; exact List.getElem_mem _)
 have HM := lH hm
 clear hm hne hl hB
 generalize l.getD (op - 60).toNat ByteArray.empty = t at *
 go_wp2_with fail
 go_ret
 exact ⟨_, rfl, by rw [HO.out]; exact HM.out.1, by have := HM.out.2; omega, hb⟩
theorem E7 (op : Int) (w : World) (ht : iw w) (h1 : 70 ≤ op) (h2 : op ≤ 79) : Calls Tryz.prog 158 #[.int .i64 op] w (uI 20 op w) := by
 have HO := lH (uT (op := op) (by omega))
 have hj : (op - 70).toNat < 10 := by omega
 go_enter Tryz.func158, Tryz.ntmps158
 go_wp2_with fail
 refine sZ 10 (by decide) (by decide +kernel) (by decide +kernel) (by decide +kernel) ht ?_
 intro l w1 hd hl hne hB hb
 clear hd
 have hc := sF hB (op - 70).toNat (by omega)
 have hm := hne (l.getD (op - 70).toNat ByteArray.empty) (by rw [List.getD, gE (by omega)]; exact List.getElem_mem _)
 have HM := lH hm
 clear hm hne hl hB
 generalize l.getD (op - 70).toNat ByteArray.empty = t at *
 go_wp2_with fail
 go_ret
 exact ⟨_, rfl, by rw [HO.out]; exact HM.out.1, by have := HM.out.2; omega, hb⟩
theorem E8 (w : World) : Calls Tryz.prog 158 #[.int .i64 81] w (kW 81 w) := by
 go_enter Tryz.func158, Tryz.ntmps158
 go_wp2_with fail
 go_ret
 exact ⟨_, rfl, by decide +kernel, by decide, bR _ _⟩
theorem E9 (op : Int) (w : World) (ht : iw w) (h1 : 220 ≤ op) (h2 : op ≤ 225) : Calls Tryz.prog 158 #[.int .i64 op] w (kW op w) := by
 have HO := lH (uT (op := op) (by omega))
 have b1 : (op == 81) = false := bF (by omega)
 go_enter Tryz.func158, Tryz.ntmps158
 go_wp2_with fail
 refine (zm (op - 200) _ ht (by omega) (by omega)).mono ?_; rintro e w1 ⟨t, rfl, h0, hs, hb⟩
 clear h0
 go_wp2_with fail
 go_ret
 exact ⟨_, rfl, by rw [HO.out, ByteArray.toList_eq, ByteArray.data_append, Array.toList_append]; simp, by rw [ByteArray.size_append]; have : (⟨#[58, 61]⟩ : ByteArray).size = 2 := rfl; omega, hb⟩
theorem Fa (op : Int) (w : World) (ht : iw w) (h1 : 250 ≤ op) (h2 : op ≤ 254) : Calls Tryz.prog 158 #[.int .i64 op] w (kW op w) := by
 have HO := lH (uT (op := op) (by omega))
 have b1 : (op == 81) = false := bF (by omega)
 go_enter Tryz.func158, Tryz.ntmps158
 go_wp2_with fail
 refine (zn (op - 200) _ ht (by omega) (by omega)).mono ?_; rintro e w1 ⟨t, rfl, h0, hs, hb⟩
 clear h0
 go_wp2_with fail
 go_ret
 exact ⟨_, rfl, by rw [HO.out, ByteArray.toList_eq, ByteArray.data_append, Array.toList_append]; simp, by rw [ByteArray.size_append]; have : (⟨#[58, 61]⟩ : ByteArray).size = 2 := rfl; omega, hb⟩
theorem Dn (op : Int) (w : World) (g : op < 1) : Calls Tryz.prog 158 #[.int .i64 op] w (kW op w) := by
 have HO := lH (tV (op := op) (by omega))
 have b1 : (op == 81) = false := bF (by omega)
 go_enter Tryz.func158, Tryz.ntmps158
 go_wp2_with fail
 go_ret
 exact ⟨_, rfl, by rw [HO.out]; decide +kernel, by decide, bR _ _⟩
theorem Dp (op : Int) (w : World) (g1 : 11 < op) (g2 : op < 20) : Calls Tryz.prog 158 #[.int .i64 op] w (kW op w) := by
 have HO := lH (tV (op := op) (by omega))
 have b1 : (op == 81) = false := bF (by omega)
 go_enter Tryz.func158, Tryz.ntmps158
 go_wp2_with fail
 go_ret
 exact ⟨_, rfl, by rw [HO.out]; decide +kernel, by decide, bR _ _⟩
theorem Dq (op : Int) (w : World) (g1 : 25 < op) (g2 : op < 30) : Calls Tryz.prog 158 #[.int .i64 op] w (kW op w) := by
 have HO := lH (tV (op := op) (by omega))
 have b1 : (op == 81) = false := bF (by omega)
 go_enter Tryz.func158, Tryz.ntmps158
 go_wp2_with fail
 go_ret
 exact ⟨_, rfl, by rw [HO.out]; decide +kernel, by decide, bR _ _⟩
theorem Dr (op : Int) (w : World) (g1 : 35 < op) (g2 : op < 40) : Calls Tryz.prog 158 #[.int .i64 op] w (kW op w) := by
 have HO := lH (tV (op := op) (by omega))
 have b1 : (op == 81) = false := bF (by omega)
 go_enter Tryz.func158, Tryz.ntmps158
 go_wp2_with fail
 go_ret
 exact ⟨_, rfl, by rw [HO.out]; decide +kernel, by decide, bR _ _⟩
theorem Dt (op : Int) (w : World) (g1 : 47 < op) (g2 : op < 50) : Calls Tryz.prog 158 #[.int .i64 op] w (kW op w) := by
 have HO := lH (tV (op := op) (by omega))
 have b1 : (op == 81) = false := bF (by omega)
 go_enter Tryz.func158, Tryz.ntmps158
 go_wp2_with fail
 go_ret
 exact ⟨_, rfl, by rw [HO.out]; decide +kernel, by decide, bR _ _⟩
theorem Du (op : Int) (w : World) (g1 : 54 < op) (g2 : op < 60) : Calls Tryz.prog 158 #[.int .i64 op] w (kW op w) := by
 have HO := lH (tV (op := op) (by omega))
 have b1 : (op == 81) = false := bF (by omega)
 go_enter Tryz.func158, Tryz.ntmps158
 go_wp2_with fail
 go_ret
 exact ⟨_, rfl, by rw [HO.out]; decide +kernel, by decide, bR _ _⟩
theorem Dv (op : Int) (w : World) (g1 : 63 < op) (g2 : op < 70) : Calls Tryz.prog 158 #[.int .i64 op] w (kW op w) := by
 have HO := lH (tV (op := op) (by omega))
 have b1 : (op == 81) = false := bF (by omega)
 go_enter Tryz.func158, Tryz.ntmps158
 go_wp2_with fail
 go_ret
 exact ⟨_, rfl, by rw [HO.out]; decide +kernel, by decide, bR _ _⟩
theorem Dw (op : Int) (w : World) (g1 : 79 < op) (g2 : op < 81) : Calls Tryz.prog 158 #[.int .i64 op] w (kW op w) := by
 have HO := lH (tV (op := op) (by omega))
 have b1 : (op == 81) = false := bF (by omega)
 go_enter Tryz.func158, Tryz.ntmps158
 go_wp2_with fail
 go_ret
 exact ⟨_, rfl, by rw [HO.out]; decide +kernel, by decide, bR _ _⟩
theorem Dx (op : Int) (w : World) (g1 : 81 < op) (g2 : op < 220) : Calls Tryz.prog 158 #[.int .i64 op] w (kW op w) := by
 have HO := lH (tV (op := op) (by omega))
 have b1 : (op == 81) = false := bF (by omega)
 go_enter Tryz.func158, Tryz.ntmps158
 go_wp2_with fail
 go_ret
 exact ⟨_, rfl, by rw [HO.out]; decide +kernel, by decide, bR _ _⟩
theorem Dy (op : Int) (w : World) (g1 : 225 < op) (g2 : op < 250) : Calls Tryz.prog 158 #[.int .i64 op] w (kW op w) := by
 have HO := lH (tV (op := op) (by omega))
 have b1 : (op == 81) = false := bF (by omega)
 go_enter Tryz.func158, Tryz.ntmps158
 go_wp2_with fail
 go_ret
 exact ⟨_, rfl, by rw [HO.out]; decide +kernel, by decide, bR _ _⟩
theorem Dz (op : Int) (w : World) (g : 254 < op) : Calls Tryz.prog 158 #[.int .i64 op] w (kW op w) := by
 have HO := lH (tV (op := op) (by omega))
 have b1 : (op == 81) = false := bF (by omega)
 go_enter Tryz.func158, Tryz.ntmps158
 go_wp2_with fail
 go_ret
 exact ⟨_, rfl, by rw [HO.out]; decide +kernel, by decide, bR _ _⟩
theorem vW (op : Int) (w : World) (ht : iw w) : Calls Tryz.prog 158 #[.int .i64 op] w (kW op w) := by
 by_cases h : op < 1
 ·exact Dn op w h
 have g0 := h
 clear h
 by_cases h : op ≤ 11
 ·exact (EZ op w ht (by omega) h).mono fun _ _ h => h.up (by omega)
 have g1 := h
 clear h
 by_cases h : op < 20
 ·exact Dp op w (by omega) h
 have g2 := h
 clear h
 by_cases h : op ≤ 25
 ·exact (zm op w ht (by omega) h).mono fun _ _ h => h.up (by omega)
 have g3 := h
 clear h
 by_cases h : op < 30
 ·exact Dq op w (by omega) h
 have g4 := h
 clear h
 by_cases h : op ≤ 35
 ·exact (E4 op w ht (by omega) h).mono fun _ _ h => h.up (by omega)
 have g5 := h
 clear h
 by_cases h : op < 40
 ·exact Dr op w (by omega) h
 have g6 := h
 clear h
 by_cases h : op ≤ 47
 ·exact (E5 op w ht (by omega) h).mono fun _ _ h => h.up (by omega)
 have g7 := h
 clear h
 by_cases h : op < 50
 ·exact Dt op w (by omega) h
 have g8 := h
 clear h
 by_cases h : op ≤ 54
 ·exact (zn op w ht (by omega) h).mono fun _ _ h => h.up (by omega)
 have g9 := h
 clear h
 by_cases h : op < 60
 ·exact Du op w (by omega) h
 have g10 := h
 clear h
 by_cases h : op ≤ 63
 ·exact (E6 op w ht (by omega) h).mono fun _ _ h => h.up (by omega)
 have g11 := h
 clear h
 by_cases h : op < 70
 ·exact Dv op w (by omega) h
 have g12 := h
 clear h
 by_cases h : op ≤ 79
 ·exact (E7 op w ht (by omega) h).mono fun _ _ h => h.up (by omega)
 have g13 := h
 clear h
 by_cases h : op < 81
 ·exact Dw op w (by omega) h
 have g14 := h
 clear h
 by_cases h : op = 81
 ·subst h; exact E8 w
 have g15 := h
 clear h
 by_cases h : op < 220
 ·exact Dx op w (by omega) h
 have g16 := h
 clear h
 by_cases h : op ≤ 225
 ·exact E9 op w ht (by omega) h
 have g17 := h
 clear h
 by_cases h : op < 250
 ·exact Dy op w (by omega) h
 have g18 := h
 clear h
 by_cases h : op ≤ 254
 ·exact Fa op w ht (by omega) h
 have g19 := h
 clear h
 exact Dz op w (by omega)
end Go.Proofs.YtoddlphekcihgaaGreatDoor
