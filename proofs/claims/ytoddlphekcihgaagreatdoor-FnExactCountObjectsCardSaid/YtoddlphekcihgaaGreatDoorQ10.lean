/- wu of the program. EY and wu of the reference. wu of the reference. TU, RY of the laws at two values that  -/
import Derived.Test.YtoddlphekcihgaaGreatDoorQ03
import Derived.Test.YtoddlphekcihgaaGreatDoorQ09
set_option maxRecDepth 100000
set_option maxHeartbeats 8000000
set_option linter.unusedVariables false
set_option linter.unusedSimpArgs false
namespace Go.Proofs.YtoddlphekcihgaaGreatDoor
open Go.RowKit
theorem yA {a b c d : Int} (h1 : a = c) (h2 : b = d) : Ending.returned (.tuple #[.int .i64 a, .int .i64 b]) = .returned (.tuple #[.int .i64 c, .int .i64 d]) := by rw [h1, h2]
theorem yT (op : Int) (w : World) (ht : iw w) : Calls Tryz.prog 136 #[.int .i64 op] w fun e w' => e = .returned (.tuple #[.int .i64 (iZ op), .int .i64 (jc op)]) ∧ Below w.heap.size w w' := by
 cases hok : EG op with
 | false =>
   have HL : Hid (iZ op = 0) := by show _ = _; simp [iZ, hok]
   have HH : Hid (jc op = -1) := by show _ = _; simp [jc, hok]
   have HT := lH (vW op w ht)
   have HK := lH hok
   clear hok
   go_enter Tryz.func136, Tryz.ntmps136
   go_wp2_with fail
   refine HT.out.mono ?_; rintro e w1 ⟨t, rfl, h0, hs, hb⟩
   rw [HK.out] at h0
   have h1 : t.toList = [] := by simpa using h0
   go_wp2_with fail
   go_ret2
   exact ⟨yA HL.out.symm HH.out.symm, hb⟩
 | true =>
   have HT := lH (vW op w ht)
   have HK := lH hok
   by_cases h11 : op ≤ 11
   have HL : Hid (iZ op = 1) := by show _ = _; unfold iZ; rw [if_neg (by rw [hok]; decide)]; rw [if_pos (by omega)]
   have HH : Hid (jc op = 1) := by show _ = _; unfold jc; rw [if_neg (by rw [hok]; decide)]; rw [if_pos (by omega)]
   clear hok
   rotate_left
   by_cases h81 : op = 81
   have HL : Hid (iZ op = 1) := by show _ = _; unfold iZ; rw [if_neg (by rw [hok]; decide)]; rw [if_pos (by omega)]
   have HH : Hid (jc op = 1) := by show _ = _; unfold jc; rw [if_neg (by rw [hok]; decide)]; rw [if_pos (by omega)]
   have b81 : (op == 81) = true := beq_iff_eq.2 (by omega)
   clear hok h81
   rotate_left
   by_cases h71 : op = 71
   have HL : Hid (iZ op = 3) := by show _ = _; unfold iZ; rw [if_neg (by rw [hok]; decide)]; rw [if_neg (by omega)]; rw [if_pos (by omega)]
   have HH : Hid (jc op = 3) := by show _ = _; unfold jc; rw [if_neg (by rw [hok]; decide)]; rw [if_neg (by omega)]; rw [if_pos (by omega)]
   have b81 : (op == 81) = false := bF (by omega)
   have b71 : (op == 71) = true := beq_iff_eq.2 (by omega)
   clear hok h71
   rotate_left
   by_cases h72 : op = 72
   have HL : Hid (iZ op = 3) := by show _ = _; unfold iZ; rw [if_neg (by rw [hok]; decide)]; rw [if_neg (by omega)]; rw [if_pos (by omega)]
   have HH : Hid (jc op = 3) := by show _ = _; unfold jc; rw [if_neg (by rw [hok]; decide)]; rw [if_neg (by omega)]; rw [if_pos (by omega)]
   have b81 : (op == 81) = false := bF (by omega)
   have b71 : (op == 71) = false := bF (by omega)
   have b72 : (op == 72) = true := beq_iff_eq.2 (by omega)
   clear hok h72
   rotate_left
   by_cases h73 : op = 73
   have HL : Hid (iZ op = 2) := by show _ = _; unfold iZ; rw [if_neg (by rw [hok]; decide)]; rw [if_neg (by omega)]; rw [if_neg (by omega)]; rw [if_pos (by omega)]
   have HH : Hid (jc op = 8) := by show _ = _; unfold jc; rw [if_neg (by rw [hok]; decide)]; rw [if_neg (by omega)]; rw [if_neg (by omega)]; rw [if_pos (by omega)]
   have b81 : (op == 81) = false := bF (by omega)
   have b71 : (op == 71) = false := bF (by omega)
   have b72 : (op == 72) = false := bF (by omega)
   have b73 : (op == 73) = true := beq_iff_eq.2 (by omega)
   clear hok h73
   rotate_left
   by_cases h74 : op = 74
   have HL : Hid (iZ op = 0) := by show _ = _; unfold iZ; rw [if_neg (by rw [hok]; decide)]; rw [if_neg (by omega)]; rw [if_neg (by omega)]; rw [if_neg (by omega)]; rw [if_pos (by omega)]
   have HH : Hid (jc op = 8) := by show _ = _; unfold jc; rw [if_neg (by rw [hok]; decide)]; rw [if_neg (by omega)]; rw [if_neg (by omega)]; rw [if_neg (by omega)]; rw [if_pos (by omega)]
   have b81 : (op == 81) = false := bF (by omega)
   have b71 : (op == 71) = false := bF (by omega)
   have b72 : (op == 72) = false := bF (by omega)
   have b73 : (op == 73) = false := bF (by omega)
   have b74 : (op == 74) = true := beq_iff_eq.2 (by omega)
   clear hok h74
   rotate_left
   have HL : Hid (iZ op = 2) := by show _ = _; unfold iZ; rw [if_neg (by rw [hok]; decide)]; rw [if_neg (by omega)]; rw [if_neg (by omega)]; rw [if_neg (by omega)]; rw [if_neg (by omega)]
   have HH : Hid (jc op = 2) := by show _ = _; unfold jc; rw [if_neg (by rw [hok]; decide)]; rw [if_neg (by omega)]; rw [if_neg (by omega)]; rw [if_neg (by omega)]; rw [if_neg (by omega)]
   have b81 : (op == 81) = false := bF (by omega)
   have b71 : (op == 71) = false := bF (by omega)
   have b72 : (op == 72) = false := bF (by omega)
   have b73 : (op == 73) = false := bF (by omega)
   have b74 : (op == 74) = false := bF (by omega)
   clear hok
   iterate 7 focus
    go_enter Tryz.func136, Tryz.ntmps136
    go_wp2_with fail
    refine HT.out.mono ?_; rintro e w1 ⟨t, rfl, h0, hs, hb⟩
    rw [HK.out] at h0
    simp only [Bool.not_true] at h0
    have h1 : ¬ t.toList = [] := by intro h; rw [h] at h0; cases h0
    go_wp2_with fail
    go_ret2
    exact ⟨yA HL.out.symm HH.out.symm, hb⟩
def zS : Code → List ByteArray
 | .seq a b => zS a ++ zS b
 | .region _ ops _ => ops.toList.flatMap fun o => match o.op with
   | .buildSlice _ _ ps => ps.toList.map fun p => match p.2 with
     | .const (.string s) => s
     | _ => ByteArray.empty
   | _ => []
 | .block _ c => zS c
 | .scope c => zS c
 | _ => []
noncomputable def wU : List ByteArray := match Tryz.f163.body with
 | some c => zS c
 | none => []
noncomputable def tQ : List ByteArray := match Tryz.f164.body with
 | some c => zS c
 | none => []
theorem Gx : wU.length = 11 := by kernel_rfl
theorem xO : tQ.length = 44 := by kernel_rfl
theorem Ie : ((List.range 11).all fun j => !(wU.getD j ByteArray.empty).data.toList.isEmpty && decide ((wU.getD j ByteArray.empty).size ≤ 20)) = true := by decide +kernel
theorem Ig : ((List.range 44).all fun j => ((tQ.getD j ByteArray.empty).data.toList.isEmpty == !EG ((j : Int) + 20)) && decide ((tQ.getD j ByteArray.empty).size ≤ 20)) = true := by decide +kernel
theorem Gy (w : World) : Calls Tryz.prog 163 #[] w fun e w' => e = .returned (.slice (some ⟨w.heap.size, 0, none⟩) 11 11) ∧ Blk w' w.heap.size 9 (wU.map Value.string).toArray ∧ Below w.heap.size w w' := by
 have HB : ∀ c : Array Value, c = (wU.map Value.string).toArray → Blk (w.alloc (.cells c 9)) w.heap.size 9 (wU.map Value.string).toArray := fun c h => h ▸ Blk.new w _ _
 have H := lH HB
 clear HB
 go_enter Tryz.func163, Tryz.ntmps163
 go_wp2_with fail
 go_ret
 exact ⟨rfl, H.out _ (by kernel_rfl), bA _ _⟩
theorem vN (w : World) : Calls Tryz.prog 164 #[] w fun e w' => e = .returned (.slice (some ⟨w.heap.size, 0, none⟩) 44 44) ∧ Blk w' w.heap.size 9 (tQ.map Value.string).toArray ∧ Below w.heap.size w w' := by
 have HB : ∀ c : Array Value, c = (tQ.map Value.string).toArray → Blk (w.alloc (.cells c 9)) w.heap.size 9 (tQ.map Value.string).toArray := fun c h => h ▸ Blk.new w _ _
 have H := lH HB
 clear HB
 go_enter Tryz.func164, Tryz.ntmps164
 go_wp2_with fail
 go_ret
 exact ⟨rfl, H.out _ (by kernel_rfl), bA _ _⟩
theorem yU (op : Int) (h1 : 20 ≤ op) (h2 : op < 64) : (tQ.getD (op - 20).toNat ByteArray.empty).toList.isEmpty = !EG op ∧ (tQ.getD (op - 20).toNat ByteArray.empty).size ≤ 20 := by
 have := List.all_eq_true.1 Ig (op - 20).toNat (List.mem_range.2 (by omega))
 simp only [Bool.and_eq_true, beq_iff_eq, decide_eq_true_eq] at this
 rw [show (((op - 20).toNat : Nat) : Int) + 20 = op by omega] at this
 exact ⟨by rw [ByteArray.toList_eq]; exact this.1, this.2⟩
theorem Fb (op : Int) (w : World) (h1 : 1 ≤ op) (h2 : op ≤ 11) : Calls Tryz.prog 150 #[.int .i64 op] w (kW op w) := by
 have HO := lH (uT (op := op) (by omega))
 obtain ⟨j, rfl⟩ : ∃ j : Nat, op = (j : Int) + 1 := ⟨(op - 1).toNat, by omega⟩
 have hall := List.all_eq_true.1 Ie j (List.mem_range.2 (by omega))
 simp only [Bool.and_eq_true, Bool.not_eq_true', decide_eq_true_eq] at hall
 have HM := lH hall
 have hj : j < 11 := by omega
 clear hall
 go_enter Tryz.func150, Tryz.ntmps150
 go_wp2_with fail
 refine (Gy _).mono ?_; rintro e w1 ⟨rfl, hB, hb⟩
 have hc := sF hB j (by rw [Gx]; exact hj)
 clear hB
 generalize wU.getD j ByteArray.empty = t at *
 go_wp2_with fail
 go_ret
 exact ⟨_, rfl, by rw [HO.out, ByteArray.toList_eq]; exact HM.out.1, by have := HM.out.2; omega, hb⟩
theorem Fe (op : Int) (w : World) (h1 : 20 ≤ op) (h2 : op < 64) : Calls Tryz.prog 150 #[.int .i64 op] w (kW op w) := by
 have HM := lH (yU op h1 h2)
 have hj : (op - 20).toNat < 44 := by omega
 go_enter Tryz.func150, Tryz.ntmps150
 go_wp2_with fail
 refine (vN _).mono ?_; rintro e w1 ⟨rfl, hB, hb⟩
 have hc := sF hB (op - 20).toNat (by rw [xO]; exact hj)
 clear hB
 generalize tQ.getD (op - 20).toNat ByteArray.empty = t at *
 go_wp2_with fail
 go_ret
 exact ⟨_, rfl, HM.out.1, by have := HM.out.2; omega, hb⟩
theorem BZ (w : World) : Calls Tryz.prog 150 #[.int .i64 70] w (kW 70 w) := by
 go_enter Tryz.func150, Tryz.ntmps150
 go_wp2_with fail
 go_ret
 exact ⟨_, rfl, by decide +kernel, by decide, bR _ _⟩
theorem Ca (w : World) : Calls Tryz.prog 150 #[.int .i64 71] w (kW 71 w) := by
 go_enter Tryz.func150, Tryz.ntmps150
 go_wp2_with fail
 go_ret
 exact ⟨_, rfl, by decide +kernel, by decide, bR _ _⟩
theorem Cb (w : World) : Calls Tryz.prog 150 #[.int .i64 72] w (kW 72 w) := by
 go_enter Tryz.func150, Tryz.ntmps150
 go_wp2_with fail
 go_ret
 exact ⟨_, rfl, by decide +kernel, by decide, bR _ _⟩
theorem Cc (w : World) : Calls Tryz.prog 150 #[.int .i64 73] w (kW 73 w) := by
 go_enter Tryz.func150, Tryz.ntmps150
 go_wp2_with fail
 go_ret
 exact ⟨_, rfl, by decide +kernel, by decide, bR _ _⟩
theorem Ce (w : World) : Calls Tryz.prog 150 #[.int .i64 74] w (kW 74 w) := by
 go_enter Tryz.func150, Tryz.ntmps150
 go_wp2_with fail
 go_ret
 exact ⟨_, rfl, by decide +kernel, by decide, bR _ _⟩
theorem Cf (w : World) : Calls Tryz.prog 150 #[.int .i64 75] w (kW 75 w) := by
 go_enter Tryz.func150, Tryz.ntmps150
 go_wp2_with fail
 go_ret
 exact ⟨_, rfl, by decide +kernel, by decide, bR _ _⟩
theorem Cg (w : World) : Calls Tryz.prog 150 #[.int .i64 76] w (kW 76 w) := by
 go_enter Tryz.func150, Tryz.ntmps150
 go_wp2_with fail
 go_ret
 exact ⟨_, rfl, by decide +kernel, by decide, bR _ _⟩
theorem Ch (w : World) : Calls Tryz.prog 150 #[.int .i64 77] w (kW 77 w) := by
 go_enter Tryz.func150, Tryz.ntmps150
 go_wp2_with fail
 go_ret
 exact ⟨_, rfl, by decide +kernel, by decide, bR _ _⟩
theorem Cj (w : World) : Calls Tryz.prog 150 #[.int .i64 78] w (kW 78 w) := by
 go_enter Tryz.func150, Tryz.ntmps150
 go_wp2_with fail
 go_ret
 exact ⟨_, rfl, by decide +kernel, by decide, bR _ _⟩
theorem Cm (w : World) : Calls Tryz.prog 150 #[.int .i64 79] w (kW 79 w) := by
 go_enter Tryz.func150, Tryz.ntmps150
 go_wp2_with fail
 go_ret
 exact ⟨_, rfl, by decide +kernel, by decide, bR _ _⟩
theorem Cn (w : World) : Calls Tryz.prog 150 #[.int .i64 81] w (kW 81 w) := by
 go_enter Tryz.func150, Tryz.ntmps150
 go_wp2_with fail
 go_ret
 exact ⟨_, rfl, by decide +kernel, by decide, bR _ _⟩
theorem Fg (op : Int) (w : World) (h1 : 220 ≤ op) (h2 : op ≤ 225) : Calls Tryz.prog 150 #[.int .i64 op] w (kW op w) := by
 have HO := lH (uT (op := op) (by omega))
 have hm := yU (op - 200) (by omega) (by omega)
 rw [show op - 200 - 20 = op - 220 by omega] at hm
 have hs := hm.2
 have hj : (op - 220).toNat < 44 := by omega
 clear hm
 have b70 : (op == 70) = false := bF (by omega)
 have b71 : (op == 71) = false := bF (by omega)
 have b72 : (op == 72) = false := bF (by omega)
 have b73 : (op == 73) = false := bF (by omega)
 have b74 : (op == 74) = false := bF (by omega)
 have b75 : (op == 75) = false := bF (by omega)
 have b76 : (op == 76) = false := bF (by omega)
 have b77 : (op == 77) = false := bF (by omega)
 have b78 : (op == 78) = false := bF (by omega)
 have b79 : (op == 79) = false := bF (by omega)
 have b81 : (op == 81) = false := bF (by omega)
 go_enter Tryz.func150, Tryz.ntmps150
 go_wp2_with fail
 refine (vN _).mono ?_; rintro e w1 ⟨rfl, hB, hb⟩
 have hc := sF hB (op - 220).toNat (by rw [xO]; exact hj)
 clear hB
 generalize tQ.getD (op - 220).toNat ByteArray.empty = t at *
 go_wp2_with fail
 go_ret
 exact ⟨_, rfl, by rw [HO.out, ByteArray.toList_eq, ByteArray.data_append, Array.toList_append]; simp, by rw [ByteArray.size_append]; have : (⟨#[58, 61]⟩ : ByteArray).size = 2 := rfl; omega, hb⟩
theorem Fh (op : Int) (w : World) (h1 : 250 ≤ op) (h2 : op ≤ 254) : Calls Tryz.prog 150 #[.int .i64 op] w (kW op w) := by
 have HO := lH (uT (op := op) (by omega))
 have hm := yU (op - 200) (by omega) (by omega)
 rw [show op - 200 - 20 = op - 220 by omega] at hm
 have hs := hm.2
 have hj : (op - 220).toNat < 44 := by omega
 clear hm
 have b70 : (op == 70) = false := bF (by omega)
 have b71 : (op == 71) = false := bF (by omega)
 have b72 : (op == 72) = false := bF (by omega)
 have b73 : (op == 73) = false := bF (by omega)
 have b74 : (op == 74) = false := bF (by omega)
 have b75 : (op == 75) = false := bF (by omega)
 have b76 : (op == 76) = false := bF (by omega)
 have b77 : (op == 77) = false := bF (by omega)
 have b78 : (op == 78) = false := bF (by omega)
 have b79 : (op == 79) = false := bF (by omega)
 have b81 : (op == 81) = false := bF (by omega)
 go_enter Tryz.func150, Tryz.ntmps150
 go_wp2_with fail
 refine (vN _).mono ?_; rintro e w1 ⟨rfl, hB, hb⟩
 have hc := sF hB (op - 220).toNat (by rw [xO]; exact hj)
 clear hB
 generalize tQ.getD (op - 220).toNat ByteArray.empty = t at *
 go_wp2_with fail
 go_ret
 exact ⟨_, rfl, by rw [HO.out, ByteArray.toList_eq, ByteArray.data_append, Array.toList_append]; simp, by rw [ByteArray.size_append]; have : (⟨#[58, 61]⟩ : ByteArray).size = 2 := rfl; omega, hb⟩
theorem DC (op : Int) (w : World) (g : op < 1) : Calls Tryz.prog 150 #[.int .i64 op] w (kW op w) := by
 have HO := lH (tV (op := op) (by omega))
 have b70 : (op == 70) = false := bF (by omega)
 have b71 : (op == 71) = false := bF (by omega)
 have b72 : (op == 72) = false := bF (by omega)
 have b73 : (op == 73) = false := bF (by omega)
 have b74 : (op == 74) = false := bF (by omega)
 have b75 : (op == 75) = false := bF (by omega)
 have b76 : (op == 76) = false := bF (by omega)
 have b77 : (op == 77) = false := bF (by omega)
 have b78 : (op == 78) = false := bF (by omega)
 have b79 : (op == 79) = false := bF (by omega)
 have b81 : (op == 81) = false := bF (by omega)
 go_enter Tryz.func150, Tryz.ntmps150
 go_wp2_with fail
 go_ret
 exact ⟨_, rfl, by rw [HO.out]; decide +kernel, by decide, bR _ _⟩
theorem DF (op : Int) (w : World) (g1 : 11 < op) (g2 : op < 20) : Calls Tryz.prog 150 #[.int .i64 op] w (kW op w) := by
 have HO := lH (tV (op := op) (by omega))
 have b70 : (op == 70) = false := bF (by omega)
 have b71 : (op == 71) = false := bF (by omega)
 have b72 : (op == 72) = false := bF (by omega)
 have b73 : (op == 73) = false := bF (by omega)
 have b74 : (op == 74) = false := bF (by omega)
 have b75 : (op == 75) = false := bF (by omega)
 have b76 : (op == 76) = false := bF (by omega)
 have b77 : (op == 77) = false := bF (by omega)
 have b78 : (op == 78) = false := bF (by omega)
 have b79 : (op == 79) = false := bF (by omega)
 have b81 : (op == 81) = false := bF (by omega)
 go_enter Tryz.func150, Tryz.ntmps150
 go_wp2_with fail
 go_ret
 exact ⟨_, rfl, by rw [HO.out]; decide +kernel, by decide, bR _ _⟩
theorem DI (op : Int) (w : World) (g1 : 63 < op) (g2 : op < 70) : Calls Tryz.prog 150 #[.int .i64 op] w (kW op w) := by
 have HO := lH (tV (op := op) (by omega))
 have b70 : (op == 70) = false := bF (by omega)
 have b71 : (op == 71) = false := bF (by omega)
 have b72 : (op == 72) = false := bF (by omega)
 have b73 : (op == 73) = false := bF (by omega)
 have b74 : (op == 74) = false := bF (by omega)
 have b75 : (op == 75) = false := bF (by omega)
 have b76 : (op == 76) = false := bF (by omega)
 have b77 : (op == 77) = false := bF (by omega)
 have b78 : (op == 78) = false := bF (by omega)
 have b79 : (op == 79) = false := bF (by omega)
 have b81 : (op == 81) = false := bF (by omega)
 go_enter Tryz.func150, Tryz.ntmps150
 go_wp2_with fail
 go_ret
 exact ⟨_, rfl, by rw [HO.out]; decide +kernel, by decide, bR _ _⟩
theorem DJ (op : Int) (w : World) (g1 : 79 < op) (g2 : op < 81) : Calls Tryz.prog 150 #[.int .i64 op] w (kW op w) := by
 have HO := lH (tV (op := op) (by omega))
 have b70 : (op == 70) = false := bF (by omega)
 have b71 : (op == 71) = false := bF (by omega)
 have b72 : (op == 72) = false := bF (by omega)
 have b73 : (op == 73) = false := bF (by omega)
 have b74 : (op == 74) = false := bF (by omega)
 have b75 : (op == 75) = false := bF (by omega)
 have b76 : (op == 76) = false := bF (by omega)
 have b77 : (op == 77) = false := bF (by omega)
 have b78 : (op == 78) = false := bF (by omega)
 have b79 : (op == 79) = false := bF (by omega)
 have b81 : (op == 81) = false := bF (by omega)
 go_enter Tryz.func150, Tryz.ntmps150
 go_wp2_with fail
 go_ret
 exact ⟨_, rfl, by rw [HO.out]; decide +kernel, by decide, bR _ _⟩
theorem DK (op : Int) (w : World) (g1 : 81 < op) (g2 : op < 220) : Calls Tryz.prog 150 #[.int .i64 op] w (kW op w) := by
 have HO := lH (tV (op := op) (by omega))
 have b70 : (op == 70) = false := bF (by omega)
 have b71 : (op == 71) = false := bF (by omega)
 have b72 : (op == 72) = false := bF (by omega)
 have b73 : (op == 73) = false := bF (by omega)
 have b74 : (op == 74) = false := bF (by omega)
 have b75 : (op == 75) = false := bF (by omega)
 have b76 : (op == 76) = false := bF (by omega)
 have b77 : (op == 77) = false := bF (by omega)
 have b78 : (op == 78) = false := bF (by omega)
 have b79 : (op == 79) = false := bF (by omega)
 have b81 : (op == 81) = false := bF (by omega)
 go_enter Tryz.func150, Tryz.ntmps150
 go_wp2_with fail
 go_ret
 exact ⟨_, rfl, by rw [HO.out]; decide +kernel, by decide, bR _ _⟩
theorem DL (op : Int) (w : World) (g1 : 225 < op) (g2 : op < 250) : Calls Tryz.prog 150 #[.int .i64 op] w (kW op w) := by
 have HO := lH (tV (op := op) (by omega))
 have b70 : (op == 70) = false := bF (by omega)
 have b71 : (op == 71) = false := bF (by omega)
 have b72 : (op == 72) = false := bF (by omega)
 have b73 : (op == 73) = false := bF (by omega)
 have b74 : (op == 74) = false := bF (by omega)
 have b75 : (op == 75) = false := bF (by omega)
 have b76 : (op == 76) = false := bF (by omega)
 have b77 : (op == 77) = false := bF (by omega)
 have b78 : (op == 78) = false := bF (by omega)
 have b79 : (op == 79) = false := bF (by omega)
 have b81 : (op == 81) = false := bF (by omega)
 go_enter Tryz.func150, Tryz.ntmps150
 go_wp2_with fail
 go_ret
 exact ⟨_, rfl, by rw [HO.out]; decide +kernel, by decide, bR _ _⟩
theorem DN (op : Int) (w : World) (g : 254 < op) : Calls Tryz.prog 150 #[.int .i64 op] w (kW op w) := by
 have HO := lH (tV (op := op) (by omega))
 have b70 : (op == 70) = false := bF (by omega)
 have b71 : (op == 71) = false := bF (by omega)
 have b72 : (op == 72) = false := bF (by omega)
 have b73 : (op == 73) = false := bF (by omega)
 have b74 : (op == 74) = false := bF (by omega)
 have b75 : (op == 75) = false := bF (by omega)
 have b76 : (op == 76) = false := bF (by omega)
 have b77 : (op == 77) = false := bF (by omega)
 have b78 : (op == 78) = false := bF (by omega)
 have b79 : (op == 79) = false := bF (by omega)
 have b81 : (op == 81) = false := bF (by omega)
 go_enter Tryz.func150, Tryz.ntmps150
 go_wp2_with fail
 go_ret
 exact ⟨_, rfl, by rw [HO.out]; decide +kernel, by decide, bR _ _⟩
theorem vX (op : Int) (w : World) : Calls Tryz.prog 150 #[.int .i64 op] w (kW op w) := by
 by_cases h : op < 1
 ·exact DC op w h
 have g0 := h
 clear h
 by_cases h : op ≤ 11
 ·exact Fb op w (by omega) h
 have g1 := h
 clear h
 by_cases h : op < 20
 ·exact DF op w (by omega) h
 have g2 := h
 clear h
 by_cases h : op < 64
 ·exact Fe op w (by omega) h
 have g3 := h
 clear h
 by_cases h : op < 70
 ·exact DI op w (by omega) h
 have g4 := h
 clear h
 by_cases h : op = 70
 ·subst h; exact BZ w
 have g5 := h
 clear h
 by_cases h : op = 71
 ·subst h; exact Ca w
 have g6 := h
 clear h
 by_cases h : op = 72
 ·subst h; exact Cb w
 have g7 := h
 clear h
 by_cases h : op = 73
 ·subst h; exact Cc w
 have g8 := h
 clear h
 by_cases h : op = 74
 ·subst h; exact Ce w
 have g9 := h
 clear h
 by_cases h : op = 75
 ·subst h; exact Cf w
 have g10 := h
 clear h
 by_cases h : op = 76
 ·subst h; exact Cg w
 have g11 := h
 clear h
 by_cases h : op = 77
 ·subst h; exact Ch w
 have g12 := h
 clear h
 by_cases h : op = 78
 ·subst h; exact Cj w
 have g13 := h
 clear h
 by_cases h : op = 79
 ·subst h; exact Cm w
 have g14 := h
 clear h
 by_cases h : op < 81
 ·exact DJ op w (by omega) h
 have g15 := h
 clear h
 by_cases h : op = 81
 ·subst h; exact Cn w
 have g16 := h
 clear h
 by_cases h : op < 220
 ·exact DK op w (by omega) h
 have g17 := h
 clear h
 by_cases h : op ≤ 225
 ·exact Fg op w (by omega) h
 have g18 := h
 clear h
 by_cases h : op < 250
 ·exact DL op w (by omega) h
 have g19 := h
 clear h
 by_cases h : op ≤ 254
 ·exact Fh op w (by omega) h
 have g20 := h
 clear h
 exact DN op w (by omega)
theorem yB {a b c d : Int} (h1 : a = c) (h2 : b = d) : Ending.returned (.tuple #[.int .i64 a, .int .i64 b]) = .returned (.tuple #[.int .i64 c, .int .i64 d]) := by rw [h1, h2]
theorem vO (op : Int) (w : World) : Calls Tryz.prog 120 #[.int .i64 op] w fun e w' => e = .returned (.tuple #[.int .i64 (iZ op), .int .i64 (jc op)]) ∧ Below w.heap.size w w' := by
 cases hok : EG op with
 | false =>
   have HL : Hid (iZ op = 0) := by show _ = _; simp [iZ, hok]
   have HH : Hid (jc op = -1) := by show _ = _; simp [jc, hok]
   have HT := lH (vX op w)
   have HK := lH hok
   clear hok
   go_enter Tryz.func120, Tryz.ntmps120
   go_wp2_with fail
   refine HT.out.mono ?_; rintro e w1 ⟨t, rfl, h0, hs, hb⟩
   rw [HK.out] at h0
   have h1 : t.toList = [] := by simpa using h0
   go_wp2_with fail
   go_ret2
   exact ⟨yB HL.out.symm HH.out.symm, hb⟩
 | true =>
   have HT := lH (vX op w)
   have HK := lH hok
   by_cases h11 : op ≤ 11
   have HL : Hid (iZ op = 1) := by show _ = _; unfold iZ; rw [if_neg (by rw [hok]; decide)]; rw [if_pos (by omega)]
   have HH : Hid (jc op = 1) := by show _ = _; unfold jc; rw [if_neg (by rw [hok]; decide)]; rw [if_pos (by omega)]
   clear hok
   rotate_left
   by_cases h81 : op = 81
   have HL : Hid (iZ op = 1) := by show _ = _; unfold iZ; rw [if_neg (by rw [hok]; decide)]; rw [if_pos (by omega)]
   have HH : Hid (jc op = 1) := by show _ = _; unfold jc; rw [if_neg (by rw [hok]; decide)]; rw [if_pos (by omega)]
   have b81 : (op == 81) = true := beq_iff_eq.2 (by omega)
   clear hok h81
   rotate_left
   by_cases h71 : op = 71
   have HL : Hid (iZ op = 3) := by show _ = _; unfold iZ; rw [if_neg (by rw [hok]; decide)]; rw [if_neg (by omega)]; rw [if_pos (by omega)]
   have HH : Hid (jc op = 3) := by show _ = _; unfold jc; rw [if_neg (by rw [hok]; decide)]; rw [if_neg (by omega)]; rw [if_pos (by omega)]
   have b81 : (op == 81) = false := bF (by omega)
   have b71 : (op == 71) = true := beq_iff_eq.2 (by omega)
   clear hok h71
   rotate_left
   by_cases h72 : op = 72
   have HL : Hid (iZ op = 3) := by show _ = _; unfold iZ; rw [if_neg (by rw [hok]; decide)]; rw [if_neg (by omega)]; rw [if_pos (by omega)]
   have HH : Hid (jc op = 3) := by show _ = _; unfold jc; rw [if_neg (by rw [hok]; decide)]; rw [if_neg (by omega)]; rw [if_pos (by omega)]
   have b81 : (op == 81) = false := bF (by omega)
   have b71 : (op == 71) = false := bF (by omega)
   have b72 : (op == 72) = true := beq_iff_eq.2 (by omega)
   clear hok h72
   rotate_left
   by_cases h73 : op = 73
   have HL : Hid (iZ op = 2) := by show _ = _; unfold iZ; rw [if_neg (by rw [hok]; decide)]; rw [if_neg (by omega)]; rw [if_neg (by omega)]; rw [if_pos (by omega)]
   have HH : Hid (jc op = 8) := by show _ = _; unfold jc; rw [if_neg (by rw [hok]; decide)]; rw [if_neg (by omega)]; rw [if_neg (by omega)]; rw [if_pos (by omega)]
   have b81 : (op == 81) = false := bF (by omega)
   have b71 : (op == 71) = false := bF (by omega)
   have b72 : (op == 72) = false := bF (by omega)
   have b73 : (op == 73) = true := beq_iff_eq.2 (by omega)
   clear hok h73
   rotate_left
   by_cases h74 : op = 74
   have HL : Hid (iZ op = 0) := by show _ = _; unfold iZ; rw [if_neg (by rw [hok]; decide)]; rw [if_neg (by omega)]; rw [if_neg (by omega)]; rw [if_neg (by omega)]; rw [if_pos (by omega)]
   have HH : Hid (jc op = 8) := by show _ = _; unfold jc; rw [if_neg (by rw [hok]; decide)]; rw [if_neg (by omega)]; rw [if_neg (by omega)]; rw [if_neg (by omega)]; rw [if_pos (by omega)]
   have b81 : (op == 81) = false := bF (by omega)
   have b71 : (op == 71) = false := bF (by omega)
   have b72 : (op == 72) = false := bF (by omega)
   have b73 : (op == 73) = false := bF (by omega)
   have b74 : (op == 74) = true := beq_iff_eq.2 (by omega)
   clear hok h74
   rotate_left
   have HL : Hid (iZ op = 2) := by show _ = _; unfold iZ; rw [if_neg (by rw [hok]; decide)]; rw [if_neg (by omega)]; rw [if_neg (by omega)]; rw [if_neg (by omega)]; rw [if_neg (by omega)]
   have HH : Hid (jc op = 2) := by show _ = _; unfold jc; rw [if_neg (by rw [hok]; decide)]; rw [if_neg (by omega)]; rw [if_neg (by omega)]; rw [if_neg (by omega)]; rw [if_neg (by omega)]
   have b81 : (op == 81) = false := bF (by omega)
   have b71 : (op == 71) = false := bF (by omega)
   have b72 : (op == 72) = false := bF (by omega)
   have b73 : (op == 73) = false := bF (by omega)
   have b74 : (op == 74) = false := bF (by omega)
   clear hok
   iterate 7 focus
    go_enter Tryz.func120, Tryz.ntmps120
    go_wp2_with fail
    refine HT.out.mono ?_; rintro e w1 ⟨t, rfl, h0, hs, hb⟩
    rw [HK.out] at h0
    simp only [Bool.not_true] at h0
    have h1 : ¬ t.toList = [] := by intro h; rw [h] at h0; cases h0
    go_wp2_with fail
    go_ret2
    exact ⟨yB HL.out.symm HH.out.symm, hb⟩
theorem AP (c : aQ) (x y : Value) (w : World) (lo hi lo' hi' : Nat) (h : fA w lo hi aQ.ay x c) (h' : fA w lo' hi' aQ.ay y c) (hhi : hi ≤ w.heap.size) (eP : hi' ≤ w.heap.size) :
 Calls Tryz.prog 25 #[x, y] w fun e w' => e = .returned (.bool true) ∧ Below w.heap.size w w' := by
 obtain rfl := aQ.form h
 obtain rfl := aQ.form h'
 have K3 : (c.kind != c.kind) = false := by simp
 have TV : (c.number != c.number) = false := by simp
 have Uz : (c.index != c.index) = false := by simp
 have RE := str_eq c.text
 have RZ : (c.eB != c.eB) = false := by simp
 have QU : (c.dW != c.dW) = false := by simp
 have hw0 : Below w.heap.size w ((w.alloc (.cells #[Value.int .i64 c.kind, .int .i64 c.number, .int .i64 c.index, .string c.text, .int .i64 c.eB, .int .i64 c.dW] 56)).alloc (.cells #[Value.int .i64 c.kind, .int .i64 c.number, .int .i64 c.index, .string c.text, .int .i64 c.eB, .int .i64 c.dW] 56)) := (bA _ _).alloc (by simp) _
 have a0 := (Blk.new w 56 #[Value.int .i64 c.kind, .int .i64 c.number, .int .i64 c.index, .string c.text, .int .i64 c.eB, .int .i64 c.dW]).alloc (.cells #[Value.int .i64 c.kind, .int .i64 c.number, .int .i64 c.index, .string c.text, .int .i64 c.eB, .int .i64 c.dW] 56)
 have e0 := Blk.newAt (w.alloc (.cells #[Value.int .i64 c.kind, .int .i64 c.number, .int .i64 c.index, .string c.text, .int .i64 c.eB, .int .i64 c.dW] 56)) 56 #[Value.int .i64 c.kind, .int .i64 c.number, .int .i64 c.index, .string c.text, .int .i64 c.eB, .int .i64 c.dW] (w.heap.size + 1) (by simp)
 go_enter Tryz.func25, Tryz.ntmps25
 go_wp2_with fail
 refine (Hy c.set _ _ _ lo hi lo' hi' (CsT.mk_) (CsT.mk_) (nT hhi hw0.size) (nT eP hw0.size)).mono ?_; rintro e w1 ⟨rfl, hb1⟩
 have hw1 : Below w.heap.size w w1 := hw0.trans (hb1.mono hw0.size)
 have a1 := a0.later hb1
 have e1 := e0.later hb1
 have ca := a1.cell
 have ce := e1.cell
 have la := a1.lt
 have le := e1.lt
 clear hb1
 go_wp2_with fail
 go_ret
 exact ⟨rfl, hw1⟩
theorem rV (l : List aQ) (v u : Value) (w : World) (lo hi lo' hi' : Nat) (h : dz w lo hi 6 aQ.ay v l) (h' : dz w lo' hi' 6 aQ.ay u l) (hhi : hi ≤ w.heap.size) (eP : hi' ≤ w.heap.size) :
 Calls Tryz.prog 59 #[v, u] w fun e w' => e = .returned (.bool true) ∧ Below w.heap.size w w' := by
 obtain ⟨A, cap, rfl, hc1, hc2⟩ := h.shape
 obtain ⟨A', cap', rfl, hc1', hc2'⟩ := h'.shape
 unfold maxLen at hc2 hc2'
 have hne : ((l.length : Int) != (l.length : Int)) = false := by simp
 go_enter Tryz.func59, Tryz.ntmps59
 go_wp2_with fail
 go_loopw [5] (fun i wr => ∃ k : Nat, k ≤ l.length ∧ i = .int .i64 k ∧ Below w.heap.size w wr) (fun i _ => l.length - (intOf i).toNat)
 case atStart => exact ⟨0, nZ _, rfl, bR _ _⟩
 case round =>
  obtain ⟨k, hk, rfl, hb⟩ := hrel
  obtain ⟨wo, rfl⟩ := nW wr
  have hz := hb.size
  by_cases hlt : k < l.length
  ·obtain ⟨c, hc⟩ : ∃ c, l[k]? = some c := ⟨_, gE hlt⟩
   obtain ⟨g, off, rfl, hg1, hg2, hmem, hrep, q0, q1, q2, q3, q4, q5⟩ := aQ.at_ (h.below hb hhi) hc
   obtain ⟨g', off', rfl, hg1', wE, tF, qE, p0, p1, p2, p3, p4, p5⟩ := aQ.at_ (h'.below hb eP) hc
   have e0 : (0 : Int) ≤ (k : Int) := by omega
   have e8 : (k : Int) < (l.length : Int) := by omega
   have y1 : hi ≤ wo.drew.heap.size := nT hhi hz
   have y2 : hi' ≤ wo.drew.heap.size := nT eP hz
   have t1 := nL hg2 y1
   have t2 := nL wE y2
   clear hc hmem tF
   go_wp2_with fail
   go_region_held3 (fun w' => (w'.cell? ⟨g, off + k * 6, none⟩ = some (.int .i64 c.kind) ∧ w'.cell? ⟨g, off + k * 6 + 1, none⟩ = some (.int .i64 c.number) ∧ w'.cell? ⟨g, off + k * 6 + 2, none⟩ = some (.int .i64 c.index) ∧ w'.cell? ⟨g, off + k * 6 + 3, none⟩ = some (.string c.text) ∧ w'.cell? ⟨g, off + k * 6 + 4, none⟩ = some (.int .i64 c.eB) ∧ w'.cell? ⟨g, off + k * 6 + 5, none⟩ = some (.int .i64 c.dW)) ∧ (w'.cell? ⟨g', off' + k * 6, none⟩ = some (.int .i64 c.kind) ∧ w'.cell? ⟨g', off' + k * 6 + 1, none⟩ = some (.int .i64 c.number) ∧ w'.cell? ⟨g', off' + k * 6 + 2, none⟩ = some (.int .i64 c.index) ∧ w'.cell? ⟨g', off' + k * 6 + 3, none⟩ = some (.string c.text) ∧ w'.cell? ⟨g', off' + k * 6 + 4, none⟩ = some (.int .i64 c.eB) ∧ w'.cell? ⟨g', off' + k * 6 + 5, none⟩ = some (.int .i64 c.dW)))
    (first | exact ⟨⟨q0, q1, q2, q3, q4, q5⟩, p0, p1, p2, p3, p4, p5⟩ | exact ⟨⟨(hbA.cell t1).trans q0, (hbA.cell t1).trans q1, (hbA.cell t1).trans q2, (hbA.cell t1).trans q3, (hbA.cell t1).trans q4, (hbA.cell t1).trans q5⟩, (hbA.cell t2).trans p0, (hbA.cell t2).trans p1, (hbA.cell t2).trans p2, (hbA.cell t2).trans p3, (hbA.cell t2).trans p4, (hbA.cell t2).trans p5⟩)
    ((go_at_call 25; refine (AP c _ _ _ _ _ _ _ (hrep.same (Same.refl _).drew) (qE.same (Same.refl _).drew) y1 y2).mono ?_; rintro e wA ⟨rfl, hbA⟩))
   have hb2 : Below w.heap.size w wA := hb.drew.trans (hbA.mono hz)
   clear hrep qE q0 q1 q2 q3 q4 q5 p0 p1 p2 p3 p4 p5
   go_wp2_with fail
   go_roundw
   case rel => exact ⟨k + 1, by omega, by go_num, hb2⟩
   case measure => simp [intOf]; omega
  ·obtain rfl : k = l.length := by omega
   go_wp2_with fail
   go_ret
   exact ⟨rfl, hb⟩
theorem Ih (c : kH) (x y : Value) (w : World) (lo hi lo' hi' : Nat) (h : fA w lo hi kH.ay x c) (h' : fA w lo' hi' kH.ay y c) (hhi : hi ≤ w.heap.size) (eP : hi' ≤ w.heap.size) :
 Calls Tryz.prog 143 #[x, y] w fun e w' => e = .returned (.bool true) ∧ Below w.heap.size w w' := by
 obtain rfl := kH.form h
 obtain rfl := kH.form h'
 have Vg : (c.fail != c.fail) = false := by simp
 have Na : (c.height != c.height) = false := by simp
 have KO : (c.dx != c.dx) = false := by simp
 have OU : (c.eT != c.eT) = false := by simp
 have Po : (c.count != c.count) = false := by simp
 have hw0 : Below w.heap.size w ((w.alloc (.cells #[Value.int .i64 c.fail, .int .i64 c.height, .int .i64 c.dx, .int .i64 c.eT, .int .i64 c.count] 208)).alloc (.cells #[Value.int .i64 c.fail, .int .i64 c.height, .int .i64 c.dx, .int .i64 c.eT, .int .i64 c.count] 208)) := (bA _ _).alloc (by simp) _
 have a0 := (Blk.new w 208 #[Value.int .i64 c.fail, .int .i64 c.height, .int .i64 c.dx, .int .i64 c.eT, .int .i64 c.count]).alloc (.cells #[Value.int .i64 c.fail, .int .i64 c.height, .int .i64 c.dx, .int .i64 c.eT, .int .i64 c.count] 208)
 have e0 := Blk.newAt (w.alloc (.cells #[Value.int .i64 c.fail, .int .i64 c.height, .int .i64 c.dx, .int .i64 c.eT, .int .i64 c.count] 208)) 208 #[Value.int .i64 c.fail, .int .i64 c.height, .int .i64 c.dx, .int .i64 c.eT, .int .i64 c.count] (w.heap.size + 1) (by simp)
 go_enter Tryz.func143, Tryz.ntmps143
 go_wp2_with fail
 go_ret
 exact ⟨rfl, hw0⟩
theorem AQ (l : List kH) (v u : Value) (w : World) (lo hi lo' hi' : Nat) (h : dz w lo hi 5 kH.ay v l) (h' : dz w lo' hi' 5 kH.ay u l) (hhi : hi ≤ w.heap.size) (eP : hi' ≤ w.heap.size) :
 Calls Tryz.prog 108 #[v, u] w fun e w' => e = .returned (.bool true) ∧ Below w.heap.size w w' := by
 obtain ⟨A, cap, rfl, hc1, hc2⟩ := h.shape
 obtain ⟨A', cap', rfl, hc1', hc2'⟩ := h'.shape
 unfold maxLen at hc2 hc2'
 have hne : ((l.length : Int) != (l.length : Int)) = false := by simp
 go_enter Tryz.func108, Tryz.ntmps108
 go_wp2_with fail
 go_loopw [5] (fun i wr => ∃ k : Nat, k ≤ l.length ∧ i = .int .i64 k ∧ Below w.heap.size w wr) (fun i _ => l.length - (intOf i).toNat)
 case atStart => exact ⟨0, nZ _, rfl, bR _ _⟩
 case round =>
  obtain ⟨k, hk, rfl, hb⟩ := hrel
  obtain ⟨wo, rfl⟩ := nW wr
  have hz := hb.size
  by_cases hlt : k < l.length
  ·obtain ⟨c, hc⟩ : ∃ c, l[k]? = some c := ⟨_, gE hlt⟩
   obtain ⟨g, off, rfl, hg1, hg2, hmem, hrep, q0, q1, q2, q3, q4⟩ := kH.at_ (h.below hb hhi) hc
   obtain ⟨g', off', rfl, hg1', wE, tF, qE, p0, p1, p2, p3, p4⟩ := kH.at_ (h'.below hb eP) hc
   have e0 : (0 : Int) ≤ (k : Int) := by omega
   have e8 : (k : Int) < (l.length : Int) := by omega
   have y1 : hi ≤ wo.drew.heap.size := nT hhi hz
   have y2 : hi' ≤ wo.drew.heap.size := nT eP hz
   have t1 := nL hg2 y1
   have t2 := nL wE y2
   clear hc hmem tF
   go_wp2_with fail
   go_region_held3 (fun w' => (w'.cell? ⟨g, off + k * 5, none⟩ = some (.int .i64 c.fail) ∧ w'.cell? ⟨g, off + k * 5 + 1, none⟩ = some (.int .i64 c.height) ∧ w'.cell? ⟨g, off + k * 5 + 2, none⟩ = some (.int .i64 c.dx) ∧ w'.cell? ⟨g, off + k * 5 + 3, none⟩ = some (.int .i64 c.eT) ∧ w'.cell? ⟨g, off + k * 5 + 4, none⟩ = some (.int .i64 c.count)) ∧ (w'.cell? ⟨g', off' + k * 5, none⟩ = some (.int .i64 c.fail) ∧ w'.cell? ⟨g', off' + k * 5 + 1, none⟩ = some (.int .i64 c.height) ∧ w'.cell? ⟨g', off' + k * 5 + 2, none⟩ = some (.int .i64 c.dx) ∧ w'.cell? ⟨g', off' + k * 5 + 3, none⟩ = some (.int .i64 c.eT) ∧ w'.cell? ⟨g', off' + k * 5 + 4, none⟩ = some (.int .i64 c.count)))
    (first | exact ⟨⟨q0, q1, q2, q3, q4⟩, p0, p1, p2, p3, p4⟩ | exact ⟨⟨(hbA.cell t1).trans q0, (hbA.cell t1).trans q1, (hbA.cell t1).trans q2, (hbA.cell t1).trans q3, (hbA.cell t1).trans q4⟩, (hbA.cell t2).trans p0, (hbA.cell t2).trans p1, (hbA.cell t2).trans p2, (hbA.cell t2).trans p3, (hbA.cell t2).trans p4⟩)
    ((go_at_call 143; refine (Ih c _ _ _ _ _ _ _ (hrep.same (Same.refl _).drew) (qE.same (Same.refl _).drew) y1 y2).mono ?_; rintro e wA ⟨rfl, hbA⟩))
   have hb2 : Below w.heap.size w wA := hb.drew.trans (hbA.mono hz)
   clear hrep qE q0 q1 q2 q3 q4 p0 p1 p2 p3 p4
   go_wp2_with fail
   go_roundw
   case rel => exact ⟨k + 1, by omega, by go_num, hb2⟩
   case measure => simp [intOf]; omega
  ·obtain rfl : k = l.length := by omega
   go_wp2_with fail
   go_ret
   exact ⟨rfl, hb⟩
end Go.Proofs.YtoddlphekcihgaaGreatDoor
