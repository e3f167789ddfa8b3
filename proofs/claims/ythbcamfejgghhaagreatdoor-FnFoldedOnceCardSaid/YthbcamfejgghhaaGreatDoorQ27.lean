/- Ho and rJ of the reference. -/
import Derived.Test.YthbcamfejgghhaaGreatDoorQ02
set_option maxRecDepth 100000
set_option maxHeartbeats 8000000
set_option linter.unusedVariables false
set_option linter.unusedSimpArgs false
namespace Go.Proofs.YthbcamfejgghhaaGreatDoor
open Go.IntKind (i64)
open Go.RowKit
def Aq : Code → List ByteArray
 | .seq a b => Aq a ++ Aq b
 | .region _ ops _ => ops.toList.flatMap fun o => match o.op with
   | .buildSlice _ _ ps => ps.toList.map fun p => match p.2 with
     | .const (.string s) => s
     | _ => ByteArray.empty
   | _ => []
 | .block _ c => Aq c
 | .scope c => Aq c
 | _ => []
noncomputable def tT : List ByteArray := match Tryz.f192.body with
 | some c => Aq c
 | none => []
noncomputable def oJ : List ByteArray := match Tryz.f193.body with
 | some c => Aq c
 | none => []
theorem Li : tT.length = 11 := aI
theorem Ba : oJ.length = 44 := aI
theorem M4 : ((List.range 11).all fun j => !(tT.getD j ByteArray.empty).data.toList.isEmpty && decide ((tT.getD j ByteArray.empty).size ≤ 20)) = true := gP
theorem M5 : ((List.range 44).all fun j => ((oJ.getD j ByteArray.empty).data.toList.isEmpty == !sU ((j : Int) + 20)) && decide ((oJ.getD j ByteArray.empty).size ≤ 20)) = true := gP
theorem Lj (w : World) : Calls Tryz.prog 192 #[] w fun e w' => e = .returned (.slice (some (aj w.heap.size 0)) 11 11) ∧ Blk w' w.heap.size 9 (tT.map Value.string).toArray ∧ Below w.heap.size w w' := by
 have HB : ∀ c : Array Value, c = (tT.map Value.string).toArray → Blk (w.alloc (.cells c 9)) w.heap.size 9 (tT.map Value.string).toArray := fun c h => h ▸ Blk.new w _ _
 exact Jp
theorem uz (w : World) : Calls Tryz.prog 193 #[] w fun e w' => e = .returned (.slice (some (aj w.heap.size 0)) 44 44) ∧ Blk w' w.heap.size 9 (oJ.map Value.string).toArray ∧ Below w.heap.size w w' := by
 have HB : ∀ c : Array Value, c = (oJ.map Value.string).toArray → Blk (w.alloc (.cells c 9)) w.heap.size 9 (oJ.map Value.string).toArray := fun c h => h ▸ Blk.new w _ _
 exact Jp
theorem Cv (op : Int) (h1 : 20 ≤ op) (h2 : op < 64) : (oJ.getD (op - 20).toNat ByteArray.empty).toList.isEmpty = !sU op ∧ (oJ.getD (op - 20).toNat ByteArray.empty).size ≤ 20 := by
 have := List.all_eq_true.1 M5 (op - 20).toNat (List.mem_range.2 ah)
 simp only [Bool.and_eq_true, beq_iff_eq, decide_eq_true_eq] at this
 rw [show (((op - 20).toNat : Nat) : Int) + 20 = op by omega] at this
 exact ⟨by rw [ByteArray.toList_eq]; exact this.1, this.2⟩
theorem Hq (op : Int) (w : World) (h1 : 1 ≤ op) (h2 : op ≤ 11) : Calls Tryz.prog 150 (dI op) w (iN op w) := by
 have HO := lH (qh (op := op) ah)
 obtain ⟨j, rfl⟩ : ∃ j : Nat, op = (j : Int) + 1 := ⟨(op - 1).toNat, ah⟩
 have hall := List.all_eq_true.1 M4 j (List.mem_range.2 ah)
 simp only [Bool.and_eq_true, Bool.not_eq_true', decide_eq_true_eq] at hall
 have HM := lH hall
 have hj : j < 11 := ah
 clear hall
 go_in
 go_wp2_with fail
 refine (Lj _).mono ?_; rintro e w1 ⟨rfl, hB, hb⟩
 have hc := lS hB j (by rw [Li]; exact hj)
 clear hB
 generalize tT.getD j ByteArray.empty = t at *
 go_wp2_with fail
 go_ret
 exact ⟨_, rfl, by rw [HO.out, ByteArray.toList_eq]; exact HM.out.1, by have := HM.out.2; omega, hb⟩
theorem Hr (op : Int) (w : World) (h1 : 20 ≤ op) (h2 : op < 64) : Calls Tryz.prog 150 (dI op) w (iN op w) := by
 have HM := lH (Cv op h1 h2)
 have hj : (op - 20).toNat < 44 := ah
 go_in
 go_wp2_with fail
 refine (uz _).mono ?_; rintro e w1 ⟨rfl, hB, hb⟩
 have hc := lS hB (op - 20).toNat (by rw [Ba]; exact hj)
 clear hB
 generalize oJ.getD (op - 20).toNat ByteArray.empty = t at *
 go_wp2_with fail
 go_ret
 exact ⟨_, rfl, HM.out.1, by have := HM.out.2; omega, hb⟩
theorem Dw (w : World) : Calls Tryz.prog 150 (dI 70) w (iN 70 w) := by
 exact mW
theorem Dx (w : World) : Calls Tryz.prog 150 (dI 71) w (iN 71 w) := by
 exact mW
theorem Dy (w : World) : Calls Tryz.prog 150 (dI 72) w (iN 72 w) := by
 exact mW
theorem Dz (w : World) : Calls Tryz.prog 150 (dI 73) w (iN 73 w) := by
 exact mW
theorem DC (w : World) : Calls Tryz.prog 150 (dI 74) w (iN 74 w) := by
 exact mW
theorem DF (w : World) : Calls Tryz.prog 150 (dI 75) w (iN 75 w) := by
 exact mW
theorem DI (w : World) : Calls Tryz.prog 150 (dI 76) w (iN 76 w) := by
 exact mW
theorem DJ (w : World) : Calls Tryz.prog 150 (dI 77) w (iN 77 w) := by
 exact mW
theorem DK (w : World) : Calls Tryz.prog 150 (dI 78) w (iN 78 w) := by
 exact mW
theorem DL (w : World) : Calls Tryz.prog 150 (dI 79) w (iN 79 w) := by
 exact mW
theorem DN (w : World) : Calls Tryz.prog 150 (dI 81) w (iN 81 w) := by
 exact mW
theorem Ht (op : Int) (w : World) (h1 : 220 ≤ op) (h2 : op ≤ 225) : Calls Tryz.prog 150 (dI op) w (iN op w) := by
 exact NQ
theorem Hu (op : Int) (w : World) (h1 : 250 ≤ op) (h2 : op ≤ 254) : Calls Tryz.prog 150 (dI op) w (iN op w) := by
 exact NQ
theorem ED (op : Int) (w : World) (g : op < 1) : Calls Tryz.prog 150 (dI op) w (iN op w) := by
 exact xA
theorem EE (op : Int) (w : World) (g1 : 11 < op) (g2 : op < 20) : Calls Tryz.prog 150 (dI op) w (iN op w) := by
 exact xA
theorem EF (op : Int) (w : World) (g1 : 63 < op) (g2 : op < 70) : Calls Tryz.prog 150 (dI op) w (iN op w) := by
 exact xA
theorem EG (op : Int) (w : World) (g1 : 79 < op) (g2 : op < 81) : Calls Tryz.prog 150 (dI op) w (iN op w) := by
 exact xA
theorem EH (op : Int) (w : World) (g1 : 81 < op) (g2 : op < 220) : Calls Tryz.prog 150 (dI op) w (iN op w) := by
 exact xA
theorem EI (op : Int) (w : World) (g1 : 225 < op) (g2 : op < 250) : Calls Tryz.prog 150 (dI op) w (iN op w) := by
 exact xA
theorem EJ (op : Int) (w : World) (g : 254 < op) : Calls Tryz.prog 150 (dI op) w (iN op w) := by
 exact xA
theorem ru (op : Int) (w : World) : Calls Tryz.prog 150 (dI op) w (iN op w) := by
 by_cases h : op < 1
 ·exact ED op w h
 have g0 := h
 clear h
 by_cases h : op ≤ 11
 ·exact Hq op w ah h
 have g1 := h
 clear h
 by_cases h : op < 20
 ·exact EE op w ah h
 have g2 := h
 clear h
 by_cases h : op < 64
 ·exact Hr op w ah h
 have g3 := h
 clear h
 by_cases h : op < 70
 ·exact EF op w ah h
 have g4 := h
 clear h
 by_cases h : op = 70
 ·subst h; exact Dw w
 have g5 := h
 clear h
 by_cases h : op = 71
 ·subst h; exact Dx w
 have g6 := h
 clear h
 by_cases h : op = 72
 ·subst h; exact Dy w
 have g7 := h
 clear h
 by_cases h : op = 73
 ·subst h; exact Dz w
 have g8 := h
 clear h
 by_cases h : op = 74
 ·subst h; exact DC w
 have g9 := h
 clear h
 by_cases h : op = 75
 ·subst h; exact DF w
 have g10 := h
 clear h
 by_cases h : op = 76
 ·subst h; exact DI w
 have g11 := h
 clear h
 by_cases h : op = 77
 ·subst h; exact DJ w
 have g12 := h
 clear h
 by_cases h : op = 78
 ·subst h; exact DK w
 have g13 := h
 clear h
 by_cases h : op = 79
 ·subst h; exact DL w
 have g14 := h
 clear h
 by_cases h : op < 81
 ·exact EG op w ah h
 have g15 := h
 clear h
 by_cases h : op = 81
 ·subst h; exact DN w
 have g16 := h
 clear h
 by_cases h : op < 220
 ·exact EH op w ah h
 have g17 := h
 clear h
 by_cases h : op ≤ 225
 ·exact Ht op w ah h
 have g18 := h
 clear h
 by_cases h : op < 250
 ·exact EI op w ah h
 have g19 := h
 clear h
 by_cases h : op ≤ 254
 ·exact Hu op w ah h
 have g20 := h
 clear h
 exact EJ op w ah
end Go.Proofs.YthbcamfejgghhaaGreatDoor
