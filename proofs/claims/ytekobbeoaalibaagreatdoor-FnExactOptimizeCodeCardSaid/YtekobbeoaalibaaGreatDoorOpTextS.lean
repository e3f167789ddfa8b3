/- OperatorText and OperatorArity of the reference. -/
import Derived.Test.YtekobbeoaalibaaGreatDoorOpDefs
namespace Go.Proofs.YtekobbeoaalibaaGreatDoor
open Go.RowKit

/-- the strings that a slice literal lays -/
def litsIn : Code → List ByteArray
  | .seq a b => litsIn a ++ litsIn b
  | .region _ ops _ => ops.toList.flatMap fun o => match o.op with
    | .buildSlice _ _ ps => ps.toList.map fun p => match p.2 with
      | .const (.string s) => s
      | _ => ByteArray.empty
    | _ => []
  | .block _ c => litsIn c
  | .scope c => litsIn c
  | _ => []
noncomputable def specOps : List ByteArray := match Tryz.f146.body with
  | some c => litsIn c
  | none => []
noncomputable def specBin : List ByteArray := match Tryz.f147.body with
  | some c => litsIn c
  | none => []
theorem specOps_len : specOps.length = 11 := by kernel_rfl
theorem specBin_len : specBin.length = 44 := by kernel_rfl
theorem specOps_ok : ((List.range 11).all fun j => !(specOps.getD j ByteArray.empty).data.toList.isEmpty && decide ((specOps.getD j ByteArray.empty).size ≤ 20)) = true := by decide +kernel
theorem specBin_ok : ((List.range 44).all fun j => ((specBin.getD j ByteArray.empty).data.toList.isEmpty == !opOk ((j : Int) + 20)) && decide ((specBin.getD j ByteArray.empty).size ≤ 20)) = true := by decide +kernel
set_option maxRecDepth 100000 in
theorem spec_l10Ops (w : World) : Calls Tryz.prog 146 #[] w fun e w' => e = .returned (.slice (some ⟨w.heap.size, 0, none⟩) 11 11) ∧ Blk w' w.heap.size 9 (specOps.map Value.string).toArray ∧ Below w.heap.size w w' := by
  have HB : ∀ c : Array Value, c = (specOps.map Value.string).toArray → Blk (w.alloc (.cells c 9)) w.heap.size 9 (specOps.map Value.string).toArray := fun c h => h ▸ Blk.new w _ _
  have H := Lib.hid HB
  clear HB
  go_enter Tryz.func146, Tryz.ntmps146
  go_wp2_with fail
  go_ret
  exact ⟨rfl, H.out _ (by kernel_rfl), (Below.refl _ _).alloc (Nat.le_refl _) _⟩
set_option maxRecDepth 100000 in
theorem spec_l10Binary (w : World) : Calls Tryz.prog 147 #[] w fun e w' => e = .returned (.slice (some ⟨w.heap.size, 0, none⟩) 44 44) ∧ Blk w' w.heap.size 9 (specBin.map Value.string).toArray ∧ Below w.heap.size w w' := by
  have HB : ∀ c : Array Value, c = (specBin.map Value.string).toArray → Blk (w.alloc (.cells c 9)) w.heap.size 9 (specBin.map Value.string).toArray := fun c h => h ▸ Blk.new w _ _
  have H := Lib.hid HB
  clear HB
  go_enter Tryz.func147, Tryz.ntmps147
  go_wp2_with fail
  go_ret
  exact ⟨rfl, H.out _ (by kernel_rfl), (Below.refl _ _).alloc (Nat.le_refl _) _⟩
theorem specBin_at (op : Int) (h1 : 20 ≤ op) (h2 : op < 64) : (specBin.getD (op - 20).toNat ByteArray.empty).toList.isEmpty = !opOk op ∧ (specBin.getD (op - 20).toNat ByteArray.empty).size ≤ 20 := by
  have := List.all_eq_true.1 specBin_ok (op - 20).toNat (List.mem_range.2 (by omega))
  simp only [Bool.and_eq_true, beq_iff_eq, decide_eq_true_eq] at this
  rw [show (((op - 20).toNat : Nat) : Int) + 20 = op by omega] at this
  exact ⟨by rw [ByteArray.toList_eq]; exact this.1, this.2⟩
set_option maxRecDepth 100000 in
theorem spec_opText0 (op : Int) (w : World) (h1 : 1 ≤ op) (h2 : op ≤ 11) : Calls Tryz.prog 136 #[.int .i64 op] w (OpText op w) := by
  have HO := Lib.hid (ok_yes (op := op) (by omega))
  obtain ⟨j, rfl⟩ : ∃ j : Nat, op = (j : Int) + 1 := ⟨(op - 1).toNat, by omega⟩
  have hall := List.all_eq_true.1 specOps_ok j (List.mem_range.2 (by omega))
  simp only [Bool.and_eq_true, Bool.not_eq_true', decide_eq_true_eq] at hall
  have HM := Lib.hid hall
  have hj : j < 11 := by omega
  clear hall
  go_enter Tryz.func136, Tryz.ntmps136
  go_wp2_with fail
  refine (spec_l10Ops _).mono ?_; rintro e w1 ⟨rfl, hB, hb⟩
  have hc := text_at hB j (by rw [specOps_len]; exact hj)
  clear hB
  generalize specOps.getD j ByteArray.empty = t at *
  go_wp2_with fail
  go_ret
  exact ⟨_, rfl, by rw [HO.out, ByteArray.toList_eq]; exact HM.out.1, by have := HM.out.2; omega, hb⟩
set_option maxRecDepth 100000 in
theorem spec_opText1 (op : Int) (w : World) (h1 : 20 ≤ op) (h2 : op < 64) : Calls Tryz.prog 136 #[.int .i64 op] w (OpText op w) := by
  have HM := Lib.hid (specBin_at op h1 h2)
  have hj : (op - 20).toNat < 44 := by omega
  go_enter Tryz.func136, Tryz.ntmps136
  go_wp2_with fail
  refine (spec_l10Binary _).mono ?_; rintro e w1 ⟨rfl, hB, hb⟩
  have hc := text_at hB (op - 20).toNat (by rw [specBin_len]; exact hj)
  clear hB
  generalize specBin.getD (op - 20).toNat ByteArray.empty = t at *
  go_wp2_with fail
  go_ret
  exact ⟨_, rfl, HM.out.1, by have := HM.out.2; omega, hb⟩
set_option maxRecDepth 100000 in
theorem spec_opText_70 (w : World) : Calls Tryz.prog 136 #[.int .i64 70] w (OpText 70 w) := by
  go_enter Tryz.func136, Tryz.ntmps136
  go_wp2_with fail
  go_ret
  exact ⟨_, rfl, by decide +kernel, by decide, Below.refl _ _⟩
set_option maxRecDepth 100000 in
theorem spec_opText_71 (w : World) : Calls Tryz.prog 136 #[.int .i64 71] w (OpText 71 w) := by
  go_enter Tryz.func136, Tryz.ntmps136
  go_wp2_with fail
  go_ret
  exact ⟨_, rfl, by decide +kernel, by decide, Below.refl _ _⟩
set_option maxRecDepth 100000 in
theorem spec_opText_72 (w : World) : Calls Tryz.prog 136 #[.int .i64 72] w (OpText 72 w) := by
  go_enter Tryz.func136, Tryz.ntmps136
  go_wp2_with fail
  go_ret
  exact ⟨_, rfl, by decide +kernel, by decide, Below.refl _ _⟩
set_option maxRecDepth 100000 in
theorem spec_opText_73 (w : World) : Calls Tryz.prog 136 #[.int .i64 73] w (OpText 73 w) := by
  go_enter Tryz.func136, Tryz.ntmps136
  go_wp2_with fail
  go_ret
  exact ⟨_, rfl, by decide +kernel, by decide, Below.refl _ _⟩
set_option maxRecDepth 100000 in
theorem spec_opText_74 (w : World) : Calls Tryz.prog 136 #[.int .i64 74] w (OpText 74 w) := by
  go_enter Tryz.func136, Tryz.ntmps136
  go_wp2_with fail
  go_ret
  exact ⟨_, rfl, by decide +kernel, by decide, Below.refl _ _⟩
set_option maxRecDepth 100000 in
theorem spec_opText_75 (w : World) : Calls Tryz.prog 136 #[.int .i64 75] w (OpText 75 w) := by
  go_enter Tryz.func136, Tryz.ntmps136
  go_wp2_with fail
  go_ret
  exact ⟨_, rfl, by decide +kernel, by decide, Below.refl _ _⟩
set_option maxRecDepth 100000 in
theorem spec_opText_76 (w : World) : Calls Tryz.prog 136 #[.int .i64 76] w (OpText 76 w) := by
  go_enter Tryz.func136, Tryz.ntmps136
  go_wp2_with fail
  go_ret
  exact ⟨_, rfl, by decide +kernel, by decide, Below.refl _ _⟩
set_option maxRecDepth 100000 in
theorem spec_opText_77 (w : World) : Calls Tryz.prog 136 #[.int .i64 77] w (OpText 77 w) := by
  go_enter Tryz.func136, Tryz.ntmps136
  go_wp2_with fail
  go_ret
  exact ⟨_, rfl, by decide +kernel, by decide, Below.refl _ _⟩
set_option maxRecDepth 100000 in
theorem spec_opText_78 (w : World) : Calls Tryz.prog 136 #[.int .i64 78] w (OpText 78 w) := by
  go_enter Tryz.func136, Tryz.ntmps136
  go_wp2_with fail
  go_ret
  exact ⟨_, rfl, by decide +kernel, by decide, Below.refl _ _⟩
set_option maxRecDepth 100000 in
theorem spec_opText_79 (w : World) : Calls Tryz.prog 136 #[.int .i64 79] w (OpText 79 w) := by
  go_enter Tryz.func136, Tryz.ntmps136
  go_wp2_with fail
  go_ret
  exact ⟨_, rfl, by decide +kernel, by decide, Below.refl _ _⟩
set_option maxRecDepth 100000 in
theorem spec_opText_81 (w : World) : Calls Tryz.prog 136 #[.int .i64 81] w (OpText 81 w) := by
  go_enter Tryz.func136, Tryz.ntmps136
  go_wp2_with fail
  go_ret
  exact ⟨_, rfl, by decide +kernel, by decide, Below.refl _ _⟩
set_option maxRecDepth 100000 in
theorem spec_opText2 (op : Int) (w : World) (h1 : 220 ≤ op) (h2 : op ≤ 225) : Calls Tryz.prog 136 #[.int .i64 op] w (OpText op w) := by
  have HO := Lib.hid (ok_yes (op := op) (by omega))
  have hm := specBin_at (op - 200) (by omega) (by omega)
  rw [show op - 200 - 20 = op - 220 by omega] at hm
  have hs := hm.2
  have hj : (op - 220).toNat < 44 := by omega
  clear hm
  have b70 : (op == 70) = false := beq_eq_false_iff_ne.2 (by omega)
  have b71 : (op == 71) = false := beq_eq_false_iff_ne.2 (by omega)
  have b72 : (op == 72) = false := beq_eq_false_iff_ne.2 (by omega)
  have b73 : (op == 73) = false := beq_eq_false_iff_ne.2 (by omega)
  have b74 : (op == 74) = false := beq_eq_false_iff_ne.2 (by omega)
  have b75 : (op == 75) = false := beq_eq_false_iff_ne.2 (by omega)
  have b76 : (op == 76) = false := beq_eq_false_iff_ne.2 (by omega)
  have b77 : (op == 77) = false := beq_eq_false_iff_ne.2 (by omega)
  have b78 : (op == 78) = false := beq_eq_false_iff_ne.2 (by omega)
  have b79 : (op == 79) = false := beq_eq_false_iff_ne.2 (by omega)
  have b81 : (op == 81) = false := beq_eq_false_iff_ne.2 (by omega)
  go_enter Tryz.func136, Tryz.ntmps136
  go_wp2_with fail
  refine (spec_l10Binary _).mono ?_; rintro e w1 ⟨rfl, hB, hb⟩
  have hc := text_at hB (op - 220).toNat (by rw [specBin_len]; exact hj)
  clear hB
  generalize specBin.getD (op - 220).toNat ByteArray.empty = t at *
  go_wp2_with fail
  go_ret
  exact ⟨_, rfl, by rw [HO.out, ByteArray.toList_eq, ByteArray.data_append, Array.toList_append]; simp, by rw [ByteArray.size_append]; have : (⟨#[58, 61]⟩ : ByteArray).size = 2 := rfl; omega, hb⟩
set_option maxRecDepth 100000 in
theorem spec_opText3 (op : Int) (w : World) (h1 : 250 ≤ op) (h2 : op ≤ 254) : Calls Tryz.prog 136 #[.int .i64 op] w (OpText op w) := by
  have HO := Lib.hid (ok_yes (op := op) (by omega))
  have hm := specBin_at (op - 200) (by omega) (by omega)
  rw [show op - 200 - 20 = op - 220 by omega] at hm
  have hs := hm.2
  have hj : (op - 220).toNat < 44 := by omega
  clear hm
  have b70 : (op == 70) = false := beq_eq_false_iff_ne.2 (by omega)
  have b71 : (op == 71) = false := beq_eq_false_iff_ne.2 (by omega)
  have b72 : (op == 72) = false := beq_eq_false_iff_ne.2 (by omega)
  have b73 : (op == 73) = false := beq_eq_false_iff_ne.2 (by omega)
  have b74 : (op == 74) = false := beq_eq_false_iff_ne.2 (by omega)
  have b75 : (op == 75) = false := beq_eq_false_iff_ne.2 (by omega)
  have b76 : (op == 76) = false := beq_eq_false_iff_ne.2 (by omega)
  have b77 : (op == 77) = false := beq_eq_false_iff_ne.2 (by omega)
  have b78 : (op == 78) = false := beq_eq_false_iff_ne.2 (by omega)
  have b79 : (op == 79) = false := beq_eq_false_iff_ne.2 (by omega)
  have b81 : (op == 81) = false := beq_eq_false_iff_ne.2 (by omega)
  go_enter Tryz.func136, Tryz.ntmps136
  go_wp2_with fail
  refine (spec_l10Binary _).mono ?_; rintro e w1 ⟨rfl, hB, hb⟩
  have hc := text_at hB (op - 220).toNat (by rw [specBin_len]; exact hj)
  clear hB
  generalize specBin.getD (op - 220).toNat ByteArray.empty = t at *
  go_wp2_with fail
  go_ret
  exact ⟨_, rfl, by rw [HO.out, ByteArray.toList_eq, ByteArray.data_append, Array.toList_append]; simp, by rw [ByteArray.size_append]; have : (⟨#[58, 61]⟩ : ByteArray).size = 2 := rfl; omega, hb⟩
set_option maxRecDepth 100000 in
theorem spec_opTextNa (op : Int) (w : World) (g : op < 1) : Calls Tryz.prog 136 #[.int .i64 op] w (OpText op w) := by
  have HO := Lib.hid (ok_no (op := op) (by omega))
  have b70 : (op == 70) = false := beq_eq_false_iff_ne.2 (by omega)
  have b71 : (op == 71) = false := beq_eq_false_iff_ne.2 (by omega)
  have b72 : (op == 72) = false := beq_eq_false_iff_ne.2 (by omega)
  have b73 : (op == 73) = false := beq_eq_false_iff_ne.2 (by omega)
  have b74 : (op == 74) = false := beq_eq_false_iff_ne.2 (by omega)
  have b75 : (op == 75) = false := beq_eq_false_iff_ne.2 (by omega)
  have b76 : (op == 76) = false := beq_eq_false_iff_ne.2 (by omega)
  have b77 : (op == 77) = false := beq_eq_false_iff_ne.2 (by omega)
  have b78 : (op == 78) = false := beq_eq_false_iff_ne.2 (by omega)
  have b79 : (op == 79) = false := beq_eq_false_iff_ne.2 (by omega)
  have b81 : (op == 81) = false := beq_eq_false_iff_ne.2 (by omega)
  go_enter Tryz.func136, Tryz.ntmps136
  go_wp2_with fail
  go_ret
  exact ⟨_, rfl, by rw [HO.out]; decide +kernel, by decide, Below.refl _ _⟩
set_option maxRecDepth 100000 in
theorem spec_opTextNb (op : Int) (w : World) (g1 : 11 < op) (g2 : op < 20) : Calls Tryz.prog 136 #[.int .i64 op] w (OpText op w) := by
  have HO := Lib.hid (ok_no (op := op) (by omega))
  have b70 : (op == 70) = false := beq_eq_false_iff_ne.2 (by omega)
  have b71 : (op == 71) = false := beq_eq_false_iff_ne.2 (by omega)
  have b72 : (op == 72) = false := beq_eq_false_iff_ne.2 (by omega)
  have b73 : (op == 73) = false := beq_eq_false_iff_ne.2 (by omega)
  have b74 : (op == 74) = false := beq_eq_false_iff_ne.2 (by omega)
  have b75 : (op == 75) = false := beq_eq_false_iff_ne.2 (by omega)
  have b76 : (op == 76) = false := beq_eq_false_iff_ne.2 (by omega)
  have b77 : (op == 77) = false := beq_eq_false_iff_ne.2 (by omega)
  have b78 : (op == 78) = false := beq_eq_false_iff_ne.2 (by omega)
  have b79 : (op == 79) = false := beq_eq_false_iff_ne.2 (by omega)
  have b81 : (op == 81) = false := beq_eq_false_iff_ne.2 (by omega)
  go_enter Tryz.func136, Tryz.ntmps136
  go_wp2_with fail
  go_ret
  exact ⟨_, rfl, by rw [HO.out]; decide +kernel, by decide, Below.refl _ _⟩
set_option maxRecDepth 100000 in
theorem spec_opTextNc (op : Int) (w : World) (g1 : 63 < op) (g2 : op < 70) : Calls Tryz.prog 136 #[.int .i64 op] w (OpText op w) := by
  have HO := Lib.hid (ok_no (op := op) (by omega))
  have b70 : (op == 70) = false := beq_eq_false_iff_ne.2 (by omega)
  have b71 : (op == 71) = false := beq_eq_false_iff_ne.2 (by omega)
  have b72 : (op == 72) = false := beq_eq_false_iff_ne.2 (by omega)
  have b73 : (op == 73) = false := beq_eq_false_iff_ne.2 (by omega)
  have b74 : (op == 74) = false := beq_eq_false_iff_ne.2 (by omega)
  have b75 : (op == 75) = false := beq_eq_false_iff_ne.2 (by omega)
  have b76 : (op == 76) = false := beq_eq_false_iff_ne.2 (by omega)
  have b77 : (op == 77) = false := beq_eq_false_iff_ne.2 (by omega)
  have b78 : (op == 78) = false := beq_eq_false_iff_ne.2 (by omega)
  have b79 : (op == 79) = false := beq_eq_false_iff_ne.2 (by omega)
  have b81 : (op == 81) = false := beq_eq_false_iff_ne.2 (by omega)
  go_enter Tryz.func136, Tryz.ntmps136
  go_wp2_with fail
  go_ret
  exact ⟨_, rfl, by rw [HO.out]; decide +kernel, by decide, Below.refl _ _⟩
set_option maxRecDepth 100000 in
theorem spec_opTextNd (op : Int) (w : World) (g1 : 79 < op) (g2 : op < 81) : Calls Tryz.prog 136 #[.int .i64 op] w (OpText op w) := by
  have HO := Lib.hid (ok_no (op := op) (by omega))
  have b70 : (op == 70) = false := beq_eq_false_iff_ne.2 (by omega)
  have b71 : (op == 71) = false := beq_eq_false_iff_ne.2 (by omega)
  have b72 : (op == 72) = false := beq_eq_false_iff_ne.2 (by omega)
  have b73 : (op == 73) = false := beq_eq_false_iff_ne.2 (by omega)
  have b74 : (op == 74) = false := beq_eq_false_iff_ne.2 (by omega)
  have b75 : (op == 75) = false := beq_eq_false_iff_ne.2 (by omega)
  have b76 : (op == 76) = false := beq_eq_false_iff_ne.2 (by omega)
  have b77 : (op == 77) = false := beq_eq_false_iff_ne.2 (by omega)
  have b78 : (op == 78) = false := beq_eq_false_iff_ne.2 (by omega)
  have b79 : (op == 79) = false := beq_eq_false_iff_ne.2 (by omega)
  have b81 : (op == 81) = false := beq_eq_false_iff_ne.2 (by omega)
  go_enter Tryz.func136, Tryz.ntmps136
  go_wp2_with fail
  go_ret
  exact ⟨_, rfl, by rw [HO.out]; decide +kernel, by decide, Below.refl _ _⟩
set_option maxRecDepth 100000 in
theorem spec_opTextNe (op : Int) (w : World) (g1 : 81 < op) (g2 : op < 220) : Calls Tryz.prog 136 #[.int .i64 op] w (OpText op w) := by
  have HO := Lib.hid (ok_no (op := op) (by omega))
  have b70 : (op == 70) = false := beq_eq_false_iff_ne.2 (by omega)
  have b71 : (op == 71) = false := beq_eq_false_iff_ne.2 (by omega)
  have b72 : (op == 72) = false := beq_eq_false_iff_ne.2 (by omega)
  have b73 : (op == 73) = false := beq_eq_false_iff_ne.2 (by omega)
  have b74 : (op == 74) = false := beq_eq_false_iff_ne.2 (by omega)
  have b75 : (op == 75) = false := beq_eq_false_iff_ne.2 (by omega)
  have b76 : (op == 76) = false := beq_eq_false_iff_ne.2 (by omega)
  have b77 : (op == 77) = false := beq_eq_false_iff_ne.2 (by omega)
  have b78 : (op == 78) = false := beq_eq_false_iff_ne.2 (by omega)
  have b79 : (op == 79) = false := beq_eq_false_iff_ne.2 (by omega)
  have b81 : (op == 81) = false := beq_eq_false_iff_ne.2 (by omega)
  go_enter Tryz.func136, Tryz.ntmps136
  go_wp2_with fail
  go_ret
  exact ⟨_, rfl, by rw [HO.out]; decide +kernel, by decide, Below.refl _ _⟩
set_option maxRecDepth 100000 in
theorem spec_opTextNf (op : Int) (w : World) (g1 : 225 < op) (g2 : op < 250) : Calls Tryz.prog 136 #[.int .i64 op] w (OpText op w) := by
  have HO := Lib.hid (ok_no (op := op) (by omega))
  have b70 : (op == 70) = false := beq_eq_false_iff_ne.2 (by omega)
  have b71 : (op == 71) = false := beq_eq_false_iff_ne.2 (by omega)
  have b72 : (op == 72) = false := beq_eq_false_iff_ne.2 (by omega)
  have b73 : (op == 73) = false := beq_eq_false_iff_ne.2 (by omega)
  have b74 : (op == 74) = false := beq_eq_false_iff_ne.2 (by omega)
  have b75 : (op == 75) = false := beq_eq_false_iff_ne.2 (by omega)
  have b76 : (op == 76) = false := beq_eq_false_iff_ne.2 (by omega)
  have b77 : (op == 77) = false := beq_eq_false_iff_ne.2 (by omega)
  have b78 : (op == 78) = false := beq_eq_false_iff_ne.2 (by omega)
  have b79 : (op == 79) = false := beq_eq_false_iff_ne.2 (by omega)
  have b81 : (op == 81) = false := beq_eq_false_iff_ne.2 (by omega)
  go_enter Tryz.func136, Tryz.ntmps136
  go_wp2_with fail
  go_ret
  exact ⟨_, rfl, by rw [HO.out]; decide +kernel, by decide, Below.refl _ _⟩
set_option maxRecDepth 100000 in
theorem spec_opTextNg (op : Int) (w : World) (g : 254 < op) : Calls Tryz.prog 136 #[.int .i64 op] w (OpText op w) := by
  have HO := Lib.hid (ok_no (op := op) (by omega))
  have b70 : (op == 70) = false := beq_eq_false_iff_ne.2 (by omega)
  have b71 : (op == 71) = false := beq_eq_false_iff_ne.2 (by omega)
  have b72 : (op == 72) = false := beq_eq_false_iff_ne.2 (by omega)
  have b73 : (op == 73) = false := beq_eq_false_iff_ne.2 (by omega)
  have b74 : (op == 74) = false := beq_eq_false_iff_ne.2 (by omega)
  have b75 : (op == 75) = false := beq_eq_false_iff_ne.2 (by omega)
  have b76 : (op == 76) = false := beq_eq_false_iff_ne.2 (by omega)
  have b77 : (op == 77) = false := beq_eq_false_iff_ne.2 (by omega)
  have b78 : (op == 78) = false := beq_eq_false_iff_ne.2 (by omega)
  have b79 : (op == 79) = false := beq_eq_false_iff_ne.2 (by omega)
  have b81 : (op == 81) = false := beq_eq_false_iff_ne.2 (by omega)
  go_enter Tryz.func136, Tryz.ntmps136
  go_wp2_with fail
  go_ret
  exact ⟨_, rfl, by rw [HO.out]; decide +kernel, by decide, Below.refl _ _⟩
theorem spec_OperatorText (op : Int) (w : World) : Calls Tryz.prog 136 #[.int .i64 op] w (OpText op w) := by
  by_cases h : op < 1
  · exact spec_opTextNa op w h
  have g0 := h
  clear h
  by_cases h : op ≤ 11
  · exact spec_opText0 op w (by omega) h
  have g1 := h
  clear h
  by_cases h : op < 20
  · exact spec_opTextNb op w (by omega) h
  have g2 := h
  clear h
  by_cases h : op < 64
  · exact spec_opText1 op w (by omega) h
  have g3 := h
  clear h
  by_cases h : op < 70
  · exact spec_opTextNc op w (by omega) h
  have g4 := h
  clear h
  by_cases h : op = 70
  · subst h; exact spec_opText_70 w
  have g5 := h
  clear h
  by_cases h : op = 71
  · subst h; exact spec_opText_71 w
  have g6 := h
  clear h
  by_cases h : op = 72
  · subst h; exact spec_opText_72 w
  have g7 := h
  clear h
  by_cases h : op = 73
  · subst h; exact spec_opText_73 w
  have g8 := h
  clear h
  by_cases h : op = 74
  · subst h; exact spec_opText_74 w
  have g9 := h
  clear h
  by_cases h : op = 75
  · subst h; exact spec_opText_75 w
  have g10 := h
  clear h
  by_cases h : op = 76
  · subst h; exact spec_opText_76 w
  have g11 := h
  clear h
  by_cases h : op = 77
  · subst h; exact spec_opText_77 w
  have g12 := h
  clear h
  by_cases h : op = 78
  · subst h; exact spec_opText_78 w
  have g13 := h
  clear h
  by_cases h : op = 79
  · subst h; exact spec_opText_79 w
  have g14 := h
  clear h
  by_cases h : op < 81
  · exact spec_opTextNd op w (by omega) h
  have g15 := h
  clear h
  by_cases h : op = 81
  · subst h; exact spec_opText_81 w
  have g16 := h
  clear h
  by_cases h : op < 220
  · exact spec_opTextNe op w (by omega) h
  have g17 := h
  clear h
  by_cases h : op ≤ 225
  · exact spec_opText2 op w (by omega) h
  have g18 := h
  clear h
  by_cases h : op < 250
  · exact spec_opTextNf op w (by omega) h
  have g19 := h
  clear h
  by_cases h : op ≤ 254
  · exact spec_opText3 op w (by omega) h
  have g20 := h
  clear h
  exact spec_opTextNg op w (by omega)
end Go.Proofs.YtekobbeoaalibaaGreatDoor
