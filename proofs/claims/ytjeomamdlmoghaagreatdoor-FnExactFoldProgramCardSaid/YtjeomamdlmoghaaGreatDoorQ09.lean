/- OperatorText and OperatorArity of the program. -/
import Derived.Test.YtjeomamdlmoghaaGreatDoorQ00
import Derived.Test.YtjeomamdlmoghaaGreatDoorQ03
set_option maxRecDepth 100000
set_option maxHeartbeats 8000000
set_option linter.unusedVariables false
set_option linter.unusedSimpArgs false
section
namespace Go.Proofs.YtjeomamdlmoghaaGreatDoor
open Go.RowKit
theorem impl_opText0 (op : Int) (w : World) (ht : SpaceTab w) (h1 : 1 ≤ op) (h2 : op ≤ 11) : Calls Tryz.prog 113 #[.int .i64 op] w (OpTextB 20 op w) := by
 have HO := Lib.hid (ok_yes (op := op) (by omega))
 obtain ⟨j, rfl⟩ : ∃ j : Nat, op = (j : Int) + 1 := ⟨(op - 1).toNat, by omega⟩
 have hj : j < 11 := by omega
 go_enter Tryz.func113, Tryz.ntmps113
 go_wp2_with fail
 refine fields_at 11 (by decide) (by decide +kernel) (by decide +kernel) (by decide +kernel) ht ?_
 intro l w1 hd hl hne hB hb
 clear hd
 have hc := text_at hB j (by omega)
 have hm := hne (l.getD j ByteArray.empty) (by rw [List.getD, List.getElem?_eq_getElem (by omega)]; exact List.getElem_mem _)
 have HM := Lib.hid hm
 clear hm hne hl hB
 generalize l.getD j ByteArray.empty = t at *
 go_wp2_with fail
 go_ret
 exact ⟨_, rfl, by rw [HO.out]; exact HM.out.1, by have := HM.out.2; omega, hb⟩
theorem impl_opText1 (op : Int) (w : World) (ht : SpaceTab w) (h1 : 20 ≤ op) (h2 : op ≤ 25) : Calls Tryz.prog 113 #[.int .i64 op] w (OpTextB 20 op w) := by
 have HO := Lib.hid (ok_yes (op := op) (by omega))
 have hj : (op - 20).toNat < 6 := by omega
 go_enter Tryz.func113, Tryz.ntmps113
 go_wp2_with fail
 refine fields_at 6 (by decide) (by decide +kernel) (by decide +kernel) (by decide +kernel) ht ?_
 intro l w1 hd hl hne hB hb
 clear hd
 have hc := text_at hB (op - 20).toNat (by omega)
 have hm := hne (l.getD (op - 20).toNat ByteArray.empty) (by rw [List.getD, List.getElem?_eq_getElem (by omega)]; exact List.getElem_mem _)
 have HM := Lib.hid hm
 clear hm hne hl hB
 generalize l.getD (op - 20).toNat ByteArray.empty = t at *
 go_wp2_with fail
 go_ret
 exact ⟨_, rfl, by rw [HO.out]; exact HM.out.1, by have := HM.out.2; omega, hb⟩
theorem impl_opText2 (op : Int) (w : World) (ht : SpaceTab w) (h1 : 30 ≤ op) (h2 : op ≤ 35) : Calls Tryz.prog 113 #[.int .i64 op] w (OpTextB 20 op w) := by
 have HO := Lib.hid (ok_yes (op := op) (by omega))
 have hj : (op - 30).toNat < 6 := by omega
 go_enter Tryz.func113, Tryz.ntmps113
 go_wp2_with fail
 refine fields_at 6 (by decide) (by decide +kernel) (by decide +kernel) (by decide +kernel) ht ?_
 intro l w1 hd hl hne hB hb
 clear hd
 have hc := text_at hB (op - 30).toNat (by omega)
 have hm := hne (l.getD (op - 30).toNat ByteArray.empty) (by rw [List.getD, List.getElem?_eq_getElem (by omega)]; exact List.getElem_mem _)
 have HM := Lib.hid hm
 clear hm hne hl hB
 generalize l.getD (op - 30).toNat ByteArray.empty = t at *
 go_wp2_with fail
 go_ret
 exact ⟨_, rfl, by rw [HO.out]; exact HM.out.1, by have := HM.out.2; omega, hb⟩
theorem impl_opText3 (op : Int) (w : World) (ht : SpaceTab w) (h1 : 40 ≤ op) (h2 : op ≤ 47) : Calls Tryz.prog 113 #[.int .i64 op] w (OpTextB 20 op w) := by
 have HO := Lib.hid (ok_yes (op := op) (by omega))
 have hj : (op - 40).toNat < 8 := by omega
 go_enter Tryz.func113, Tryz.ntmps113
 go_wp2_with fail
 refine fields_at 8 (by decide) (by decide +kernel) (by decide +kernel) (by decide +kernel) ht ?_
 intro l w1 hd hl hne hB hb
 clear hd
 have hc := text_at hB (op - 40).toNat (by omega)
 have hm := hne (l.getD (op - 40).toNat ByteArray.empty) (by rw [List.getD, List.getElem?_eq_getElem (by omega)]; exact List.getElem_mem _)
 have HM := Lib.hid hm
 clear hm hne hl hB
 generalize l.getD (op - 40).toNat ByteArray.empty = t at *
 go_wp2_with fail
 go_ret
 exact ⟨_, rfl, by rw [HO.out]; exact HM.out.1, by have := HM.out.2; omega, hb⟩
theorem impl_opText4 (op : Int) (w : World) (ht : SpaceTab w) (h1 : 50 ≤ op) (h2 : op ≤ 54) : Calls Tryz.prog 113 #[.int .i64 op] w (OpTextB 20 op w) := by
 have HO := Lib.hid (ok_yes (op := op) (by omega))
 have hj : (op - 50).toNat < 5 := by omega
 go_enter Tryz.func113, Tryz.ntmps113
 go_wp2_with fail
 refine fields_at 5 (by decide) (by decide +kernel) (by decide +kernel) (by decide +kernel) ht ?_
 intro l w1 hd hl hne hB hb
 clear hd
 have hc := text_at hB (op - 50).toNat (by omega)
 have hm := hne (l.getD (op - 50).toNat ByteArray.empty) (by rw [List.getD, List.getElem?_eq_getElem (by omega)]; exact List.getElem_mem _)
 have HM := Lib.hid hm
 clear hm hne hl hB
 generalize l.getD (op - 50).toNat ByteArray.empty = t at *
 go_wp2_with fail
 go_ret
 exact ⟨_, rfl, by rw [HO.out]; exact HM.out.1, by have := HM.out.2; omega, hb⟩
theorem impl_opText5 (op : Int) (w : World) (ht : SpaceTab w) (h1 : 60 ≤ op) (h2 : op ≤ 63) : Calls Tryz.prog 113 #[.int .i64 op] w (OpTextB 20 op w) := by
 have HO := Lib.hid (ok_yes (op := op) (by omega))
 have hj : (op - 60).toNat < 4 := by omega
 go_enter Tryz.func113, Tryz.ntmps113
 go_wp2_with fail
 refine fields_at 4 (by decide) (by decide +kernel) (by decide +kernel) (by decide +kernel) ht ?_
 intro l w1 hd hl hne hB hb
 clear hd
 have hc := text_at hB (op - 60).toNat (by omega)
 have hm := hne (l.getD (op - 60).toNat ByteArray.empty) (by rw [List.getD, List.getElem?_eq_getElem (by omega)]; exact List.getElem_mem _)
 have HM := Lib.hid hm
 clear hm hne hl hB
 generalize l.getD (op - 60).toNat ByteArray.empty = t at *
 go_wp2_with fail
 go_ret
 exact ⟨_, rfl, by rw [HO.out]; exact HM.out.1, by have := HM.out.2; omega, hb⟩
theorem impl_opText6 (op : Int) (w : World) (ht : SpaceTab w) (h1 : 70 ≤ op) (h2 : op ≤ 79) : Calls Tryz.prog 113 #[.int .i64 op] w (OpTextB 20 op w) := by
 have HO := Lib.hid (ok_yes (op := op) (by omega))
 have hj : (op - 70).toNat < 10 := by omega
 go_enter Tryz.func113, Tryz.ntmps113
 go_wp2_with fail
 refine fields_at 10 (by decide) (by decide +kernel) (by decide +kernel) (by decide +kernel) ht ?_
 intro l w1 hd hl hne hB hb
 clear hd
 have hc := text_at hB (op - 70).toNat (by omega)
 have hm := hne (l.getD (op - 70).toNat ByteArray.empty) (by rw [List.getD, List.getElem?_eq_getElem (by omega)]; exact List.getElem_mem _)
 have HM := Lib.hid hm
 clear hm hne hl hB
 generalize l.getD (op - 70).toNat ByteArray.empty = t at *
 go_wp2_with fail
 go_ret
 exact ⟨_, rfl, by rw [HO.out]; exact HM.out.1, by have := HM.out.2; omega, hb⟩
theorem impl_opText7 (w : World) : Calls Tryz.prog 113 #[.int .i64 81] w (OpText 81 w) := by
 go_enter Tryz.func113, Tryz.ntmps113
 go_wp2_with fail
 go_ret
 exact ⟨_, rfl, by decide +kernel, by decide, Below.refl _ _⟩
theorem impl_opText8 (op : Int) (w : World) (ht : SpaceTab w) (h1 : 220 ≤ op) (h2 : op ≤ 225) : Calls Tryz.prog 113 #[.int .i64 op] w (OpText op w) := by
 have HO := Lib.hid (ok_yes (op := op) (by omega))
 have b1 : (op == 81) = false := beq_eq_false_iff_ne.2 (by omega)
 go_enter Tryz.func113, Tryz.ntmps113
 go_wp2_with fail
 refine (impl_opText1 (op - 200) _ ht (by omega) (by omega)).mono ?_; rintro e w1 ⟨t, rfl, h0, hs, hb⟩
 clear h0
 go_wp2_with fail
 go_ret
 exact ⟨_, rfl, by rw [HO.out, ByteArray.toList_eq, ByteArray.data_append, Array.toList_append]; simp, by rw [ByteArray.size_append]; have : (⟨#[58, 61]⟩ : ByteArray).size = 2 := rfl; omega, hb⟩
theorem impl_opText9 (op : Int) (w : World) (ht : SpaceTab w) (h1 : 250 ≤ op) (h2 : op ≤ 254) : Calls Tryz.prog 113 #[.int .i64 op] w (OpText op w) := by
 have HO := Lib.hid (ok_yes (op := op) (by omega))
 have b1 : (op == 81) = false := beq_eq_false_iff_ne.2 (by omega)
 go_enter Tryz.func113, Tryz.ntmps113
 go_wp2_with fail
 refine (impl_opText4 (op - 200) _ ht (by omega) (by omega)).mono ?_; rintro e w1 ⟨t, rfl, h0, hs, hb⟩
 clear h0
 go_wp2_with fail
 go_ret
 exact ⟨_, rfl, by rw [HO.out, ByteArray.toList_eq, ByteArray.data_append, Array.toList_append]; simp, by rw [ByteArray.size_append]; have : (⟨#[58, 61]⟩ : ByteArray).size = 2 := rfl; omega, hb⟩
theorem impl_opTextNa (op : Int) (w : World) (g : op < 1) : Calls Tryz.prog 113 #[.int .i64 op] w (OpText op w) := by
 have HO := Lib.hid (ok_no (op := op) (by omega))
 have b1 : (op == 81) = false := beq_eq_false_iff_ne.2 (by omega)
 go_enter Tryz.func113, Tryz.ntmps113
 go_wp2_with fail
 go_ret
 exact ⟨_, rfl, by rw [HO.out]; decide +kernel, by decide, Below.refl _ _⟩
theorem impl_opTextNb (op : Int) (w : World) (g1 : 11 < op) (g2 : op < 20) : Calls Tryz.prog 113 #[.int .i64 op] w (OpText op w) := by
 have HO := Lib.hid (ok_no (op := op) (by omega))
 have b1 : (op == 81) = false := beq_eq_false_iff_ne.2 (by omega)
 go_enter Tryz.func113, Tryz.ntmps113
 go_wp2_with fail
 go_ret
 exact ⟨_, rfl, by rw [HO.out]; decide +kernel, by decide, Below.refl _ _⟩
theorem impl_opTextNc (op : Int) (w : World) (g1 : 25 < op) (g2 : op < 30) : Calls Tryz.prog 113 #[.int .i64 op] w (OpText op w) := by
 have HO := Lib.hid (ok_no (op := op) (by omega))
 have b1 : (op == 81) = false := beq_eq_false_iff_ne.2 (by omega)
 go_enter Tryz.func113, Tryz.ntmps113
 go_wp2_with fail
 go_ret
 exact ⟨_, rfl, by rw [HO.out]; decide +kernel, by decide, Below.refl _ _⟩
theorem impl_opTextNd (op : Int) (w : World) (g1 : 35 < op) (g2 : op < 40) : Calls Tryz.prog 113 #[.int .i64 op] w (OpText op w) := by
 have HO := Lib.hid (ok_no (op := op) (by omega))
 have b1 : (op == 81) = false := beq_eq_false_iff_ne.2 (by omega)
 go_enter Tryz.func113, Tryz.ntmps113
 go_wp2_with fail
 go_ret
 exact ⟨_, rfl, by rw [HO.out]; decide +kernel, by decide, Below.refl _ _⟩
theorem impl_opTextNe (op : Int) (w : World) (g1 : 47 < op) (g2 : op < 50) : Calls Tryz.prog 113 #[.int .i64 op] w (OpText op w) := by
 have HO := Lib.hid (ok_no (op := op) (by omega))
 have b1 : (op == 81) = false := beq_eq_false_iff_ne.2 (by omega)
 go_enter Tryz.func113, Tryz.ntmps113
 go_wp2_with fail
 go_ret
 exact ⟨_, rfl, by rw [HO.out]; decide +kernel, by decide, Below.refl _ _⟩
theorem impl_opTextNf (op : Int) (w : World) (g1 : 54 < op) (g2 : op < 60) : Calls Tryz.prog 113 #[.int .i64 op] w (OpText op w) := by
 have HO := Lib.hid (ok_no (op := op) (by omega))
 have b1 : (op == 81) = false := beq_eq_false_iff_ne.2 (by omega)
 go_enter Tryz.func113, Tryz.ntmps113
 go_wp2_with fail
 go_ret
 exact ⟨_, rfl, by rw [HO.out]; decide +kernel, by decide, Below.refl _ _⟩
theorem impl_opTextNg (op : Int) (w : World) (g1 : 63 < op) (g2 : op < 70) : Calls Tryz.prog 113 #[.int .i64 op] w (OpText op w) := by
 have HO := Lib.hid (ok_no (op := op) (by omega))
 have b1 : (op == 81) = false := beq_eq_false_iff_ne.2 (by omega)
 go_enter Tryz.func113, Tryz.ntmps113
 go_wp2_with fail
 go_ret
 exact ⟨_, rfl, by rw [HO.out]; decide +kernel, by decide, Below.refl _ _⟩
theorem impl_opTextNh (op : Int) (w : World) (g1 : 79 < op) (g2 : op < 81) : Calls Tryz.prog 113 #[.int .i64 op] w (OpText op w) := by
 have HO := Lib.hid (ok_no (op := op) (by omega))
 have b1 : (op == 81) = false := beq_eq_false_iff_ne.2 (by omega)
 go_enter Tryz.func113, Tryz.ntmps113
 go_wp2_with fail
 go_ret
 exact ⟨_, rfl, by rw [HO.out]; decide +kernel, by decide, Below.refl _ _⟩
theorem impl_opTextNi (op : Int) (w : World) (g1 : 81 < op) (g2 : op < 220) : Calls Tryz.prog 113 #[.int .i64 op] w (OpText op w) := by
 have HO := Lib.hid (ok_no (op := op) (by omega))
 have b1 : (op == 81) = false := beq_eq_false_iff_ne.2 (by omega)
 go_enter Tryz.func113, Tryz.ntmps113
 go_wp2_with fail
 go_ret
 exact ⟨_, rfl, by rw [HO.out]; decide +kernel, by decide, Below.refl _ _⟩
theorem impl_opTextNj (op : Int) (w : World) (g1 : 225 < op) (g2 : op < 250) : Calls Tryz.prog 113 #[.int .i64 op] w (OpText op w) := by
 have HO := Lib.hid (ok_no (op := op) (by omega))
 have b1 : (op == 81) = false := beq_eq_false_iff_ne.2 (by omega)
 go_enter Tryz.func113, Tryz.ntmps113
 go_wp2_with fail
 go_ret
 exact ⟨_, rfl, by rw [HO.out]; decide +kernel, by decide, Below.refl _ _⟩
theorem impl_opTextNk (op : Int) (w : World) (g : 254 < op) : Calls Tryz.prog 113 #[.int .i64 op] w (OpText op w) := by
 have HO := Lib.hid (ok_no (op := op) (by omega))
 have b1 : (op == 81) = false := beq_eq_false_iff_ne.2 (by omega)
 go_enter Tryz.func113, Tryz.ntmps113
 go_wp2_with fail
 go_ret
 exact ⟨_, rfl, by rw [HO.out]; decide +kernel, by decide, Below.refl _ _⟩
theorem impl_OperatorText (op : Int) (w : World) (ht : SpaceTab w) : Calls Tryz.prog 113 #[.int .i64 op] w (OpText op w) := by
 by_cases h : op < 1
 ·exact impl_opTextNa op w h
 have g0 := h
 clear h
 by_cases h : op ≤ 11
 ·exact (impl_opText0 op w ht (by omega) h).mono fun _ _ h => h.up (by omega)
 have g1 := h
 clear h
 by_cases h : op < 20
 ·exact impl_opTextNb op w (by omega) h
 have g2 := h
 clear h
 by_cases h : op ≤ 25
 ·exact (impl_opText1 op w ht (by omega) h).mono fun _ _ h => h.up (by omega)
 have g3 := h
 clear h
 by_cases h : op < 30
 ·exact impl_opTextNc op w (by omega) h
 have g4 := h
 clear h
 by_cases h : op ≤ 35
 ·exact (impl_opText2 op w ht (by omega) h).mono fun _ _ h => h.up (by omega)
 have g5 := h
 clear h
 by_cases h : op < 40
 ·exact impl_opTextNd op w (by omega) h
 have g6 := h
 clear h
 by_cases h : op ≤ 47
 ·exact (impl_opText3 op w ht (by omega) h).mono fun _ _ h => h.up (by omega)
 have g7 := h
 clear h
 by_cases h : op < 50
 ·exact impl_opTextNe op w (by omega) h
 have g8 := h
 clear h
 by_cases h : op ≤ 54
 ·exact (impl_opText4 op w ht (by omega) h).mono fun _ _ h => h.up (by omega)
 have g9 := h
 clear h
 by_cases h : op < 60
 ·exact impl_opTextNf op w (by omega) h
 have g10 := h
 clear h
 by_cases h : op ≤ 63
 ·exact (impl_opText5 op w ht (by omega) h).mono fun _ _ h => h.up (by omega)
 have g11 := h
 clear h
 by_cases h : op < 70
 ·exact impl_opTextNg op w (by omega) h
 have g12 := h
 clear h
 by_cases h : op ≤ 79
 ·exact (impl_opText6 op w ht (by omega) h).mono fun _ _ h => h.up (by omega)
 have g13 := h
 clear h
 by_cases h : op < 81
 ·exact impl_opTextNh op w (by omega) h
 have g14 := h
 clear h
 by_cases h : op = 81
 ·subst h; exact impl_opText7 w
 have g15 := h
 clear h
 by_cases h : op < 220
 ·exact impl_opTextNi op w (by omega) h
 have g16 := h
 clear h
 by_cases h : op ≤ 225
 ·exact impl_opText8 op w ht (by omega) h
 have g17 := h
 clear h
 by_cases h : op < 250
 ·exact impl_opTextNj op w (by omega) h
 have g18 := h
 clear h
 by_cases h : op ≤ 254
 ·exact impl_opText9 op w ht (by omega) h
 have g19 := h
 clear h
 exact impl_opTextNk op w (by omega)
end Go.Proofs.YtjeomamdlmoghaaGreatDoor
end
