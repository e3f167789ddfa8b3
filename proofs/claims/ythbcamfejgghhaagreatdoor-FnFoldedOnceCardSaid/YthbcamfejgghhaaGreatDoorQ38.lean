/- Ho and rJ of the program. -/
import Derived.Test.YthbcamfejgghhaaGreatDoorQ02
set_option maxRecDepth 100000
set_option maxHeartbeats 8000000
set_option linter.unusedVariables false
set_option linter.unusedSimpArgs false
namespace Go.Proofs.YthbcamfejgghhaaGreatDoor
open Go.IntKind (i64)
open Go.RowKit
def wordsAt (s : ByteArray) (j : Nat) : ByteArray := ((Lib.fields s.data.toList).map (fun x => (⟨x.toArray⟩ : ByteArray))).getD j ByteArray.empty
def LB : ByteArray := ⟨#[45, 32, 43, 32, 42, 32, 47, 32, 92, 32, 126, 32, 33, 32, 61, 32, 94, 32, 46, 32, 46, 62]⟩
def LC : ByteArray := ⟨#[43, 32, 45, 32, 42, 32, 47, 32, 37, 32, 94]⟩
def LD : ByteArray := ⟨#[60, 32, 60, 61, 32, 61, 32, 62, 61, 32, 62, 32, 126, 61]⟩
def LG : ByteArray := ⟨#[60, 60, 32, 60, 60, 61, 32, 61, 61, 32, 62, 62, 61, 32, 62, 62, 32, 126, 61, 61, 32, 61, 61, 61, 32, 126, 61, 61, 61]⟩
def LH : ByteArray := ⟨#[124, 124, 32, 124, 124, 124, 32, 43, 43, 32, 45, 45, 32, 42, 42]⟩
def LJ : ByteArray := ⟨#[58, 61, 32, 60, 45, 32, 58, 61, 58, 32, 60, 45, 62]⟩
def LK : ByteArray := ⟨#[91, 93, 32, 91, 58, 93, 32, 116, 111, 32, 38, 32, 91, 46, 46, 46, 93, 32, 63, 63, 32, 46, 124, 32, 45, 62, 32, 61, 62, 32, 102, 105, 101, 108, 100]⟩
def pM (b : Nat) (op : Int) : Prop := ∃ t : ByteArray, t.toList.isEmpty = !sU op ∧ t.size ≤ b ∧ ∀ w : World, bT w → Calls Tryz.prog 41 (dI op) w fun e w' => e = .returned (.string t) ∧ Below w.heap.size w w'
theorem pM.up {b : Nat} {op : Int} (h : pM b op) (hb : b ≤ 22) : pM 22 op := by obtain ⟨t, h1, h2, h3⟩ := h; exact ⟨t, h1, nT h2 hb, h3⟩
theorem Ie (op : Int) (h1 : 1 ≤ op) (h2 : op ≤ 11) : pM 20 op := by
 have HO := lH (qh (op := op) ah)
 obtain ⟨j, rfl⟩ : ∃ j : Nat, op = (j : Int) + 1 := ⟨(op - 1).toNat, ah⟩
 have hj : j < 11 := ah
 have hm : (wordsAt LB j).toList.isEmpty = false ∧ (wordsAt LB j).size ≤ 20 := by
  have := List.all_eq_true.1 (show ((List.range 11).all fun j => !(wordsAt LB j).data.toList.isEmpty && decide ((wordsAt LB j).size ≤ 20)) = true by decide +kernel) j (List.mem_range.2 hj)
  exact sO
 refine ⟨wordsAt LB j, by rw [HO.out]; exact hm.1, hm.2, fun w ht => ?_⟩
 clear hm
 have HW : ∀ l : List ByteArray, l = (Lib.fields (LB).data.toList).map (fun x => (⟨x.toArray⟩ : ByteArray)) → l.getD j ByteArray.empty = wordsAt LB j := fun l h => by subst h; rfl
 have HW := lH HW
 generalize wordsAt LB j = t at *
 go_in
 go_wp2_with fail
 refine kV 11 aA gP gP gP ht ?_
 intro l w1 hd hl hne hB hb
 have hc := lS hB j ah
 exact sM
theorem zy (op : Int) (h1 : 20 ≤ op) (h2 : op ≤ 25) : pM 20 op := by
 have HO := lH (qh (op := op) ah)
 have hj : (op - 20).toNat < 6 := ah
 have hm : (wordsAt LC (op - 20).toNat).toList.isEmpty = false ∧ (wordsAt LC (op - 20).toNat).size ≤ 20 := by
  have := List.all_eq_true.1 (show ((List.range 6).all fun j => !(wordsAt LC j).data.toList.isEmpty && decide ((wordsAt LC j).size ≤ 20)) = true by decide +kernel) (op - 20).toNat (List.mem_range.2 hj)
  exact sO
 refine ⟨wordsAt LC (op - 20).toNat, by rw [HO.out]; exact hm.1, hm.2, fun w ht => ?_⟩
 clear hm
 have HW : ∀ l : List ByteArray, l = (Lib.fields (LC).data.toList).map (fun x => (⟨x.toArray⟩ : ByteArray)) → l.getD (op - 20).toNat ByteArray.empty = wordsAt LC (op - 20).toNat := fun l h => by subst h; rfl
 have HW := lH HW
 generalize wordsAt LC (op - 20).toNat = t at *
 go_in
 go_wp2_with fail
 refine kV 6 aA gP gP gP ht ?_
 intro l w1 hd hl hne hB hb
 have hc := lS hB (op - 20).toNat ah
 exact sM
theorem Ig (op : Int) (h1 : 30 ≤ op) (h2 : op ≤ 35) : pM 20 op := by
 have HO := lH (qh (op := op) ah)
 have hj : (op - 30).toNat < 6 := ah
 have hm : (wordsAt LD (op - 30).toNat).toList.isEmpty = false ∧ (wordsAt LD (op - 30).toNat).size ≤ 20 := by
  have := List.all_eq_true.1 (show ((List.range 6).all fun j => !(wordsAt LD j).data.toList.isEmpty && decide ((wordsAt LD j).size ≤ 20)) = true by decide +kernel) (op - 30).toNat (List.mem_range.2 hj)
  exact sO
 refine ⟨wordsAt LD (op - 30).toNat, by rw [HO.out]; exact hm.1, hm.2, fun w ht => ?_⟩
 clear hm
 have HW : ∀ l : List ByteArray, l = (Lib.fields (LD).data.toList).map (fun x => (⟨x.toArray⟩ : ByteArray)) → l.getD (op - 30).toNat ByteArray.empty = wordsAt LD (op - 30).toNat := fun l h => by subst h; rfl
 have HW := lH HW
 generalize wordsAt LD (op - 30).toNat = t at *
 go_in
 go_wp2_with fail
 refine kV 6 aA gP gP gP ht ?_
 intro l w1 hd hl hne hB hb
 have hc := lS hB (op - 30).toNat ah
 exact sM
theorem Ih (op : Int) (h1 : 40 ≤ op) (h2 : op ≤ 47) : pM 20 op := by
 have HO := lH (qh (op := op) ah)
 have hj : (op - 40).toNat < 8 := ah
 have hm : (wordsAt LG (op - 40).toNat).toList.isEmpty = false ∧ (wordsAt LG (op - 40).toNat).size ≤ 20 := by
  have := List.all_eq_true.1 (show ((List.range 8).all fun j => !(wordsAt LG j).data.toList.isEmpty && decide ((wordsAt LG j).size ≤ 20)) = true by decide +kernel) (op - 40).toNat (List.mem_range.2 hj)
  exact sO
 refine ⟨wordsAt LG (op - 40).toNat, by rw [HO.out]; exact hm.1, hm.2, fun w ht => ?_⟩
 clear hm
 have HW : ∀ l : List ByteArray, l = (Lib.fields (LG).data.toList).map (fun x => (⟨x.toArray⟩ : ByteArray)) → l.getD (op - 40).toNat ByteArray.empty = wordsAt LG (op - 40).toNat := fun l h => by subst h; rfl
 have HW := lH HW
 generalize wordsAt LG (op - 40).toNat = t at *
 go_in
 go_wp2_with fail
 refine kV 8 aA gP gP gP ht ?_
 intro l w1 hd hl hne hB hb
 have hc := lS hB (op - 40).toNat ah
 exact sM
theorem zz (op : Int) (h1 : 50 ≤ op) (h2 : op ≤ 54) : pM 20 op := by
 have HO := lH (qh (op := op) ah)
 have hj : (op - 50).toNat < 5 := ah
 have hm : (wordsAt LH (op - 50).toNat).toList.isEmpty = false ∧ (wordsAt LH (op - 50).toNat).size ≤ 20 := by
  have := List.all_eq_true.1 (show ((List.range 5).all fun j => !(wordsAt LH j).data.toList.isEmpty && decide ((wordsAt LH j).size ≤ 20)) = true by decide +kernel) (op - 50).toNat (List.mem_range.2 hj)
  exact sO
 refine ⟨wordsAt LH (op - 50).toNat, by rw [HO.out]; exact hm.1, hm.2, fun w ht => ?_⟩
 clear hm
 have HW : ∀ l : List ByteArray, l = (Lib.fields (LH).data.toList).map (fun x => (⟨x.toArray⟩ : ByteArray)) → l.getD (op - 50).toNat ByteArray.empty = wordsAt LH (op - 50).toNat := fun l h => by subst h; rfl
 have HW := lH HW
 generalize wordsAt LH (op - 50).toNat = t at *
 go_in
 go_wp2_with fail
 refine kV 5 aA gP gP gP ht ?_
 intro l w1 hd hl hne hB hb
 have hc := lS hB (op - 50).toNat ah
 exact sM
theorem Ii (op : Int) (h1 : 60 ≤ op) (h2 : op ≤ 63) : pM 20 op := by
 have HO := lH (qh (op := op) ah)
 have hj : (op - 60).toNat < 4 := ah
 have hm : (wordsAt LJ (op - 60).toNat).toList.isEmpty = false ∧ (wordsAt LJ (op - 60).toNat).size ≤ 20 := by
  have := List.all_eq_true.1 (show ((List.range 4).all fun j => !(wordsAt LJ j).data.toList.isEmpty && decide ((wordsAt LJ j).size ≤ 20)) = true by decide +kernel) (op - 60).toNat (List.mem_range.2 hj)
  exact sO
 refine ⟨wordsAt LJ (op - 60).toNat, by rw [HO.out]; exact hm.1, hm.2, fun w ht => ?_⟩
 clear hm
 have HW : ∀ l : List ByteArray, l = (Lib.fields (LJ).data.toList).map (fun x => (⟨x.toArray⟩ : ByteArray)) → l.getD (op - 60).toNat ByteArray.empty = wordsAt LJ (op - 60).toNat := fun l h => by subst h; rfl
 have HW := lH HW
 generalize wordsAt LJ (op - 60).toNat = t at *
 go_in
 go_wp2_with fail
 refine kV 4 aA gP gP gP ht ?_
 intro l w1 hd hl hne hB hb
 have hc := lS hB (op - 60).toNat ah
 exact sM
theorem Ij (op : Int) (h1 : 70 ≤ op) (h2 : op ≤ 79) : pM 20 op := by
 have HO := lH (qh (op := op) ah)
 have hj : (op - 70).toNat < 10 := ah
 have hm : (wordsAt LK (op - 70).toNat).toList.isEmpty = false ∧ (wordsAt LK (op - 70).toNat).size ≤ 20 := by
  have := List.all_eq_true.1 (show ((List.range 10).all fun j => !(wordsAt LK j).data.toList.isEmpty && decide ((wordsAt LK j).size ≤ 20)) = true by decide +kernel) (op - 70).toNat (List.mem_range.2 hj)
  exact sO
 refine ⟨wordsAt LK (op - 70).toNat, by rw [HO.out]; exact hm.1, hm.2, fun w ht => ?_⟩
 clear hm
 have HW : ∀ l : List ByteArray, l = (Lib.fields (LK).data.toList).map (fun x => (⟨x.toArray⟩ : ByteArray)) → l.getD (op - 70).toNat ByteArray.empty = wordsAt LK (op - 70).toNat := fun l h => by subst h; rfl
 have HW := lH HW
 generalize wordsAt LK (op - 70).toNat = t at *
 go_in
 go_wp2_with fail
 refine kV 10 aA gP gP gP ht ?_
 intro l w1 hd hl hne hB hb
 have hc := lS hB (op - 70).toNat ah
 exact sM
theorem Ik : pM 22 81 := by
 refine ⟨⟨#[100, 101, 102, 101, 114]⟩, gP, aA, fun w ht => ?_⟩
 go_in
 exact Ct
theorem Il (op : Int) (h1 : 220 ≤ op) (h2 : op ≤ 225) : pM 22 op := by
 have HO := lH (qh (op := op) ah)
 have b1 : (op == 81) = false := bF ah
 obtain ⟨t, -, hs, HT⟩ := zy (op - 200) ah ah
 exact N8
theorem Im (op : Int) (h1 : 250 ≤ op) (h2 : op ≤ 254) : pM 22 op := by
 have HO := lH (qh (op := op) ah)
 have b1 : (op == 81) = false := bF ah
 obtain ⟨t, -, hs, HT⟩ := zz (op - 200) ah ah
 exact N8
theorem EL (op : Int) (g : op < 1) : pM 22 op := by
 exact mV
theorem EM (op : Int) (g1 : 11 < op) (g2 : op < 20) : pM 22 op := by
 exact mV
theorem EN (op : Int) (g1 : 25 < op) (g2 : op < 30) : pM 22 op := by
 exact mV
theorem EO (op : Int) (g1 : 35 < op) (g2 : op < 40) : pM 22 op := by
 exact mV
theorem EP (op : Int) (g1 : 47 < op) (g2 : op < 50) : pM 22 op := by
 exact mV
theorem ER (op : Int) (g1 : 54 < op) (g2 : op < 60) : pM 22 op := by
 exact mV
theorem ES (op : Int) (g1 : 63 < op) (g2 : op < 70) : pM 22 op := by
 exact mV
theorem ET (op : Int) (g1 : 79 < op) (g2 : op < 81) : pM 22 op := by
 exact mV
theorem EU (op : Int) (g1 : 81 < op) (g2 : op < 220) : pM 22 op := by
 exact mV
theorem EW (op : Int) (g1 : 225 < op) (g2 : op < 250) : pM 22 op := by
 exact mV
theorem EX (op : Int) (g : 254 < op) : pM 22 op := by
 exact mV
theorem lZ (op : Int) : pM 22 op := by
 by_cases h : op < 1
 ·exact EL op h
 have g0 := h
 clear h
 by_cases h : op ≤ 11
 ·exact (Ie op ah h).up ah
 have g1 := h
 clear h
 by_cases h : op < 20
 ·exact EM op ah h
 have g2 := h
 clear h
 by_cases h : op ≤ 25
 ·exact (zy op ah h).up ah
 have g3 := h
 clear h
 by_cases h : op < 30
 ·exact EN op ah h
 have g4 := h
 clear h
 by_cases h : op ≤ 35
 ·exact (Ig op ah h).up ah
 have g5 := h
 clear h
 by_cases h : op < 40
 ·exact EO op ah h
 have g6 := h
 clear h
 by_cases h : op ≤ 47
 ·exact (Ih op ah h).up ah
 have g7 := h
 clear h
 by_cases h : op < 50
 ·exact EP op ah h
 have g8 := h
 clear h
 by_cases h : op ≤ 54
 ·exact (zz op ah h).up ah
 have g9 := h
 clear h
 by_cases h : op < 60
 ·exact ER op ah h
 have g10 := h
 clear h
 by_cases h : op ≤ 63
 ·exact (Ii op ah h).up ah
 have g11 := h
 clear h
 by_cases h : op < 70
 ·exact ES op ah h
 have g12 := h
 clear h
 by_cases h : op ≤ 79
 ·exact (Ij op ah h).up ah
 have g13 := h
 clear h
 by_cases h : op < 81
 ·exact ET op ah h
 have g14 := h
 clear h
 by_cases h : op = 81
 ·subst h; exact Ik
 have g15 := h
 clear h
 by_cases h : op < 220
 ·exact EU op ah h
 have g16 := h
 clear h
 by_cases h : op ≤ 225
 ·exact Il op ah h
 have g17 := h
 clear h
 by_cases h : op < 250
 ·exact EW op ah h
 have g18 := h
 clear h
 by_cases h : op ≤ 254
 ·exact Im op ah h
 have g19 := h
 clear h
 exact EX op ah
noncomputable def LM (op : Int) : ByteArray := (lZ op).choose
theorem sI (op : Int) (w : World) (ht : bT w) : Calls Tryz.prog 41 (dI op) w fun e w' => e = .returned (.string (LM op)) ∧ Below w.heap.size w w' := (lZ op).choose_spec.2.2 w ht
theorem xW (op : Int) : (LM op).size ≤ 22 := (lZ op).choose_spec.2.1
theorem nM (op : Int) (w : World) (ht : bT w) : Calls Tryz.prog 41 (dI op) w (iN op w) :=
 (sI op w ht).mono fun _ _ ⟨he, hb⟩ => ⟨_, he, (lZ op).choose_spec.1, xW op, hb⟩
end Go.Proofs.YthbcamfejgghhaaGreatDoor
