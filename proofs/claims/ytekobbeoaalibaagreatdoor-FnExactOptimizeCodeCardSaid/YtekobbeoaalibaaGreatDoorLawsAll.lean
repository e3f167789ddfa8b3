/- LawsAll: several texts in one. -/
import Derived.Test.YtekobbeoaalibaaGreatDoorProg
import Derived.Test.YtekobbeoaalibaaGreatDoorRow
import Derived.Test.YtekobbeoaalibaaGreatDoorTyAll
import Derived.Test.YtekobbeoaalibaaGreatDoorOwn
import Derived.Deep.RegionHeld3
section
namespace Go.Proofs.YtekobbeoaalibaaGreatDoor
open Go.RowKit
set_option linter.unusedVariables false

set_option maxRecDepth 100000 in
set_option maxHeartbeats 1000000 in
theorem szStrs_any (l : List ByteArray) (v : Value) (left : Int) (w : World) (lo hi : Nat) (h : LRep w lo hi 1 strDats v l) (hhi : hi ≤ w.heap.size) (hl0 : 0 ≤ left) (hl1 : left ≤ 1048576) (hf : ∀ s ∈ l, s.size ≤ 9223372036854775807) :
    Calls Tryz.prog 37 #[v, .int .i64 left] w fun e w' => e = .returned (.int .i64 (leftOf left (l.length + sumOf ByteArray.size l))) ∧ Below w.heap.size w w' := by
  obtain ⟨A, cap, rfl, hc1, hc2⟩ := h.shape
  unfold maxLen at hc2
  have HF := Lib.hid hf
  clear hf
  by_cases hn : left < l.length
  · go_enter Tryz.func37, Tryz.ntmps37
    go_wp2_with fail
    go_ret
    exact ⟨ret_int (leftOf_no (by omega)).symm, Below.refl _ _⟩
  go_enter Tryz.func37, Tryz.ntmps37
  go_wp2_with fail
  go_loopw [1, 5] (fun t i wr => ∃ k : Nat, k ≤ l.length ∧ i = .int .i64 k ∧ t = .int .i64 (left - l.length - sumOf ByteArray.size (l.take k)) ∧ sumOf ByteArray.size (l.take k) ≤ left - l.length ∧ Same w wr) (fun _ i _ => l.length - (intOf i).toNat)
  case atStart => exact ⟨0, Nat.zero_le _, rfl, by simp [sumOf], by simp [sumOf]; omega, Same.refl _⟩
  case round =>
    obtain ⟨k, hk, rfl, rfl, hle, hb⟩ := hrel
    obtain ⟨wo, rfl⟩ : ∃ wo : World, wo = wr := ⟨_, rfl⟩
    by_cases hlt : k < l.length
    · obtain ⟨s, hc⟩ : ∃ s, l[k]? = some s := ⟨_, List.getElem?_eq_getElem hlt⟩
      obtain ⟨g, off, rfl, hg1, hg2, q0⟩ := (h.same hb).text hc
      have HB := Lib.hid (sumOf_snoc (b := ByteArray.size) hc)
      have hft := HF.out s (List.mem_of_getElem? hc)
      clear hc
      by_cases hk1 : left - l.length - sumOf ByteArray.size (l.take k) < s.size
      · go_wp2_with fail
        go_ret
        exact ⟨ret_int (leftOf_no (by have := HB.out; have := sumOf_take_le ByteArray.size l (k + 1); omega)).symm, hb.below _⟩
      · go_wp2_with fail
        go_roundw
        case rel => exact ⟨k + 1, by omega, by go_num, by rw [HB.out]; go_num, by rw [HB.out]; omega, hb⟩
        case measure => simp [intOf]; omega
    · obtain rfl : k = l.length := by omega
      rw [List.take_length] at hle ⊢
      go_wp2_with fail
      go_ret
      exact ⟨ret_int (by rw [leftOf_yes (by omega)]; omega), hb.below _⟩
end Go.Proofs.YtekobbeoaalibaaGreatDoor
end

section
namespace Go.Proofs.YtekobbeoaalibaaGreatDoor
open Go.RowKit
set_option linter.unusedVariables false

set_option maxRecDepth 100000 in
set_option maxHeartbeats 1000000 in
theorem szCodeRoutine_any (c : CRoT) (x : Value) (left : Int) (w : World) (lo hi : Nat) (h : SRep w lo hi CRoT.dats x c) (hhi : hi ≤ w.heap.size) (hl0 : 0 ≤ left) (hl1 : left ≤ 1048576) (hf : c.Fits) :
    Calls Tryz.prog 70 #[x, .int .i64 left] w fun e w' => e = .returned (.int .i64 (leftOf left c.bulk)) ∧ Below w.heap.size w w' := by
  obtain rfl := CRoT.form h
  have fname : c.name.size ≤ 9223372036854775807 := hf
  have HB : Hid (c.bulk = c.name.size) := rfl
  have hw0 : Below w.heap.size w (w.alloc (.cells #[Value.string c.name, .int .i64 c.params, .int .i64 c.slots, .int .i64 c.entry] 103)) := (Below.refl _ _).alloc (Nat.le_refl _) _
  by_cases hname1 : left < (c.name.size : Nat)
  · go_enter Tryz.func70, Tryz.ntmps70
    go_wp2_with fail
    go_ret
    exact ⟨ret_int (leftOf_no (by have := HB.out; omega)).symm, hw0⟩
  go_enter Tryz.func70, Tryz.ntmps70
  go_wp2_with fail
  go_ret
  exact ⟨ret_int (by rw [leftOf_yes (by have := HB.out; omega)]; have := HB.out; omega), hw0⟩
set_option maxRecDepth 100000 in
set_option maxHeartbeats 1000000 in
theorem szCodeRoutineS_any (l : List CRoT) (v : Value) (left : Int) (w : World) (lo hi : Nat) (h : LRep w lo hi 4 CRoT.dats v l) (hhi : hi ≤ w.heap.size) (hl0 : 0 ≤ left) (hl1 : left ≤ 1048576) (hf : ∀ c ∈ l, c.Fits) :
    Calls Tryz.prog 35 #[v, .int .i64 left] w fun e w' => e = .returned (.int .i64 (leftOf left (l.length + sumOf CRoT.bulk l))) ∧ Below w.heap.size w w' := by
  obtain ⟨A, cap, rfl, hc1, hc2⟩ := h.shape
  unfold maxLen at hc2
  have HF := Lib.hid hf
  clear hf
  by_cases hn : left < l.length
  · go_enter Tryz.func35, Tryz.ntmps35
    go_wp2_with fail
    go_ret
    exact ⟨ret_int (leftOf_no (by omega)).symm, Below.refl _ _⟩
  go_enter Tryz.func35, Tryz.ntmps35
  go_wp2_with fail
  go_loopw [1, 5] (fun t i wr => ∃ k : Nat, k ≤ l.length ∧ i = .int .i64 k ∧ t = .int .i64 (left - l.length - sumOf CRoT.bulk (l.take k)) ∧ sumOf CRoT.bulk (l.take k) ≤ left - l.length ∧ Below w.heap.size w wr) (fun _ i _ => l.length - (intOf i).toNat)
  case atStart => exact ⟨0, Nat.zero_le _, rfl, by simp [sumOf], by simp [sumOf]; omega, Below.refl _ _⟩
  case round =>
    obtain ⟨k, hk, rfl, rfl, hle, hb⟩ := hrel
    obtain ⟨wo, rfl⟩ : ∃ wo : World, wo = wr := ⟨_, rfl⟩
    have hz := hb.size
    by_cases hlt : k < l.length
    · obtain ⟨c, hc⟩ : ∃ c, l[k]? = some c := ⟨_, List.getElem?_eq_getElem hlt⟩
      obtain ⟨g, off, rfl, hg1, hg2, hmem, hrep, q0, q1, q2, q3⟩ := CRoT.at_ (h.below hb hhi) hc
      have HB := Lib.hid (sumOf_snoc (b := CRoT.bulk) hc)
      have hft := HF.out c hmem
      clear hc hmem
      go_wp2_with fail
      refine (szCodeRoutine_any c _ _ _ _ _ hrep (by omega) (by omega) (by omega) hft).mono ?_; rintro e w1 ⟨rfl, hb1⟩
      have hb2 := hb.trans (hb1.mono hz)
      clear hrep q0 q1 q2 q3
      by_cases hk1 : left - l.length - sumOf CRoT.bulk (l.take k) < c.bulk
      · rw [leftOf_no hk1]
        go_wp2_with fail
        go_ret
        exact ⟨ret_int (leftOf_no (by have := HB.out; have := sumOf_take_le CRoT.bulk l (k + 1); omega)).symm, hb2⟩
      · rw [leftOf_yes hk1]
        go_wp2_with fail
        go_roundw
        case rel => exact ⟨k + 1, by omega, by go_num, by rw [HB.out]; go_num, by rw [HB.out]; omega, hb2⟩
        case measure => simp [intOf]; omega
    · obtain rfl : k = l.length := by omega
      rw [List.take_length] at hle ⊢
      go_wp2_with fail
      go_ret
      exact ⟨ret_int (by rw [leftOf_yes (by omega)]; omega), hb⟩
end Go.Proofs.YtekobbeoaalibaaGreatDoor
end

section
namespace Go.Proofs.YtekobbeoaalibaaGreatDoor
open Go.RowKit
set_option linter.unusedVariables false

set_option maxRecDepth 100000 in
set_option maxHeartbeats 1000000 in
theorem szInstr_any (c : InsT) (x : Value) (left : Int) (w : World) (lo hi : Nat) (h : SRep w lo hi InsT.dats x c) (hhi : hi ≤ w.heap.size) (hl0 : 0 ≤ left) (hl1 : left ≤ 1048576) (hf : c.Fits) :
    Calls Tryz.prog 72 #[x, .int .i64 left] w fun e w' => e = .returned (.int .i64 (leftOf left c.bulk)) ∧ Below w.heap.size w w' := by
  obtain rfl := InsT.form h
  have ftext : c.text.size ≤ 9223372036854775807 := hf
  have HB : Hid (c.bulk = c.text.size) := rfl
  have hw0 : Below w.heap.size w (w.alloc (.cells #[Value.int .i64 c.op, .int .i64 c.a, .int .i64 c.b, .int .i64 c.line, .string c.text] 108)) := (Below.refl _ _).alloc (Nat.le_refl _) _
  by_cases htext1 : left < (c.text.size : Nat)
  · go_enter Tryz.func72, Tryz.ntmps72
    go_wp2_with fail
    go_ret
    exact ⟨ret_int (leftOf_no (by have := HB.out; omega)).symm, hw0⟩
  go_enter Tryz.func72, Tryz.ntmps72
  go_wp2_with fail
  go_ret
  exact ⟨ret_int (by rw [leftOf_yes (by have := HB.out; omega)]; have := HB.out; omega), hw0⟩
set_option maxRecDepth 100000 in
set_option maxHeartbeats 1000000 in
theorem szInstrS_any (l : List InsT) (v : Value) (left : Int) (w : World) (lo hi : Nat) (h : LRep w lo hi 5 InsT.dats v l) (hhi : hi ≤ w.heap.size) (hl0 : 0 ≤ left) (hl1 : left ≤ 1048576) (hf : ∀ c ∈ l, c.Fits) :
    Calls Tryz.prog 38 #[v, .int .i64 left] w fun e w' => e = .returned (.int .i64 (leftOf left (l.length + sumOf InsT.bulk l))) ∧ Below w.heap.size w w' := by
  obtain ⟨A, cap, rfl, hc1, hc2⟩ := h.shape
  unfold maxLen at hc2
  have HF := Lib.hid hf
  clear hf
  by_cases hn : left < l.length
  · go_enter Tryz.func38, Tryz.ntmps38
    go_wp2_with fail
    go_ret
    exact ⟨ret_int (leftOf_no (by omega)).symm, Below.refl _ _⟩
  go_enter Tryz.func38, Tryz.ntmps38
  go_wp2_with fail
  go_loopw [1, 5] (fun t i wr => ∃ k : Nat, k ≤ l.length ∧ i = .int .i64 k ∧ t = .int .i64 (left - l.length - sumOf InsT.bulk (l.take k)) ∧ sumOf InsT.bulk (l.take k) ≤ left - l.length ∧ Below w.heap.size w wr) (fun _ i _ => l.length - (intOf i).toNat)
  case atStart => exact ⟨0, Nat.zero_le _, rfl, by simp [sumOf], by simp [sumOf]; omega, Below.refl _ _⟩
  case round =>
    obtain ⟨k, hk, rfl, rfl, hle, hb⟩ := hrel
    obtain ⟨wo, rfl⟩ : ∃ wo : World, wo = wr := ⟨_, rfl⟩
    have hz := hb.size
    by_cases hlt : k < l.length
    · obtain ⟨c, hc⟩ : ∃ c, l[k]? = some c := ⟨_, List.getElem?_eq_getElem hlt⟩
      obtain ⟨g, off, rfl, hg1, hg2, hmem, hrep, q0, q1, q2, q3, q4⟩ := InsT.at_ (h.below hb hhi) hc
      have HB := Lib.hid (sumOf_snoc (b := InsT.bulk) hc)
      have hft := HF.out c hmem
      clear hc hmem
      go_wp2_with fail
      refine (szInstr_any c _ _ _ _ _ hrep (by omega) (by omega) (by omega) hft).mono ?_; rintro e w1 ⟨rfl, hb1⟩
      have hb2 := hb.trans (hb1.mono hz)
      clear hrep q0 q1 q2 q3 q4
      by_cases hk1 : left - l.length - sumOf InsT.bulk (l.take k) < c.bulk
      · rw [leftOf_no hk1]
        go_wp2_with fail
        go_ret
        exact ⟨ret_int (leftOf_no (by have := HB.out; have := sumOf_take_le InsT.bulk l (k + 1); omega)).symm, hb2⟩
      · rw [leftOf_yes hk1]
        go_wp2_with fail
        go_roundw
        case rel => exact ⟨k + 1, by omega, by go_num, by rw [HB.out]; go_num, by rw [HB.out]; omega, hb2⟩
        case measure => simp [intOf]; omega
    · obtain rfl : k = l.length := by omega
      rw [List.take_length] at hle ⊢
      go_wp2_with fail
      go_ret
      exact ⟨ret_int (by rw [leftOf_yes (by omega)]; omega), hb⟩
end Go.Proofs.YtekobbeoaalibaaGreatDoor
end

section
namespace Go.Proofs.YtekobbeoaalibaaGreatDoor
open Go.RowKit
set_option linter.unusedVariables false

set_option maxRecDepth 100000 in
set_option maxHeartbeats 1000000 in
theorem szRecordType_any (c : RecT) (x : Value) (left : Int) (w : World) (lo hi : Nat) (h : SRep w lo hi RecT.dats x c) (hhi : hi ≤ w.heap.size) (hl0 : 0 ≤ left) (hl1 : left ≤ 1048576) (hf : c.Fits) :
    Calls Tryz.prog 71 #[x, .int .i64 left] w fun e w' => e = .returned (.int .i64 (leftOf left c.bulk)) ∧ Below w.heap.size w w' := by
  obtain ⟨Afields, nfields, rfl, hfields, ufields, mfields⟩ := RecT.form h
  obtain ⟨fname, ffields⟩ := hf
  have HB : Hid (c.bulk = c.name.size + (c.fields.length + sumOf ByteArray.size c.fields)) := rfl
  unfold maxLen at mfields
  have Ffields := Lib.hid ffields
  clear ffields
  have hw0 : Below w.heap.size w (w.alloc (.cells #[Value.string c.name, .slice Afields c.fields.length nfields, .int .i64 c.line] 106)) := (Below.refl _ _).alloc (Nat.le_refl _) _
  by_cases hname1 : left < (c.name.size : Nat)
  · go_enter Tryz.func71, Tryz.ntmps71
    go_wp2_with fail
    go_ret
    exact ⟨ret_int (leftOf_no (by have := HB.out; omega)).symm, hw0⟩
  go_enter Tryz.func71, Tryz.ntmps71
  go_wp2_with fail
  refine (szStrs_any c.fields _ _ _ lo hi (hfields.below hw0 hhi) (Nat.le_trans hhi hw0.size) (by omega) (by omega) Ffields.out).mono ?_; rintro e w1 ⟨rfl, hb1⟩
  have hw1 : Below w.heap.size w w1 := hw0.trans (hb1.mono hw0.size)
  have a1 := (Blk.new w 106 #[Value.string c.name, .slice Afields c.fields.length nfields, .int .i64 c.line]).later hb1
  have ca := a1.cell
  have la := a1.lt
  by_cases hfields1 : left - (c.name.size : Nat) < ((c.fields.length + sumOf ByteArray.size c.fields) : Nat)
  · rw [leftOf_no hfields1]
    go_wp2_with fail
    go_ret
    exact ⟨ret_int (leftOf_no (by have := HB.out; omega)).symm, hw1⟩
  rw [leftOf_yes hfields1]
  generalize hL : left - (c.name.size : Nat) - (((c.fields.length + sumOf ByteArray.size c.fields) : Nat) : Int) = left1
  have l1a : left1 ≤ left - (c.name.size : Nat) - ((c.fields.length + sumOf ByteArray.size c.fields) : Nat) := by omega
  have l1b : left - (c.name.size : Nat) - ((c.fields.length + sumOf ByteArray.size c.fields) : Nat) ≤ left1 := by omega
  clear hL
  go_wp2_with fail
  go_ret
  exact ⟨ret_int (by rw [leftOf_yes (by have := HB.out; omega)]; have := HB.out; omega), hw1⟩
set_option maxRecDepth 100000 in
set_option maxHeartbeats 1000000 in
theorem szRecordTypeS_any (l : List RecT) (v : Value) (left : Int) (w : World) (lo hi : Nat) (h : LRep w lo hi 3 RecT.dats v l) (hhi : hi ≤ w.heap.size) (hl0 : 0 ≤ left) (hl1 : left ≤ 1048576) (hf : ∀ c ∈ l, c.Fits) :
    Calls Tryz.prog 36 #[v, .int .i64 left] w fun e w' => e = .returned (.int .i64 (leftOf left (l.length + sumOf RecT.bulk l))) ∧ Below w.heap.size w w' := by
  obtain ⟨A, cap, rfl, hc1, hc2⟩ := h.shape
  unfold maxLen at hc2
  have HF := Lib.hid hf
  clear hf
  by_cases hn : left < l.length
  · go_enter Tryz.func36, Tryz.ntmps36
    go_wp2_with fail
    go_ret
    exact ⟨ret_int (leftOf_no (by omega)).symm, Below.refl _ _⟩
  go_enter Tryz.func36, Tryz.ntmps36
  go_wp2_with fail
  go_loopw [1, 5] (fun t i wr => ∃ k : Nat, k ≤ l.length ∧ i = .int .i64 k ∧ t = .int .i64 (left - l.length - sumOf RecT.bulk (l.take k)) ∧ sumOf RecT.bulk (l.take k) ≤ left - l.length ∧ Below w.heap.size w wr) (fun _ i _ => l.length - (intOf i).toNat)
  case atStart => exact ⟨0, Nat.zero_le _, rfl, by simp [sumOf], by simp [sumOf]; omega, Below.refl _ _⟩
  case round =>
    obtain ⟨k, hk, rfl, rfl, hle, hb⟩ := hrel
    obtain ⟨wo, rfl⟩ : ∃ wo : World, wo = wr := ⟨_, rfl⟩
    have hz := hb.size
    by_cases hlt : k < l.length
    · obtain ⟨c, hc⟩ : ∃ c, l[k]? = some c := ⟨_, List.getElem?_eq_getElem hlt⟩
      obtain ⟨g, off, Afields, nfields, rfl, hg1, hg2, hmem, hrep, q0, q1, q2⟩ := RecT.at_ (h.below hb hhi) hc
      have HB := Lib.hid (sumOf_snoc (b := RecT.bulk) hc)
      have hft := HF.out c hmem
      clear hc hmem
      go_wp2_with fail
      refine (szRecordType_any c _ _ _ _ _ hrep (by omega) (by omega) (by omega) hft).mono ?_; rintro e w1 ⟨rfl, hb1⟩
      have hb2 := hb.trans (hb1.mono hz)
      clear hrep q0 q1 q2
      by_cases hk1 : left - l.length - sumOf RecT.bulk (l.take k) < c.bulk
      · rw [leftOf_no hk1]
        go_wp2_with fail
        go_ret
        exact ⟨ret_int (leftOf_no (by have := HB.out; have := sumOf_take_le RecT.bulk l (k + 1); omega)).symm, hb2⟩
      · rw [leftOf_yes hk1]
        go_wp2_with fail
        go_roundw
        case rel => exact ⟨k + 1, by omega, by go_num, by rw [HB.out]; go_num, by rw [HB.out]; omega, hb2⟩
        case measure => simp [intOf]; omega
    · obtain rfl : k = l.length := by omega
      rw [List.take_length] at hle ⊢
      go_wp2_with fail
      go_ret
      exact ⟨ret_int (by rw [leftOf_yes (by omega)]; omega), hb⟩
end Go.Proofs.YtekobbeoaalibaaGreatDoor
end

section
namespace Go.Proofs.YtekobbeoaalibaaGreatDoor
open Go.RowKit
set_option linter.unusedVariables false

set_option maxRecDepth 100000 in
set_option maxHeartbeats 1000000 in
theorem szCode_any (c : CodeT) (x : Value) (left : Int) (w : World) (lo hi : Nat) (h : SRep w lo hi CodeT.dats x c) (hhi : hi ≤ w.heap.size) (hl0 : 0 ≤ left) (hl1 : left ≤ 1048576) (hf : c.Fits) :
    Calls Tryz.prog 9 #[x, .int .i64 left] w fun e w' => e = .returned (.int .i64 (leftOf left c.bulk)) ∧ Below w.heap.size w w' := by
  obtain ⟨Aroutines, nroutines, Arecords, nrecords, Aglobals, nglobals, Ainstrs, ninstrs, rfl, hroutines, uroutines, mroutines, hrecords, urecords, mrecords, hglobals, uglobals, mglobals, hinstrs, uinstrs, minstrs⟩ := CodeT.form h
  obtain ⟨froutines, frecords, fglobals, finstrs⟩ := hf
  have HB : Hid (c.bulk = (c.routines.length + sumOf CRoT.bulk c.routines) + (c.records.length + sumOf RecT.bulk c.records) + (c.globals.length + sumOf ByteArray.size c.globals) + (c.instrs.length + sumOf InsT.bulk c.instrs)) := rfl
  unfold maxLen at mroutines
  unfold maxLen at mrecords
  unfold maxLen at mglobals
  unfold maxLen at minstrs
  have Froutines := Lib.hid froutines
  clear froutines
  have Frecords := Lib.hid frecords
  clear frecords
  have Fglobals := Lib.hid fglobals
  clear fglobals
  have Finstrs := Lib.hid finstrs
  clear finstrs
  have hw0 : Below w.heap.size w (w.alloc (.cells #[Value.slice Aroutines c.routines.length nroutines, .slice Arecords c.records.length nrecords, .slice Aglobals c.globals.length nglobals, .int .i64 c.main, .slice Ainstrs c.instrs.length ninstrs] 27)) := (Below.refl _ _).alloc (Nat.le_refl _) _
  go_enter Tryz.func9, Tryz.ntmps9
  go_wp2_with fail
  refine (szCodeRoutineS_any c.routines _ _ _ lo hi (hroutines.below hw0 hhi) (Nat.le_trans hhi hw0.size) (by omega) (by omega) Froutines.out).mono ?_; rintro e w1 ⟨rfl, hb1⟩
  have hw1 : Below w.heap.size w w1 := hw0.trans (hb1.mono hw0.size)
  have a1 := (Blk.new w 27 #[Value.slice Aroutines c.routines.length nroutines, .slice Arecords c.records.length nrecords, .slice Aglobals c.globals.length nglobals, .int .i64 c.main, .slice Ainstrs c.instrs.length ninstrs]).later hb1
  have ca := a1.cell
  have la := a1.lt
  by_cases hroutines1 : left < ((c.routines.length + sumOf CRoT.bulk c.routines) : Nat)
  · rw [leftOf_no hroutines1]
    go_wp2_with fail
    go_ret
    exact ⟨ret_int (leftOf_no (by have := HB.out; omega)).symm, hw1⟩
  rw [leftOf_yes hroutines1]
  generalize hL : left - (((c.routines.length + sumOf CRoT.bulk c.routines) : Nat) : Int) = left1
  have l1a : left1 ≤ left - ((c.routines.length + sumOf CRoT.bulk c.routines) : Nat) := by omega
  have l1b : left - ((c.routines.length + sumOf CRoT.bulk c.routines) : Nat) ≤ left1 := by omega
  clear hL
  go_wp2_with fail
  refine (szRecordTypeS_any c.records _ _ _ lo hi (hrecords.below hw1 hhi) (Nat.le_trans hhi hw1.size) (by omega) (by omega) Frecords.out).mono ?_; rintro e w2 ⟨rfl, hb2⟩
  have hw2 : Below w.heap.size w w2 := hw1.trans (hb2.mono hw1.size)
  have a2 := a1.later hb2
  clear ca la
  have ca := a2.cell
  have la := a2.lt
  by_cases hrecords1 : left1 < ((c.records.length + sumOf RecT.bulk c.records) : Nat)
  · rw [leftOf_no hrecords1]
    go_wp2_with fail
    go_ret
    exact ⟨ret_int (leftOf_no (by have := HB.out; omega)).symm, hw2⟩
  rw [leftOf_yes hrecords1]
  generalize hL : left1 - (((c.records.length + sumOf RecT.bulk c.records) : Nat) : Int) = left2
  have l2a : left2 ≤ left1 - ((c.records.length + sumOf RecT.bulk c.records) : Nat) := by omega
  have l2b : left1 - ((c.records.length + sumOf RecT.bulk c.records) : Nat) ≤ left2 := by omega
  clear hL
  go_wp2_with fail
  refine (szStrs_any c.globals _ _ _ lo hi (hglobals.below hw2 hhi) (Nat.le_trans hhi hw2.size) (by omega) (by omega) Fglobals.out).mono ?_; rintro e w3 ⟨rfl, hb3⟩
  have hw3 : Below w.heap.size w w3 := hw2.trans (hb3.mono hw2.size)
  have a3 := a2.later hb3
  clear ca la
  have ca := a3.cell
  have la := a3.lt
  by_cases hglobals1 : left2 < ((c.globals.length + sumOf ByteArray.size c.globals) : Nat)
  · rw [leftOf_no hglobals1]
    go_wp2_with fail
    go_ret
    exact ⟨ret_int (leftOf_no (by have := HB.out; omega)).symm, hw3⟩
  rw [leftOf_yes hglobals1]
  generalize hL : left2 - (((c.globals.length + sumOf ByteArray.size c.globals) : Nat) : Int) = left3
  have l3a : left3 ≤ left2 - ((c.globals.length + sumOf ByteArray.size c.globals) : Nat) := by omega
  have l3b : left2 - ((c.globals.length + sumOf ByteArray.size c.globals) : Nat) ≤ left3 := by omega
  clear hL
  go_wp2_with fail
  refine (szInstrS_any c.instrs _ _ _ lo hi (hinstrs.below hw3 hhi) (Nat.le_trans hhi hw3.size) (by omega) (by omega) Finstrs.out).mono ?_; rintro e w4 ⟨rfl, hb4⟩
  have hw4 : Below w.heap.size w w4 := hw3.trans (hb4.mono hw3.size)
  have a4 := a3.later hb4
  clear ca la
  have ca := a4.cell
  have la := a4.lt
  by_cases hinstrs1 : left3 < ((c.instrs.length + sumOf InsT.bulk c.instrs) : Nat)
  · rw [leftOf_no hinstrs1]
    go_wp2_with fail
    go_ret
    exact ⟨ret_int (leftOf_no (by have := HB.out; omega)).symm, hw4⟩
  rw [leftOf_yes hinstrs1]
  generalize hL : left3 - (((c.instrs.length + sumOf InsT.bulk c.instrs) : Nat) : Int) = left4
  have l4a : left4 ≤ left3 - ((c.instrs.length + sumOf InsT.bulk c.instrs) : Nat) := by omega
  have l4b : left3 - ((c.instrs.length + sumOf InsT.bulk c.instrs) : Nat) ≤ left4 := by omega
  clear hL
  go_wp2_with fail
  go_ret
  exact ⟨ret_int (by rw [leftOf_yes (by have := HB.out; omega)]; have := HB.out; omega), hw4⟩
end Go.Proofs.YtekobbeoaalibaaGreatDoor
end

section
namespace Go.Proofs.YtekobbeoaalibaaGreatDoor
open Go.RowKit
set_option linter.unusedVariables false

set_option maxRecDepth 100000 in
theorem szEditS_any (l : List EditT) (v : Value) (left : Int) (w : World) (lo hi : Nat) (h : LRep w lo hi 2 EditT.dats v l) (hl0 : 0 ≤ left) (hl1 : left ≤ 1048576) :
    Calls Tryz.prog 28 #[v, .int .i64 left] w fun e w' => e = .returned (.int .i64 (leftOf left l.length)) ∧ w' = w := by
  obtain ⟨A, cap, rfl, hc1, hc2⟩ := h.shape
  unfold maxLen at hc2
  by_cases hn : left < l.length
  · go_enter Tryz.func28, Tryz.ntmps28
    go_wp2_with fail
    go_ret
    exact ⟨ret_int (leftOf_no (by omega)).symm, rfl⟩
  · go_enter Tryz.func28, Tryz.ntmps28
    go_wp2_with fail
    go_ret
    exact ⟨ret_int (by rw [leftOf_yes (by omega)]), rfl⟩
end Go.Proofs.YtekobbeoaalibaaGreatDoor
end

section
namespace Go.Proofs.YtekobbeoaalibaaGreatDoor
open Go.RowKit

theorem info_strs : (Tryz.prog.info? 9).map (fun i => (i.zero, i.size, i.bytes)) = some (some (.string ⟨#[]⟩), 1, 16) := by kernel_rfl
def OwnStrs (l : List ByteArray) (w : World) (e : Ending) (w' : World) : Prop := ∃ v, e = .returned v ∧ w'.ownsRow w.heap.size 9 1 v l.length (l.map .string) ∧ Below w.heap.size w w'
set_option maxRecDepth 100000 in
set_option maxHeartbeats 400000 in
theorem toStrs_own (v : Value) (l : List ByteArray) (w : World) {lo hi : Nat} (h : Rds w lo hi 1 v l.length (l.map .string)) (hhi : hi ≤ w.heap.size) (hl : l.length ≤ 1048576) :
    Calls Tryz.prog 41 #[v] w (OwnStrs l w) := by
  obtain ⟨i0, hi0, hz0, hz1, hz2⟩ := info_parts info_strs
  obtain ⟨A, c, rfl, hc1, hc2, -⟩ := h.shape
  unfold maxLen at hc2
  go_enter Tryz.func41, Tryz.ntmps41
  go_wp2_with (first | (at_make; refine wpList_make_full w rfl (.tmp 6) (.tmp 6) 24 rfl w.heap.size 9 i0 _ 1 Tryz.underlying24 hi0 hz0 hz1 .i64 .i64 _ _ l.length rfl rfl rfl rfl (by rw [hz2]; omega) (by unfold maxLen; omega) (Nat.le_refl _) ?_))
  intro w1 hown hg
  have hb := below_of_grown hg (Nat.le_refl w.heap.size) (fun g hg => by cases hg)
  obtain ⟨Z, hown⟩ : ∃ Z, w1.ownsRow w.heap.size 9 1 (.slice (some ⟨w.heap.size, 0, none⟩) l.length l.length) l.length Z := ⟨_, hown⟩
  have hzl : (l.map Value.string).length = Z.length := by have := hown.1; rw [List.length_map]; omega
  have Hzl := Lib.hid hzl
  clear hg hzl
  go_wp2_with fail
  go_loopw [4] (fun i wr => ∃ k : Nat, k ≤ l.length ∧ i = .int .i64 k ∧ wr.ownsRow w.heap.size 9 1 (.slice (some ⟨w.heap.size, 0, none⟩) l.length l.length) l.length ((l.map .string).take k ++ Z.drop k) ∧ Below w.heap.size w wr) (fun i _ => l.length - (intOf i).toNat)
  case atStart => exact ⟨0, Nat.zero_le _, rfl, by simpa using hown, hb⟩
  case round =>
    obtain ⟨k, hk, rfl, ho, hbw⟩ := hrel
    by_cases hlt : k < l.length
    · obtain ⟨g, off, x, rfl, -, hgh, hx, hcell⟩ := (h.below hbw hhi).atMap hlt
      have hne : g ≠ w.heap.size := by omega
      have hx' : (l.map Value.string)[k]? = some (.string x) := by rw [List.getElem?_map, hx]; rfl
      have hfz := ho.frozenAt k
      have hc2 : ∃ u, wr.cell? ⟨w.heap.size, k, none⟩ = some u := by
        have hh := ho.cellAt k (by omega)
        have hll : k < ((l.map Value.string).take k ++ Z.drop k).length := by rw [fill_len Hzl.out (by simpa using hk)]; simpa using hlt
        exact ⟨_, hh.trans (List.getElem?_eq_getElem hll)⟩
      obtain ⟨u, hc2⟩ := hc2
      have hst := ho.stored k (.string x)
      rw [fill_set hx' Hzl.out] at hst
      have H1 := Lib.hid hst
      clear hst hx' hx
      go_wp2_with fail
      go_roundw
      case rel => exact ⟨k + 1, by omega, by go_num, H1.out.1, hbw.setCell (Nat.le_refl _) _⟩
      case measure => simp [intOf]; omega
    · obtain rfl : k = l.length := by omega
      go_wp2_with fail
      go_ret
      refine ⟨_, rfl, ?_, hbw⟩
      have := fill_all Hzl.out
      rw [List.length_map] at this
      rw [this] at ho
      exact ho
theorem toStrs_made (l : List ByteArray) (v : Value) (w : World) (lo hi : Nat) (h : LRep w lo hi 1 strDats v l) (hhi : hi ≤ w.heap.size) (hl : l.length + sumOf ByteArray.size l ≤ 1048576) :
    Calls Tryz.prog 41 #[v] w (MadeL 1 strDats l w) :=
  (toStrs_own v l w (LRep.rds.1 h) hhi (by omega)).mono fun e w' ⟨u, he, ho, hb⟩ => ⟨u, he, OwnLR.texts ho (Nat.le_refl _), hb⟩
theorem toStrs_any (l : List ByteArray) (v : Value) (w : World) (lo hi : Nat) (h : LRep w lo hi 1 strDats v l) (hhi : hi ≤ w.heap.size) (hl : l.length + sumOf ByteArray.size l ≤ 1048576) :
    Calls Tryz.prog 41 #[v] w (OwnL 1 strDats l w) :=
  (toStrs_own v l w (LRep.rds.1 h) hhi (by omega)).mono fun e w' ⟨u, he, ho, hb⟩ => ⟨u, he, LRep.rds.2 (Rds.of_own ho), hb⟩
end Go.Proofs.YtekobbeoaalibaaGreatDoor
end

section
namespace Go.Proofs.YtekobbeoaalibaaGreatDoor
open Go.RowKit
set_option linter.unusedVariables false

set_option maxRecDepth 100000 in
set_option maxHeartbeats 1000000 in
theorem toCodeRoutine_made (c : CRoT) (x : Value) (w : World) (lo hi : Nat) (h : SRep w lo hi CRoT.dats x c) (hhi : hi ≤ w.heap.size) (hbk : c.bulk ≤ 1048576) :
    Calls Tryz.prog 73 #[x] w (MadeS CRoT.dats c w) := by
  obtain rfl := CRoT.form h
  go_enter Tryz.func73, Tryz.ntmps73
  go_wp2_with fail
  refine bodyPost_ret (v := .agg #[Value.string c.name, .int .i64 c.params, .int .i64 c.slots, .int .i64 c.entry]) ?_ rfl ⟨[Value.string c.name, .int .i64 c.params, .int .i64 c.slots, .int .i64 c.entry], rfl, (.str_ (.int_ (.int_ (.int_ .nil_)))), ?_⟩
  · simp [results, Tryz.results73, go_sem]
  · exact (((Below.refl _ _).alloc (Nat.le_refl _) _).alloc (by simp) _).alloc (by simp; omega) _
theorem toCodeRoutine_any (c : CRoT) (x : Value) (w : World) (lo hi : Nat) (h : SRep w lo hi CRoT.dats x c) (hhi : hi ≤ w.heap.size) (hbk : c.bulk ≤ 1048576) :
    Calls Tryz.prog 73 #[x] w (OwnS CRoT.dats c w) := (toCodeRoutine_made c x w lo hi h hhi hbk).mono fun e w' h => h.own
theorem info_CRoT : (Tryz.prog.info? 76).map (fun i => (i.zero, i.size, i.bytes)) = some (some (.agg #[.string ⟨#[]⟩, .int .i64 0, .int .i64 0, .int .i64 0]), 4, 40) := by kernel_rfl
set_option maxRecDepth 100000 in
set_option maxHeartbeats 1000000 in
theorem toCodeRoutineS_made (l : List CRoT) (v : Value) (w : World) (lo hi : Nat) (h : LRep w lo hi 4 CRoT.dats v l) (hhi : hi ≤ w.heap.size) (hl : l.length + sumOf CRoT.bulk l ≤ 1048576) :
    Calls Tryz.prog 39 #[v] w (MadeL 4 CRoT.dats l w) := by
  obtain ⟨i0, hi0, hz0, hz1, hz2⟩ := info_parts info_CRoT
  obtain ⟨A, cap, rfl, hc1, hc2⟩ := h.shape
  unfold maxLen at hc2
  go_enter Tryz.func39, Tryz.ntmps39
  go_wp2_with (first | (at_make; refine wpList_make_full w rfl (.tmp 6) (.tmp 6) 30 rfl w.heap.size 76 i0 _ 4 Tryz.underlying30 hi0 hz0 hz1 .i64 .i64 _ _ l.length rfl rfl rfl rfl (by rw [hz2]; omega) (by unfold maxLen; omega) (Nat.le_refl _) ?_))
  intro w1 hown hg
  have hb := below_of_grown hg (Nat.le_refl w.heap.size) (fun g hg => by cases hg)
  have hz : w.heap.size + 1 ≤ w1.heap.size := (hown.lt _ rfl).2
  obtain ⟨Z, hown⟩ : ∃ Z, w1.ownsRow w.heap.size 76 4 (.slice (some ⟨w.heap.size, 0, none⟩) l.length l.length) l.length Z := ⟨_, hown⟩
  have HZ := Lib.hid hown.1
  clear hg
  go_wp2_with fail
  go_loopw [4] (fun i wr => ∃ (k : Nat) (vs : List Value), k ≤ l.length ∧ i = .int .i64 k ∧ wr.ownsRow w.heap.size 76 4 (.slice (some ⟨w.heap.size, 0, none⟩) l.length l.length) l.length (vs ++ Z.drop (k * 4)) ∧ OwnR wr (w.heap.size + 1) wr.heap.size (flat CRoT.dats (l.take k)) vs ∧ Below w.heap.size w wr ∧ w.heap.size + 1 ≤ wr.heap.size) (fun i _ => l.length - (intOf i).toNat)
  case atStart => exact ⟨0, [], Nat.zero_le _, rfl, by simpa using hown, by simp only [List.take_zero, flat_nil]; exact .nil_, hb, hz⟩
  case round =>
    clear hown hb hz
    obtain ⟨k, vs, hk, rfl, hown, hrep, hb, hz⟩ := hrel
    obtain ⟨wo, rfl⟩ : ∃ wo : World, wo = wr := ⟨_, rfl⟩
    have hvs : vs.length = k * 4 := by rw [hrep.len, flat_len CRoT.dats_len, List.length_take, Nat.min_eq_left hk]
    have HV := Lib.hid hvs
    clear hvs
    by_cases hlt : k < l.length
    · obtain ⟨c, hc⟩ : ∃ c, l[k]? = some c := ⟨_, List.getElem?_eq_getElem hlt⟩
      obtain ⟨g, off, rfl, hg1, hg2, hmem, hcr, q0, q1, q2, q3⟩ := CRoT.at_ (h.below hb hhi) hc
      have HD := Lib.hid (flat_snoc (f := CRoT.dats) hc)
      have hbm := sumOf_mem (b := CRoT.bulk) hmem
      clear hc hmem
      go_wp2_with fail
      refine (toCodeRoutine_made c _ _ _ _ hcr (by omega) (by omega)).mono ?_; rintro e w1 ⟨cs, rfl, hx, hb1⟩
      obtain hcs := CRoT.form ⟨cs, rfl, hx.rep⟩
      obtain rfl : cs = [Value.string c.name, .int .i64 c.params, .int .i64 c.slots, .int .i64 c.entry] := congrArg Array.toList (Value.agg.inj hcs)
      have z1 := hb1.size
      have hown1 := own_later hown hb1
      have hrep1 := (hrep.below hb1 (Nat.le_refl _)).app hx hz z1
      have hb2 := hb.trans (hb1.mono (by omega))
      clear hown hrep hx hb1 hb hcr q0 q1 q2 q3
      obtain ⟨⟨o0, d0⟩, f0⟩ := own_at hown1 (k * 4) (by omega)
      obtain ⟨⟨o1, d1⟩, f1⟩ := own_at hown1 (k * 4 + 1) (by omega)
      obtain ⟨⟨o2, d2⟩, f2⟩ := own_at hown1 (k * 4 + 2) (by omega)
      obtain ⟨⟨o3, d3⟩, f3⟩ := own_at hown1 (k * 4 + 3) (by omega)
      have own2 := own_putAll [Value.string c.name, .int .i64 c.params, .int .i64 c.slots, .int .i64 c.entry] _ _ (k * 4) hown1
      rw [setAll_fill _ _ _ HV.out (by rw [HZ.out]; simp; omega)] at own2
      have rep2 := OwnR.putAll (g := w.heap.size) (.inl (Nat.lt_succ_self _)) [Value.string c.name, .int .i64 c.params, .int .i64 c.slots, .int .i64 c.entry] _ (k * 4) hrep1
      have bel2 := below_putAll (Nat.le_refl w.heap.size) [Value.string c.name, .int .i64 c.params, .int .i64 c.slots, .int .i64 c.entry] _ _ (k * 4) hb2
      have siz2 := putAll_size w.heap.size [Value.string c.name, .int .i64 c.params, .int .i64 c.slots, .int .i64 c.entry] w1 (k * 4)
      simp only [putAll, Nat.add_assoc, Nat.reduceAdd, List.length_cons, List.length_nil] at own2 rep2 bel2 siz2
      have O2 := Lib.hid own2
      have R2 := Lib.hid rep2
      have S2 := Lib.hid siz2
      clear own2 rep2 hown1 hrep1 siz2 hcs
      go_wp2_with fail
      go_roundw
      case rel =>
        refine ⟨k + 1, vs ++ [Value.string c.name, .int .i64 c.params, .int .i64 c.slots, .int .i64 c.entry], by omega, by go_num, ?_, ?_, bel2, by rw [S2.out]; omega⟩
        · rw [Nat.succ_mul]; exact O2.out
        · rw [HD.out, S2.out]; exact R2.out
      case measure => simp [intOf]; omega
    · obtain rfl : k = l.length := by omega
      rw [List.take_length] at hrep
      go_wp2_with fail
      go_ret
      rw [List.drop_eq_nil_of_le (by rw [HZ.out]; exact Nat.le_refl _), List.append_nil] at hown
      exact ⟨_, rfl, OwnLR.mk_ (mid := w.heap.size + 1) hown hrep (by simp [Value.ownBlock]) (by omega) hz, hb⟩
theorem toCodeRoutineS_any (l : List CRoT) (v : Value) (w : World) (lo hi : Nat) (h : LRep w lo hi 4 CRoT.dats v l) (hhi : hi ≤ w.heap.size) (hl : l.length + sumOf CRoT.bulk l ≤ 1048576) :
    Calls Tryz.prog 39 #[v] w (OwnL 4 CRoT.dats l w) := (toCodeRoutineS_made l v w lo hi h hhi hl).mono fun e w' h => h.own
end Go.Proofs.YtekobbeoaalibaaGreatDoor
end

section
namespace Go.Proofs.YtekobbeoaalibaaGreatDoor
open Go.RowKit
set_option linter.unusedVariables false

set_option maxRecDepth 100000 in
set_option maxHeartbeats 1000000 in
theorem toInstr_made (c : InsT) (x : Value) (w : World) (lo hi : Nat) (h : SRep w lo hi InsT.dats x c) (hhi : hi ≤ w.heap.size) (hbk : c.bulk ≤ 1048576) :
    Calls Tryz.prog 75 #[x] w (MadeS InsT.dats c w) := by
  obtain rfl := InsT.form h
  go_enter Tryz.func75, Tryz.ntmps75
  go_wp2_with fail
  refine bodyPost_ret (v := .agg #[Value.int .i64 c.op, .int .i64 c.a, .int .i64 c.b, .int .i64 c.line, .string c.text]) ?_ rfl ⟨[Value.int .i64 c.op, .int .i64 c.a, .int .i64 c.b, .int .i64 c.line, .string c.text], rfl, (.int_ (.int_ (.int_ (.int_ (.str_ .nil_))))), ?_⟩
  · simp [results, Tryz.results75, go_sem]
  · exact (((Below.refl _ _).alloc (Nat.le_refl _) _).alloc (by simp) _).alloc (by simp; omega) _
theorem toInstr_any (c : InsT) (x : Value) (w : World) (lo hi : Nat) (h : SRep w lo hi InsT.dats x c) (hhi : hi ≤ w.heap.size) (hbk : c.bulk ≤ 1048576) :
    Calls Tryz.prog 75 #[x] w (OwnS InsT.dats c w) := (toInstr_made c x w lo hi h hhi hbk).mono fun e w' h => h.own
theorem info_InsT : (Tryz.prog.info? 79).map (fun i => (i.zero, i.size, i.bytes)) = some (some (.agg #[.int .i64 0, .int .i64 0, .int .i64 0, .int .i64 0, .string ⟨#[]⟩]), 5, 48) := by kernel_rfl
set_option maxRecDepth 100000 in
set_option maxHeartbeats 1000000 in
theorem toInstrS_made (l : List InsT) (v : Value) (w : World) (lo hi : Nat) (h : LRep w lo hi 5 InsT.dats v l) (hhi : hi ≤ w.heap.size) (hl : l.length + sumOf InsT.bulk l ≤ 1048576) :
    Calls Tryz.prog 42 #[v] w (MadeL 5 InsT.dats l w) := by
  obtain ⟨i0, hi0, hz0, hz1, hz2⟩ := info_parts info_InsT
  obtain ⟨A, cap, rfl, hc1, hc2⟩ := h.shape
  unfold maxLen at hc2
  go_enter Tryz.func42, Tryz.ntmps42
  go_wp2_with (first | (at_make; refine wpList_make_full w rfl (.tmp 6) (.tmp 6) 32 rfl w.heap.size 79 i0 _ 5 Tryz.underlying32 hi0 hz0 hz1 .i64 .i64 _ _ l.length rfl rfl rfl rfl (by rw [hz2]; omega) (by unfold maxLen; omega) (Nat.le_refl _) ?_))
  intro w1 hown hg
  have hb := below_of_grown hg (Nat.le_refl w.heap.size) (fun g hg => by cases hg)
  have hz : w.heap.size + 1 ≤ w1.heap.size := (hown.lt _ rfl).2
  obtain ⟨Z, hown⟩ : ∃ Z, w1.ownsRow w.heap.size 79 5 (.slice (some ⟨w.heap.size, 0, none⟩) l.length l.length) l.length Z := ⟨_, hown⟩
  have HZ := Lib.hid hown.1
  clear hg
  go_wp2_with fail
  go_loopw [4] (fun i wr => ∃ (k : Nat) (vs : List Value), k ≤ l.length ∧ i = .int .i64 k ∧ wr.ownsRow w.heap.size 79 5 (.slice (some ⟨w.heap.size, 0, none⟩) l.length l.length) l.length (vs ++ Z.drop (k * 5)) ∧ OwnR wr (w.heap.size + 1) wr.heap.size (flat InsT.dats (l.take k)) vs ∧ Below w.heap.size w wr ∧ w.heap.size + 1 ≤ wr.heap.size) (fun i _ => l.length - (intOf i).toNat)
  case atStart => exact ⟨0, [], Nat.zero_le _, rfl, by simpa using hown, by simp only [List.take_zero, flat_nil]; exact .nil_, hb, hz⟩
  case round =>
    clear hown hb hz
    obtain ⟨k, vs, hk, rfl, hown, hrep, hb, hz⟩ := hrel
    obtain ⟨wo, rfl⟩ : ∃ wo : World, wo = wr := ⟨_, rfl⟩
    have hvs : vs.length = k * 5 := by rw [hrep.len, flat_len InsT.dats_len, List.length_take, Nat.min_eq_left hk]
    have HV := Lib.hid hvs
    clear hvs
    by_cases hlt : k < l.length
    · obtain ⟨c, hc⟩ : ∃ c, l[k]? = some c := ⟨_, List.getElem?_eq_getElem hlt⟩
      obtain ⟨g, off, rfl, hg1, hg2, hmem, hcr, q0, q1, q2, q3, q4⟩ := InsT.at_ (h.below hb hhi) hc
      have HD := Lib.hid (flat_snoc (f := InsT.dats) hc)
      have hbm := sumOf_mem (b := InsT.bulk) hmem
      clear hc hmem
      go_wp2_with fail
      refine (toInstr_made c _ _ _ _ hcr (by omega) (by omega)).mono ?_; rintro e w1 ⟨cs, rfl, hx, hb1⟩
      obtain hcs := InsT.form ⟨cs, rfl, hx.rep⟩
      obtain rfl : cs = [Value.int .i64 c.op, .int .i64 c.a, .int .i64 c.b, .int .i64 c.line, .string c.text] := congrArg Array.toList (Value.agg.inj hcs)
      have z1 := hb1.size
      have hown1 := own_later hown hb1
      have hrep1 := (hrep.below hb1 (Nat.le_refl _)).app hx hz z1
      have hb2 := hb.trans (hb1.mono (by omega))
      clear hown hrep hx hb1 hb hcr q0 q1 q2 q3 q4
      obtain ⟨⟨o0, d0⟩, f0⟩ := own_at hown1 (k * 5) (by omega)
      obtain ⟨⟨o1, d1⟩, f1⟩ := own_at hown1 (k * 5 + 1) (by omega)
      obtain ⟨⟨o2, d2⟩, f2⟩ := own_at hown1 (k * 5 + 2) (by omega)
      obtain ⟨⟨o3, d3⟩, f3⟩ := own_at hown1 (k * 5 + 3) (by omega)
      obtain ⟨⟨o4, d4⟩, f4⟩ := own_at hown1 (k * 5 + 4) (by omega)
      have own2 := own_putAll [Value.int .i64 c.op, .int .i64 c.a, .int .i64 c.b, .int .i64 c.line, .string c.text] _ _ (k * 5) hown1
      rw [setAll_fill _ _ _ HV.out (by rw [HZ.out]; simp; omega)] at own2
      have rep2 := OwnR.putAll (g := w.heap.size) (.inl (Nat.lt_succ_self _)) [Value.int .i64 c.op, .int .i64 c.a, .int .i64 c.b, .int .i64 c.line, .string c.text] _ (k * 5) hrep1
      have bel2 := below_putAll (Nat.le_refl w.heap.size) [Value.int .i64 c.op, .int .i64 c.a, .int .i64 c.b, .int .i64 c.line, .string c.text] _ _ (k * 5) hb2
      have siz2 := putAll_size w.heap.size [Value.int .i64 c.op, .int .i64 c.a, .int .i64 c.b, .int .i64 c.line, .string c.text] w1 (k * 5)
      simp only [putAll, Nat.add_assoc, Nat.reduceAdd, List.length_cons, List.length_nil] at own2 rep2 bel2 siz2
      have O2 := Lib.hid own2
      have R2 := Lib.hid rep2
      have S2 := Lib.hid siz2
      clear own2 rep2 hown1 hrep1 siz2 hcs
      go_wp2_with fail
      go_roundw
      case rel =>
        refine ⟨k + 1, vs ++ [Value.int .i64 c.op, .int .i64 c.a, .int .i64 c.b, .int .i64 c.line, .string c.text], by omega, by go_num, ?_, ?_, bel2, by rw [S2.out]; omega⟩
        · rw [Nat.succ_mul]; exact O2.out
        · rw [HD.out, S2.out]; exact R2.out
      case measure => simp [intOf]; omega
    · obtain rfl : k = l.length := by omega
      rw [List.take_length] at hrep
      go_wp2_with fail
      go_ret
      rw [List.drop_eq_nil_of_le (by rw [HZ.out]; exact Nat.le_refl _), List.append_nil] at hown
      exact ⟨_, rfl, OwnLR.mk_ (mid := w.heap.size + 1) hown hrep (by simp [Value.ownBlock]) (by omega) hz, hb⟩
theorem toInstrS_any (l : List InsT) (v : Value) (w : World) (lo hi : Nat) (h : LRep w lo hi 5 InsT.dats v l) (hhi : hi ≤ w.heap.size) (hl : l.length + sumOf InsT.bulk l ≤ 1048576) :
    Calls Tryz.prog 42 #[v] w (OwnL 5 InsT.dats l w) := (toInstrS_made l v w lo hi h hhi hl).mono fun e w' h => h.own
end Go.Proofs.YtekobbeoaalibaaGreatDoor
end

section
namespace Go.Proofs.YtekobbeoaalibaaGreatDoor
open Go.RowKit
set_option linter.unusedVariables false

set_option maxRecDepth 100000 in
set_option maxHeartbeats 1000000 in
theorem toRecordType_made (c : RecT) (x : Value) (w : World) (lo hi : Nat) (h : SRep w lo hi RecT.dats x c) (hhi : hi ≤ w.heap.size) (hbk : c.bulk ≤ 1048576) :
    Calls Tryz.prog 74 #[x] w (MadeS RecT.dats c w) := by
  obtain ⟨Afields, nfields, rfl, hfields, ufields, mfields⟩ := RecT.form h
  unfold RecT.bulk at hbk
  unfold maxLen at mfields
  go_enter Tryz.func74, Tryz.ntmps74
  go_wp2_with fail
  have fr0 := TFrm.new w 106 110 #[Value.string c.name, .slice Afields c.fields.length nfields, .int .i64 c.line] #[Value.string ⟨#[]⟩, .slice none 0 0, .int .i64 0] #[Value.string c.name, .slice none 0 0, .int .i64 0]
  refine (toStrs_made c.fields _ _ lo hi (hfields.below fr0.bel hhi) (by simp; omega) (by omega)).mono ?_; rintro e w1 ⟨v1, rfl, r1, hb1⟩
  obtain ⟨B1, m1, rfl, -, -⟩ := r1.rep.shape
  have fr1 := fr0.later hb1
  have z1 : w.heap.size + 3 ≤ w1.heap.size := by have := fr1.var.lt; omega
  have R1 : OwnLR w1 (w.heap.size + 3) w1.heap.size 1 strDats (.slice B1 c.fields.length m1) c.fields := r1.wide (by simp) (Nat.le_refl _)
  have ca := fr1.arg.cell
  have co := fr1.var.cell
  have fo := fr1.var.frozen
  have cr := fr1.res.cell
  have fr' := fr1.res.frozen
  clear hb1 r1
  have la := fr1.arg.lt
  have lv := fr1.var.lt
  go_wp2_with fail
  refine bodyPost_ret (v := .agg #[Value.string c.name, .slice B1 c.fields.length m1, .int .i64 c.line]) ?_ rfl ⟨[Value.string c.name, .slice B1 c.fields.length m1, .int .i64 c.line], rfl, (.str_ (.row_ (mid := w1.heap.size) ?_ (.int_ .nil_) (by omega) (by simp [World.setCell] <;> omega))), ?_⟩
  · simp [results, Tryz.results74, go_sem, cr]
  · refine OwnLR.wide (lo := w.heap.size + 3) (hi := w1.heap.size) ?_ (by omega) (Nat.le_refl _)
    iterate 5 refine OwnLR.setFar ?_ (.inl (by simp <;> omega)) _
    exact R1
  · iterate 5 refine Below.setCell ?_ (by simp <;> omega) _
    exact fr1.bel
theorem toRecordType_any (c : RecT) (x : Value) (w : World) (lo hi : Nat) (h : SRep w lo hi RecT.dats x c) (hhi : hi ≤ w.heap.size) (hbk : c.bulk ≤ 1048576) :
    Calls Tryz.prog 74 #[x] w (OwnS RecT.dats c w) := (toRecordType_made c x w lo hi h hhi hbk).mono fun e w' h => h.own
theorem info_RecT : (Tryz.prog.info? 110).map (fun i => (i.zero, i.size, i.bytes)) = some (some (.agg #[.string ⟨#[]⟩, .slice none 0 0, .int .i64 0]), 3, 48) := by kernel_rfl
set_option maxRecDepth 100000 in
set_option maxHeartbeats 1000000 in
theorem toRecordTypeS_made (l : List RecT) (v : Value) (w : World) (lo hi : Nat) (h : LRep w lo hi 3 RecT.dats v l) (hhi : hi ≤ w.heap.size) (hl : l.length + sumOf RecT.bulk l ≤ 1048576) :
    Calls Tryz.prog 40 #[v] w (MadeL 3 RecT.dats l w) := by
  obtain ⟨i0, hi0, hz0, hz1, hz2⟩ := info_parts info_RecT
  obtain ⟨A, cap, rfl, hc1, hc2⟩ := h.shape
  unfold maxLen at hc2
  go_enter Tryz.func40, Tryz.ntmps40
  go_wp2_with (first | (at_make; refine wpList_make_full w rfl (.tmp 6) (.tmp 6) 31 rfl w.heap.size 110 i0 _ 3 Tryz.underlying31 hi0 hz0 hz1 .i64 .i64 _ _ l.length rfl rfl rfl rfl (by rw [hz2]; omega) (by unfold maxLen; omega) (Nat.le_refl _) ?_))
  intro w1 hown hg
  have hb := below_of_grown hg (Nat.le_refl w.heap.size) (fun g hg => by cases hg)
  have hz : w.heap.size + 1 ≤ w1.heap.size := (hown.lt _ rfl).2
  obtain ⟨Z, hown⟩ : ∃ Z, w1.ownsRow w.heap.size 110 3 (.slice (some ⟨w.heap.size, 0, none⟩) l.length l.length) l.length Z := ⟨_, hown⟩
  have HZ := Lib.hid hown.1
  clear hg
  go_wp2_with fail
  go_loopw [4] (fun i wr => ∃ (k : Nat) (vs : List Value), k ≤ l.length ∧ i = .int .i64 k ∧ wr.ownsRow w.heap.size 110 3 (.slice (some ⟨w.heap.size, 0, none⟩) l.length l.length) l.length (vs ++ Z.drop (k * 3)) ∧ OwnR wr (w.heap.size + 1) wr.heap.size (flat RecT.dats (l.take k)) vs ∧ Below w.heap.size w wr ∧ w.heap.size + 1 ≤ wr.heap.size) (fun i _ => l.length - (intOf i).toNat)
  case atStart => exact ⟨0, [], Nat.zero_le _, rfl, by simpa using hown, by simp only [List.take_zero, flat_nil]; exact .nil_, hb, hz⟩
  case round =>
    clear hown hb hz
    obtain ⟨k, vs, hk, rfl, hown, hrep, hb, hz⟩ := hrel
    obtain ⟨wo, rfl⟩ : ∃ wo : World, wo = wr := ⟨_, rfl⟩
    have hvs : vs.length = k * 3 := by rw [hrep.len, flat_len RecT.dats_len, List.length_take, Nat.min_eq_left hk]
    have HV := Lib.hid hvs
    clear hvs
    by_cases hlt : k < l.length
    · obtain ⟨c, hc⟩ : ∃ c, l[k]? = some c := ⟨_, List.getElem?_eq_getElem hlt⟩
      obtain ⟨g, off, Afields, nfields, rfl, hg1, hg2, hmem, hcr, q0, q1, q2⟩ := RecT.at_ (h.below hb hhi) hc
      have HD := Lib.hid (flat_snoc (f := RecT.dats) hc)
      have hbm := sumOf_mem (b := RecT.bulk) hmem
      clear hc hmem
      go_wp2_with fail
      refine (toRecordType_made c _ _ _ _ hcr (by omega) (by omega)).mono ?_; rintro e w1 ⟨cs, rfl, hx, hb1⟩
      obtain ⟨Afields', nfields', hcs, _, _, _⟩ := RecT.form ⟨cs, rfl, hx.rep⟩
      obtain rfl : cs = [Value.string c.name, .slice Afields' c.fields.length nfields', .int .i64 c.line] := congrArg Array.toList (Value.agg.inj hcs)
      have z1 := hb1.size
      have hown1 := own_later hown hb1
      have hrep1 := (hrep.below hb1 (Nat.le_refl _)).app hx hz z1
      have hb2 := hb.trans (hb1.mono (by omega))
      clear hown hrep hx hb1 hb hcr q0 q1 q2
      obtain ⟨⟨o0, d0⟩, f0⟩ := own_at hown1 (k * 3) (by omega)
      obtain ⟨⟨o1, d1⟩, f1⟩ := own_at hown1 (k * 3 + 1) (by omega)
      obtain ⟨⟨o2, d2⟩, f2⟩ := own_at hown1 (k * 3 + 2) (by omega)
      have own2 := own_putAll [Value.string c.name, .slice Afields' c.fields.length nfields', .int .i64 c.line] _ _ (k * 3) hown1
      rw [setAll_fill _ _ _ HV.out (by rw [HZ.out]; simp; omega)] at own2
      have rep2 := OwnR.putAll (g := w.heap.size) (.inl (Nat.lt_succ_self _)) [Value.string c.name, .slice Afields' c.fields.length nfields', .int .i64 c.line] _ (k * 3) hrep1
      have bel2 := below_putAll (Nat.le_refl w.heap.size) [Value.string c.name, .slice Afields' c.fields.length nfields', .int .i64 c.line] _ _ (k * 3) hb2
      have siz2 := putAll_size w.heap.size [Value.string c.name, .slice Afields' c.fields.length nfields', .int .i64 c.line] w1 (k * 3)
      simp only [putAll, Nat.add_assoc, Nat.reduceAdd, List.length_cons, List.length_nil] at own2 rep2 bel2 siz2
      have O2 := Lib.hid own2
      have R2 := Lib.hid rep2
      have S2 := Lib.hid siz2
      clear own2 rep2 hown1 hrep1 siz2 hcs
      go_wp2_with fail
      go_roundw
      case rel =>
        refine ⟨k + 1, vs ++ [Value.string c.name, .slice Afields' c.fields.length nfields', .int .i64 c.line], by omega, by go_num, ?_, ?_, bel2, by rw [S2.out]; omega⟩
        · rw [Nat.succ_mul]; exact O2.out
        · rw [HD.out, S2.out]; exact R2.out
      case measure => simp [intOf]; omega
    · obtain rfl : k = l.length := by omega
      rw [List.take_length] at hrep
      go_wp2_with fail
      go_ret
      rw [List.drop_eq_nil_of_le (by rw [HZ.out]; exact Nat.le_refl _), List.append_nil] at hown
      exact ⟨_, rfl, OwnLR.mk_ (mid := w.heap.size + 1) hown hrep (by simp [Value.ownBlock]) (by omega) hz, hb⟩
theorem toRecordTypeS_any (l : List RecT) (v : Value) (w : World) (lo hi : Nat) (h : LRep w lo hi 3 RecT.dats v l) (hhi : hi ≤ w.heap.size) (hl : l.length + sumOf RecT.bulk l ≤ 1048576) :
    Calls Tryz.prog 40 #[v] w (OwnL 3 RecT.dats l w) := (toRecordTypeS_made l v w lo hi h hhi hl).mono fun e w' h => h.own
end Go.Proofs.YtekobbeoaalibaaGreatDoor
end

section
namespace Go.Proofs.YtekobbeoaalibaaGreatDoor
open Go.RowKit
set_option linter.unusedVariables false

set_option maxRecDepth 100000 in
set_option maxHeartbeats 1000000 in
theorem toCode_made (c : CodeT) (x : Value) (w : World) (lo hi : Nat) (h : SRep w lo hi CodeT.dats x c) (hhi : hi ≤ w.heap.size) (hbk : c.bulk ≤ 1048576) :
    Calls Tryz.prog 11 #[x] w (MadeS CodeT.dats c w) := by
  obtain ⟨Aroutines, nroutines, Arecords, nrecords, Aglobals, nglobals, Ainstrs, ninstrs, rfl, hroutines, uroutines, mroutines, hrecords, urecords, mrecords, hglobals, uglobals, mglobals, hinstrs, uinstrs, minstrs⟩ := CodeT.form h
  unfold CodeT.bulk at hbk
  unfold maxLen at mroutines
  unfold maxLen at mrecords
  unfold maxLen at mglobals
  unfold maxLen at minstrs
  go_enter Tryz.func11, Tryz.ntmps11
  go_wp2_with fail
  have fr0 := TFrm.new w 27 34 #[Value.slice Aroutines c.routines.length nroutines, .slice Arecords c.records.length nrecords, .slice Aglobals c.globals.length nglobals, .int .i64 c.main, .slice Ainstrs c.instrs.length ninstrs] #[Value.slice none 0 0, .slice none 0 0, .slice none 0 0, .int .i64 0, .slice none 0 0] #[Value.slice none 0 0, .slice none 0 0, .slice none 0 0, .int .i64 0, .slice none 0 0]
  refine (toCodeRoutineS_made c.routines _ _ lo hi (hroutines.below fr0.bel hhi) (by simp; omega) (by omega)).mono ?_; rintro e w1 ⟨v1, rfl, r1, hb1⟩
  obtain ⟨B1, m1, rfl, -, -⟩ := r1.rep.shape
  have fr1 := fr0.later hb1
  have z1 : w.heap.size + 3 ≤ w1.heap.size := by have := fr1.var.lt; omega
  have R1 : OwnLR w1 (w.heap.size + 3) w1.heap.size 4 CRoT.dats (.slice B1 c.routines.length m1) c.routines := r1.wide (by simp) (Nat.le_refl _)
  have ca := fr1.arg.cell
  have co := fr1.var.cell
  have fo := fr1.var.frozen
  have cr := fr1.res.cell
  have fr' := fr1.res.frozen
  clear hb1 r1
  have la := fr1.arg.lt
  have lv := fr1.var.lt
  go_wp2_with fail
  refine (toRecordTypeS_made c.records _ _ lo hi (hrecords.below (fr1.bel.setCell (by simp; omega) _) hhi) (Nat.le_trans hhi (fr1.bel.setCell (by simp; omega) _).size) (by omega)).mono ?_; rintro e w2 ⟨v2, rfl, r2, hb2⟩
  obtain ⟨B2, m2, rfl, -, -⟩ := r2.rep.shape
  have fr2 := (fr1.set _ _).later hb2
  have z2 : w.heap.size + 3 ≤ w2.heap.size := by have := fr2.var.lt; omega
  have R2 : OwnLR w2 w1.heap.size w2.heap.size 3 RecT.dats (.slice B2 c.records.length m2) c.records := r2.wide (by simp [World.setCell]) (Nat.le_refl _)
  have y2 : w1.heap.size ≤ w2.heap.size := by have := hb2.size; simpa [World.setCell] using this
  have T1 := OwnLR.below (OwnLR.setFar R1 (.inl (by simp <;> omega)) _) hb2 (by simp [World.setCell] <;> omega)
  clear R1
  have R1 := T1
  clear T1
  clear co fo ca cr fr'
  have ca := fr2.arg.cell
  have co := fr2.var.cell
  have fo := fr2.var.frozen
  have cr := fr2.res.cell
  have fr' := fr2.res.frozen
  clear hb2 r2
  clear la
  have la := fr2.arg.lt
  clear lv
  have lv := fr2.var.lt
  go_wp2_with fail
  refine (toStrs_made c.globals _ _ lo hi (hglobals.below (fr2.bel.setCell (by simp; omega) _) hhi) (Nat.le_trans hhi (fr2.bel.setCell (by simp; omega) _).size) (by omega)).mono ?_; rintro e w3 ⟨v3, rfl, r3, hb3⟩
  obtain ⟨B3, m3, rfl, -, -⟩ := r3.rep.shape
  have fr3 := (fr2.set _ _).later hb3
  have z3 : w.heap.size + 3 ≤ w3.heap.size := by have := fr3.var.lt; omega
  have R3 : OwnLR w3 w2.heap.size w3.heap.size 1 strDats (.slice B3 c.globals.length m3) c.globals := r3.wide (by simp [World.setCell]) (Nat.le_refl _)
  have y3 : w2.heap.size ≤ w3.heap.size := by have := hb3.size; simpa [World.setCell] using this
  have T1 := OwnLR.below (OwnLR.setFar R1 (.inl (by simp <;> omega)) _) hb3 (by simp [World.setCell] <;> omega)
  clear R1
  have R1 := T1
  clear T1
  have T2 := OwnLR.below (OwnLR.setFar R2 (.inl (by simp <;> omega)) _) hb3 (by simp [World.setCell] <;> omega)
  clear R2
  have R2 := T2
  clear T2
  clear co fo ca cr fr'
  have ca := fr3.arg.cell
  have co := fr3.var.cell
  have fo := fr3.var.frozen
  have cr := fr3.res.cell
  have fr' := fr3.res.frozen
  clear hb3 r3
  clear la
  have la := fr3.arg.lt
  clear lv
  have lv := fr3.var.lt
  go_wp2_with fail
  refine (toInstrS_made c.instrs _ _ lo hi (hinstrs.below ((fr3.bel.setCell (by simp; omega) _).setCell (by simp; omega) _) hhi) (Nat.le_trans hhi ((fr3.bel.setCell (by simp; omega) _).setCell (by simp; omega) _).size) (by omega)).mono ?_; rintro e w4 ⟨v4, rfl, r4, hb4⟩
  obtain ⟨B4, m4, rfl, -, -⟩ := r4.rep.shape
  have fr4 := ((fr3.set _ _).set _ _).later hb4
  have z4 : w.heap.size + 3 ≤ w4.heap.size := by have := fr4.var.lt; omega
  have R4 : OwnLR w4 w3.heap.size w4.heap.size 5 InsT.dats (.slice B4 c.instrs.length m4) c.instrs := r4.wide (by simp [World.setCell]) (Nat.le_refl _)
  have y4 : w3.heap.size ≤ w4.heap.size := by have := hb4.size; simpa [World.setCell] using this
  have T1 := OwnLR.below (OwnLR.setFar (OwnLR.setFar R1 (.inl (by simp <;> omega)) _) (.inl (by simp <;> omega)) _) hb4 (by simp [World.setCell] <;> omega)
  clear R1
  have R1 := T1
  clear T1
  have T2 := OwnLR.below (OwnLR.setFar (OwnLR.setFar R2 (.inl (by simp <;> omega)) _) (.inl (by simp <;> omega)) _) hb4 (by simp [World.setCell] <;> omega)
  clear R2
  have R2 := T2
  clear T2
  have T3 := OwnLR.below (OwnLR.setFar (OwnLR.setFar R3 (.inl (by simp <;> omega)) _) (.inl (by simp <;> omega)) _) hb4 (by simp [World.setCell] <;> omega)
  clear R3
  have R3 := T3
  clear T3
  clear co fo ca cr fr'
  have ca := fr4.arg.cell
  have co := fr4.var.cell
  have fo := fr4.var.frozen
  have cr := fr4.res.cell
  have fr' := fr4.res.frozen
  clear hb4 r4
  clear la
  have la := fr4.arg.lt
  clear lv
  have lv := fr4.var.lt
  go_wp2_with fail
  refine bodyPost_ret (v := .agg #[Value.slice B1 c.routines.length m1, .slice B2 c.records.length m2, .slice B3 c.globals.length m3, .int .i64 c.main, .slice B4 c.instrs.length m4]) ?_ rfl ⟨[Value.slice B1 c.routines.length m1, .slice B2 c.records.length m2, .slice B3 c.globals.length m3, .int .i64 c.main, .slice B4 c.instrs.length m4], rfl, (.row_ (mid := w1.heap.size) ?_ (.row_ (mid := w2.heap.size) ?_ (.row_ (mid := w3.heap.size) ?_ (.int_ (.row_ (mid := w4.heap.size) ?_ .nil_ (by omega) (by simp [World.setCell] <;> omega))) (by omega) (by simp [World.setCell] <;> omega)) (by omega) (by simp [World.setCell] <;> omega)) (by omega) (by simp [World.setCell] <;> omega)), ?_⟩
  · simp [results, Tryz.results11, go_sem, cr]
  · refine OwnLR.wide (lo := w.heap.size + 3) (hi := w1.heap.size) ?_ (by omega) (Nat.le_refl _)
    iterate 6 refine OwnLR.setFar ?_ (.inl (by simp <;> omega)) _
    exact R1
  · refine OwnLR.wide (lo := w1.heap.size) (hi := w2.heap.size) ?_ (by omega) (Nat.le_refl _)
    iterate 6 refine OwnLR.setFar ?_ (.inl (by simp <;> omega)) _
    exact R2
  · refine OwnLR.wide (lo := w2.heap.size) (hi := w3.heap.size) ?_ (by omega) (Nat.le_refl _)
    iterate 6 refine OwnLR.setFar ?_ (.inl (by simp <;> omega)) _
    exact R3
  · refine OwnLR.wide (lo := w3.heap.size) (hi := w4.heap.size) ?_ (by omega) (Nat.le_refl _)
    iterate 6 refine OwnLR.setFar ?_ (.inl (by simp <;> omega)) _
    exact R4
  · iterate 6 refine Below.setCell ?_ (by simp <;> omega) _
    exact fr4.bel
theorem toCode_any (c : CodeT) (x : Value) (w : World) (lo hi : Nat) (h : SRep w lo hi CodeT.dats x c) (hhi : hi ≤ w.heap.size) (hbk : c.bulk ≤ 1048576) :
    Calls Tryz.prog 11 #[x] w (OwnS CodeT.dats c w) := (toCode_made c x w lo hi h hhi hbk).mono fun e w' h => h.own
end Go.Proofs.YtekobbeoaalibaaGreatDoor
end

section
namespace Go.Proofs.YtekobbeoaalibaaGreatDoor
open Go.RowKit
set_option linter.unusedVariables false

set_option maxRecDepth 100000 in
set_option maxHeartbeats 1000000 in
theorem toEdit_made (c : EditT) (x : Value) (w : World) (lo hi : Nat) (h : SRep w lo hi EditT.dats x c) (hhi : hi ≤ w.heap.size) (hbk : c.bulk ≤ 1048576) :
    Calls Tryz.prog 21 #[x] w (MadeS EditT.dats c w) := by
  obtain rfl := EditT.form h
  go_enter Tryz.func21, Tryz.ntmps21
  go_wp2_with fail
  refine bodyPost_ret (v := .agg #[Value.int .i64 c.kind, .int .i64 c.place]) ?_ rfl ⟨[Value.int .i64 c.kind, .int .i64 c.place], rfl, (.int_ (.int_ .nil_)), ?_⟩
  · simp [results, Tryz.results21, go_sem]
  · exact (((Below.refl _ _).alloc (Nat.le_refl _) _).alloc (by simp) _).alloc (by simp; omega) _
theorem toEdit_any (c : EditT) (x : Value) (w : World) (lo hi : Nat) (h : SRep w lo hi EditT.dats x c) (hhi : hi ≤ w.heap.size) (hbk : c.bulk ≤ 1048576) :
    Calls Tryz.prog 21 #[x] w (OwnS EditT.dats c w) := (toEdit_made c x w lo hi h hhi hbk).mono fun e w' h => h.own
theorem info_EditT : (Tryz.prog.info? 46).map (fun i => (i.zero, i.size, i.bytes)) = some (some (.agg #[.int .i64 0, .int .i64 0]), 2, 16) := by kernel_rfl
set_option maxRecDepth 100000 in
set_option maxHeartbeats 1000000 in
theorem toEditS_made (l : List EditT) (v : Value) (w : World) (lo hi : Nat) (h : LRep w lo hi 2 EditT.dats v l) (hhi : hi ≤ w.heap.size) (hl : l.length + sumOf EditT.bulk l ≤ 1048576) :
    Calls Tryz.prog 30 #[v] w (MadeL 2 EditT.dats l w) := by
  obtain ⟨i0, hi0, hz0, hz1, hz2⟩ := info_parts info_EditT
  obtain ⟨A, cap, rfl, hc1, hc2⟩ := h.shape
  unfold maxLen at hc2
  go_enter Tryz.func30, Tryz.ntmps30
  go_wp2_with (first | (at_make; refine wpList_make_full w rfl (.tmp 6) (.tmp 6) 49 rfl w.heap.size 46 i0 _ 2 Tryz.underlying49 hi0 hz0 hz1 .i64 .i64 _ _ l.length rfl rfl rfl rfl (by rw [hz2]; omega) (by unfold maxLen; omega) (Nat.le_refl _) ?_))
  intro w1 hown hg
  have hb := below_of_grown hg (Nat.le_refl w.heap.size) (fun g hg => by cases hg)
  have hz : w.heap.size + 1 ≤ w1.heap.size := (hown.lt _ rfl).2
  obtain ⟨Z, hown⟩ : ∃ Z, w1.ownsRow w.heap.size 46 2 (.slice (some ⟨w.heap.size, 0, none⟩) l.length l.length) l.length Z := ⟨_, hown⟩
  have HZ := Lib.hid hown.1
  clear hg
  go_wp2_with fail
  go_loopw [4] (fun i wr => ∃ (k : Nat) (vs : List Value), k ≤ l.length ∧ i = .int .i64 k ∧ wr.ownsRow w.heap.size 46 2 (.slice (some ⟨w.heap.size, 0, none⟩) l.length l.length) l.length (vs ++ Z.drop (k * 2)) ∧ OwnR wr (w.heap.size + 1) wr.heap.size (flat EditT.dats (l.take k)) vs ∧ Below w.heap.size w wr ∧ w.heap.size + 1 ≤ wr.heap.size) (fun i _ => l.length - (intOf i).toNat)
  case atStart => exact ⟨0, [], Nat.zero_le _, rfl, by simpa using hown, by simp only [List.take_zero, flat_nil]; exact .nil_, hb, hz⟩
  case round =>
    clear hown hb hz
    obtain ⟨k, vs, hk, rfl, hown, hrep, hb, hz⟩ := hrel
    obtain ⟨wo, rfl⟩ : ∃ wo : World, wo = wr := ⟨_, rfl⟩
    have hvs : vs.length = k * 2 := by rw [hrep.len, flat_len EditT.dats_len, List.length_take, Nat.min_eq_left hk]
    have HV := Lib.hid hvs
    clear hvs
    by_cases hlt : k < l.length
    · obtain ⟨c, hc⟩ : ∃ c, l[k]? = some c := ⟨_, List.getElem?_eq_getElem hlt⟩
      obtain ⟨g, off, rfl, hg1, hg2, hmem, hcr, q0, q1⟩ := EditT.at_ (h.below hb hhi) hc
      have HD := Lib.hid (flat_snoc (f := EditT.dats) hc)
      have hbm := sumOf_mem (b := EditT.bulk) hmem
      clear hc hmem
      go_wp2_with fail
      refine (toEdit_made c _ _ _ _ hcr (by omega) (by omega)).mono ?_; rintro e w1 ⟨cs, rfl, hx, hb1⟩
      obtain hcs := EditT.form ⟨cs, rfl, hx.rep⟩
      obtain rfl : cs = [Value.int .i64 c.kind, .int .i64 c.place] := congrArg Array.toList (Value.agg.inj hcs)
      have z1 := hb1.size
      have hown1 := own_later hown hb1
      have hrep1 := (hrep.below hb1 (Nat.le_refl _)).app hx hz z1
      have hb2 := hb.trans (hb1.mono (by omega))
      clear hown hrep hx hb1 hb hcr q0 q1
      obtain ⟨⟨o0, d0⟩, f0⟩ := own_at hown1 (k * 2) (by omega)
      obtain ⟨⟨o1, d1⟩, f1⟩ := own_at hown1 (k * 2 + 1) (by omega)
      have own2 := own_putAll [Value.int .i64 c.kind, .int .i64 c.place] _ _ (k * 2) hown1
      rw [setAll_fill _ _ _ HV.out (by rw [HZ.out]; simp; omega)] at own2
      have rep2 := OwnR.putAll (g := w.heap.size) (.inl (Nat.lt_succ_self _)) [Value.int .i64 c.kind, .int .i64 c.place] _ (k * 2) hrep1
      have bel2 := below_putAll (Nat.le_refl w.heap.size) [Value.int .i64 c.kind, .int .i64 c.place] _ _ (k * 2) hb2
      have siz2 := putAll_size w.heap.size [Value.int .i64 c.kind, .int .i64 c.place] w1 (k * 2)
      simp only [putAll, Nat.reduceAdd, List.length_cons, List.length_nil] at own2 rep2 bel2 siz2
      have O2 := Lib.hid own2
      have R2 := Lib.hid rep2
      have S2 := Lib.hid siz2
      clear own2 rep2 hown1 hrep1 siz2 hcs
      go_wp2_with fail
      go_roundw
      case rel =>
        refine ⟨k + 1, vs ++ [Value.int .i64 c.kind, .int .i64 c.place], by omega, by go_num, ?_, ?_, bel2, by rw [S2.out]; omega⟩
        · rw [Nat.succ_mul]; exact O2.out
        · rw [HD.out, S2.out]; exact R2.out
      case measure => simp [intOf]; omega
    · obtain rfl : k = l.length := by omega
      rw [List.take_length] at hrep
      go_wp2_with fail
      go_ret
      rw [List.drop_eq_nil_of_le (by rw [HZ.out]; exact Nat.le_refl _), List.append_nil] at hown
      exact ⟨_, rfl, OwnLR.mk_ (mid := w.heap.size + 1) hown hrep (by simp [Value.ownBlock]) (by omega) hz, hb⟩
theorem toEditS_any (l : List EditT) (v : Value) (w : World) (lo hi : Nat) (h : LRep w lo hi 2 EditT.dats v l) (hhi : hi ≤ w.heap.size) (hl : l.length + sumOf EditT.bulk l ≤ 1048576) :
    Calls Tryz.prog 30 #[v] w (OwnL 2 EditT.dats l w) := (toEditS_made l v w lo hi h hhi hl).mono fun e w' h => h.own
end Go.Proofs.YtekobbeoaalibaaGreatDoor
end

section
namespace Go.Proofs.YtekobbeoaalibaaGreatDoor
open Go.RowKit
set_option linter.unusedVariables false

set_option maxRecDepth 100000 in
set_option maxHeartbeats 1000000 in
theorem eqStrs_any (l : List ByteArray) (v u : Value) (w : World) (lo hi lo' hi' : Nat) (h : LRep w lo hi 1 strDats v l) (h' : LRep w lo' hi' 1 strDats u l) (hhi : hi ≤ w.heap.size) (hhi' : hi' ≤ w.heap.size) :
    Calls Tryz.prog 16 #[v, u] w fun e w' => e = .returned (.bool true) ∧ Below w.heap.size w w' := by
  obtain ⟨A, c, rfl, hc1, hc2⟩ := h.shape
  obtain ⟨A', c', rfl, hc1', hc2'⟩ := h'.shape
  unfold maxLen at hc2 hc2'
  have hne : ((l.length : Int) != (l.length : Int)) = false := by simp
  go_enter Tryz.func16, Tryz.ntmps16
  go_wp2_with fail
  go_loopw [5] (fun i wr => ∃ k : Nat, k ≤ l.length ∧ i = .int .i64 k ∧ Same w wr) (fun i _ => l.length - (intOf i).toNat)
  case atStart => exact ⟨0, Nat.zero_le _, rfl, Same.refl _⟩
  case round =>
    obtain ⟨k, hk, rfl, hs⟩ := hrel
    obtain ⟨wo, rfl⟩ : ∃ wo : World, wo = wr := ⟨_, rfl⟩
    by_cases hlt : k < l.length
    · obtain ⟨s, hc⟩ : ∃ s, l[k]? = some s := ⟨_, List.getElem?_eq_getElem hlt⟩
      obtain ⟨g, off, rfl, -, -, q0⟩ := (h.same hs).text hc
      obtain ⟨g', off', rfl, -, -, q0'⟩ := (h'.same hs).text hc
      have hb := str_eq s
      clear hc
      go_wp2_with fail
      go_quiet (fail)
      go_wp2_with fail
      go_roundw
      case rel => exact ⟨k + 1, by omega, by go_num, hs.drewN _⟩
      case measure => simp [intOf]; omega
    · obtain rfl : k = l.length := by omega
      go_wp2_with fail
      go_ret
      exact ⟨rfl, hs.below _⟩
end Go.Proofs.YtekobbeoaalibaaGreatDoor
end

section
namespace Go.Proofs.YtekobbeoaalibaaGreatDoor
open Go.RowKit
set_option linter.unusedVariables false

set_option maxRecDepth 100000 in
set_option maxHeartbeats 1000000 in
theorem eqCodeRoutine_any (c : CRoT) (x y : Value) (w : World) (lo hi lo' hi' : Nat) (h : SRep w lo hi CRoT.dats x c) (h' : SRep w lo' hi' CRoT.dats y c) (hhi : hi ≤ w.heap.size) (hhi' : hi' ≤ w.heap.size) :
    Calls Tryz.prog 76 #[x, y] w fun e w' => e = .returned (.bool true) ∧ Below w.heap.size w w' := by
  obtain rfl := CRoT.form h
  obtain rfl := CRoT.form h'
  have bname := str_eq c.name
  have bparams : (c.params != c.params) = false := by simp
  have bslots : (c.slots != c.slots) = false := by simp
  have bentry : (c.entry != c.entry) = false := by simp
  have hw0 : Below w.heap.size w ((w.alloc (.cells #[Value.string c.name, .int .i64 c.params, .int .i64 c.slots, .int .i64 c.entry] 76)).alloc (.cells #[Value.string c.name, .int .i64 c.params, .int .i64 c.slots, .int .i64 c.entry] 76)) := ((Below.refl _ _).alloc (Nat.le_refl _) _).alloc (by simp) _
  have a0 := (Blk.new w 76 #[Value.string c.name, .int .i64 c.params, .int .i64 c.slots, .int .i64 c.entry]).alloc (.cells #[Value.string c.name, .int .i64 c.params, .int .i64 c.slots, .int .i64 c.entry] 76)
  have e0 := Blk.newAt (w.alloc (.cells #[Value.string c.name, .int .i64 c.params, .int .i64 c.slots, .int .i64 c.entry] 76)) 76 #[Value.string c.name, .int .i64 c.params, .int .i64 c.slots, .int .i64 c.entry] (w.heap.size + 1) (by simp)
  go_enter Tryz.func76, Tryz.ntmps76
  go_wp2_with fail
  go_ret
  exact ⟨rfl, hw0⟩
set_option maxRecDepth 100000 in
set_option maxHeartbeats 1000000 in
theorem eqCodeRoutineS_any (l : List CRoT) (v u : Value) (w : World) (lo hi lo' hi' : Nat) (h : LRep w lo hi 4 CRoT.dats v l) (h' : LRep w lo' hi' 4 CRoT.dats u l) (hhi : hi ≤ w.heap.size) (hhi' : hi' ≤ w.heap.size) :
    Calls Tryz.prog 43 #[v, u] w fun e w' => e = .returned (.bool true) ∧ Below w.heap.size w w' := by
  obtain ⟨A, cap, rfl, hc1, hc2⟩ := h.shape
  obtain ⟨A', cap', rfl, hc1', hc2'⟩ := h'.shape
  unfold maxLen at hc2 hc2'
  have hne : ((l.length : Int) != (l.length : Int)) = false := by simp
  go_enter Tryz.func43, Tryz.ntmps43
  go_wp2_with fail
  go_loopw [5] (fun i wr => ∃ k : Nat, k ≤ l.length ∧ i = .int .i64 k ∧ Below w.heap.size w wr) (fun i _ => l.length - (intOf i).toNat)
  case atStart => exact ⟨0, Nat.zero_le _, rfl, Below.refl _ _⟩
  case round =>
    obtain ⟨k, hk, rfl, hb⟩ := hrel
    obtain ⟨wo, rfl⟩ : ∃ wo : World, wo = wr := ⟨_, rfl⟩
    have hz := hb.size
    by_cases hlt : k < l.length
    · obtain ⟨c, hc⟩ : ∃ c, l[k]? = some c := ⟨_, List.getElem?_eq_getElem hlt⟩
      obtain ⟨g, off, rfl, hg1, hg2, hmem, hrep, q0, q1, q2, q3⟩ := CRoT.at_ (h.below hb hhi) hc
      obtain ⟨g', off', rfl, hg1', hg2', hmem', hrep', p0, p1, p2, p3⟩ := CRoT.at_ (h'.below hb hhi') hc
      have e0 : (0 : Int) ≤ (k : Int) := by omega
      have e8 : (k : Int) < (l.length : Int) := by omega
      have y1 : hi ≤ wo.drew.heap.size := Nat.le_trans hhi hz
      have y2 : hi' ≤ wo.drew.heap.size := Nat.le_trans hhi' hz
      have t1 := Nat.lt_of_lt_of_le hg2 y1
      have t2 := Nat.lt_of_lt_of_le hg2' y2
      clear hc hmem hmem'
      go_wp2_with fail
      go_region_held3 (fun w' => (w'.cell? ⟨g, off + k * 4, none⟩ = some (.string c.name) ∧ w'.cell? ⟨g, off + k * 4 + 1, none⟩ = some (.int .i64 c.params) ∧ w'.cell? ⟨g, off + k * 4 + 2, none⟩ = some (.int .i64 c.slots) ∧ w'.cell? ⟨g, off + k * 4 + 3, none⟩ = some (.int .i64 c.entry)) ∧ (w'.cell? ⟨g', off' + k * 4, none⟩ = some (.string c.name) ∧ w'.cell? ⟨g', off' + k * 4 + 1, none⟩ = some (.int .i64 c.params) ∧ w'.cell? ⟨g', off' + k * 4 + 2, none⟩ = some (.int .i64 c.slots) ∧ w'.cell? ⟨g', off' + k * 4 + 3, none⟩ = some (.int .i64 c.entry)))
        (first | exact ⟨⟨q0, q1, q2, q3⟩, p0, p1, p2, p3⟩ | exact ⟨⟨(hbA.cell t1).trans q0, (hbA.cell t1).trans q1, (hbA.cell t1).trans q2, (hbA.cell t1).trans q3⟩, (hbA.cell t2).trans p0, (hbA.cell t2).trans p1, (hbA.cell t2).trans p2, (hbA.cell t2).trans p3⟩)
        ((go_at_call 76; refine (eqCodeRoutine_any c _ _ _ _ _ _ _ (hrep.same (Same.refl _).drew) (hrep'.same (Same.refl _).drew) y1 y2).mono ?_; rintro e wA ⟨rfl, hbA⟩))
      have hb2 : Below w.heap.size w wA := hb.drew.trans (hbA.mono hz)
      clear hrep hrep' q0 q1 q2 q3 p0 p1 p2 p3
      go_wp2_with fail
      go_roundw
      case rel => exact ⟨k + 1, by omega, by go_num, hb2⟩
      case measure => simp [intOf]; omega
    · obtain rfl : k = l.length := by omega
      go_wp2_with fail
      go_ret
      exact ⟨rfl, hb⟩
end Go.Proofs.YtekobbeoaalibaaGreatDoor
end

section
namespace Go.Proofs.YtekobbeoaalibaaGreatDoor
open Go.RowKit
set_option linter.unusedVariables false

set_option maxRecDepth 100000 in
set_option maxHeartbeats 1000000 in
theorem eqInstr_any (c : InsT) (x y : Value) (w : World) (lo hi lo' hi' : Nat) (h : SRep w lo hi InsT.dats x c) (h' : SRep w lo' hi' InsT.dats y c) (hhi : hi ≤ w.heap.size) (hhi' : hi' ≤ w.heap.size) :
    Calls Tryz.prog 78 #[x, y] w fun e w' => e = .returned (.bool true) ∧ Below w.heap.size w w' := by
  obtain rfl := InsT.form h
  obtain rfl := InsT.form h'
  have bop : (c.op != c.op) = false := by simp
  have ba : (c.a != c.a) = false := by simp
  have bb : (c.b != c.b) = false := by simp
  have bline : (c.line != c.line) = false := by simp
  have btext := str_eq c.text
  have hw0 : Below w.heap.size w ((w.alloc (.cells #[Value.int .i64 c.op, .int .i64 c.a, .int .i64 c.b, .int .i64 c.line, .string c.text] 79)).alloc (.cells #[Value.int .i64 c.op, .int .i64 c.a, .int .i64 c.b, .int .i64 c.line, .string c.text] 79)) := ((Below.refl _ _).alloc (Nat.le_refl _) _).alloc (by simp) _
  have a0 := (Blk.new w 79 #[Value.int .i64 c.op, .int .i64 c.a, .int .i64 c.b, .int .i64 c.line, .string c.text]).alloc (.cells #[Value.int .i64 c.op, .int .i64 c.a, .int .i64 c.b, .int .i64 c.line, .string c.text] 79)
  have e0 := Blk.newAt (w.alloc (.cells #[Value.int .i64 c.op, .int .i64 c.a, .int .i64 c.b, .int .i64 c.line, .string c.text] 79)) 79 #[Value.int .i64 c.op, .int .i64 c.a, .int .i64 c.b, .int .i64 c.line, .string c.text] (w.heap.size + 1) (by simp)
  go_enter Tryz.func78, Tryz.ntmps78
  go_wp2_with fail
  go_ret
  exact ⟨rfl, hw0⟩
set_option maxRecDepth 100000 in
set_option maxHeartbeats 1000000 in
theorem eqInstrS_any (l : List InsT) (v u : Value) (w : World) (lo hi lo' hi' : Nat) (h : LRep w lo hi 5 InsT.dats v l) (h' : LRep w lo' hi' 5 InsT.dats u l) (hhi : hi ≤ w.heap.size) (hhi' : hi' ≤ w.heap.size) :
    Calls Tryz.prog 45 #[v, u] w fun e w' => e = .returned (.bool true) ∧ Below w.heap.size w w' := by
  obtain ⟨A, cap, rfl, hc1, hc2⟩ := h.shape
  obtain ⟨A', cap', rfl, hc1', hc2'⟩ := h'.shape
  unfold maxLen at hc2 hc2'
  have hne : ((l.length : Int) != (l.length : Int)) = false := by simp
  go_enter Tryz.func45, Tryz.ntmps45
  go_wp2_with fail
  go_loopw [5] (fun i wr => ∃ k : Nat, k ≤ l.length ∧ i = .int .i64 k ∧ Below w.heap.size w wr) (fun i _ => l.length - (intOf i).toNat)
  case atStart => exact ⟨0, Nat.zero_le _, rfl, Below.refl _ _⟩
  case round =>
    obtain ⟨k, hk, rfl, hb⟩ := hrel
    obtain ⟨wo, rfl⟩ : ∃ wo : World, wo = wr := ⟨_, rfl⟩
    have hz := hb.size
    by_cases hlt : k < l.length
    · obtain ⟨c, hc⟩ : ∃ c, l[k]? = some c := ⟨_, List.getElem?_eq_getElem hlt⟩
      obtain ⟨g, off, rfl, hg1, hg2, hmem, hrep, q0, q1, q2, q3, q4⟩ := InsT.at_ (h.below hb hhi) hc
      obtain ⟨g', off', rfl, hg1', hg2', hmem', hrep', p0, p1, p2, p3, p4⟩ := InsT.at_ (h'.below hb hhi') hc
      have e0 : (0 : Int) ≤ (k : Int) := by omega
      have e8 : (k : Int) < (l.length : Int) := by omega
      have y1 : hi ≤ wo.drew.heap.size := Nat.le_trans hhi hz
      have y2 : hi' ≤ wo.drew.heap.size := Nat.le_trans hhi' hz
      have t1 := Nat.lt_of_lt_of_le hg2 y1
      have t2 := Nat.lt_of_lt_of_le hg2' y2
      clear hc hmem hmem'
      go_wp2_with fail
      go_region_held3 (fun w' => (w'.cell? ⟨g, off + k * 5, none⟩ = some (.int .i64 c.op) ∧ w'.cell? ⟨g, off + k * 5 + 1, none⟩ = some (.int .i64 c.a) ∧ w'.cell? ⟨g, off + k * 5 + 2, none⟩ = some (.int .i64 c.b) ∧ w'.cell? ⟨g, off + k * 5 + 3, none⟩ = some (.int .i64 c.line) ∧ w'.cell? ⟨g, off + k * 5 + 4, none⟩ = some (.string c.text)) ∧ (w'.cell? ⟨g', off' + k * 5, none⟩ = some (.int .i64 c.op) ∧ w'.cell? ⟨g', off' + k * 5 + 1, none⟩ = some (.int .i64 c.a) ∧ w'.cell? ⟨g', off' + k * 5 + 2, none⟩ = some (.int .i64 c.b) ∧ w'.cell? ⟨g', off' + k * 5 + 3, none⟩ = some (.int .i64 c.line) ∧ w'.cell? ⟨g', off' + k * 5 + 4, none⟩ = some (.string c.text)))
        (first | exact ⟨⟨q0, q1, q2, q3, q4⟩, p0, p1, p2, p3, p4⟩ | exact ⟨⟨(hbA.cell t1).trans q0, (hbA.cell t1).trans q1, (hbA.cell t1).trans q2, (hbA.cell t1).trans q3, (hbA.cell t1).trans q4⟩, (hbA.cell t2).trans p0, (hbA.cell t2).trans p1, (hbA.cell t2).trans p2, (hbA.cell t2).trans p3, (hbA.cell t2).trans p4⟩)
        ((go_at_call 78; refine (eqInstr_any c _ _ _ _ _ _ _ (hrep.same (Same.refl _).drew) (hrep'.same (Same.refl _).drew) y1 y2).mono ?_; rintro e wA ⟨rfl, hbA⟩))
      have hb2 : Below w.heap.size w wA := hb.drew.trans (hbA.mono hz)
      clear hrep hrep' q0 q1 q2 q3 q4 p0 p1 p2 p3 p4
      go_wp2_with fail
      go_roundw
      case rel => exact ⟨k + 1, by omega, by go_num, hb2⟩
      case measure => simp [intOf]; omega
    · obtain rfl : k = l.length := by omega
      go_wp2_with fail
      go_ret
      exact ⟨rfl, hb⟩
end Go.Proofs.YtekobbeoaalibaaGreatDoor
end

section
namespace Go.Proofs.YtekobbeoaalibaaGreatDoor
open Go.RowKit
set_option linter.unusedVariables false

set_option maxRecDepth 100000 in
set_option maxHeartbeats 1000000 in
theorem eqRecordType_any (c : RecT) (x y : Value) (w : World) (lo hi lo' hi' : Nat) (h : SRep w lo hi RecT.dats x c) (h' : SRep w lo' hi' RecT.dats y c) (hhi : hi ≤ w.heap.size) (hhi' : hi' ≤ w.heap.size) :
    Calls Tryz.prog 77 #[x, y] w fun e w' => e = .returned (.bool true) ∧ Below w.heap.size w w' := by
  obtain ⟨Afields, nfields, rfl, hfields, ufields, mfields⟩ := RecT.form h
  obtain ⟨Afields', nfields', rfl, hfields', ufields', mfields'⟩ := RecT.form h'
  have bname := str_eq c.name
  have bline : (c.line != c.line) = false := by simp
  have hw0 : Below w.heap.size w ((w.alloc (.cells #[Value.string c.name, .slice Afields c.fields.length nfields, .int .i64 c.line] 110)).alloc (.cells #[Value.string c.name, .slice Afields' c.fields.length nfields', .int .i64 c.line] 110)) := ((Below.refl _ _).alloc (Nat.le_refl _) _).alloc (by simp) _
  have a0 := (Blk.new w 110 #[Value.string c.name, .slice Afields c.fields.length nfields, .int .i64 c.line]).alloc (.cells #[Value.string c.name, .slice Afields' c.fields.length nfields', .int .i64 c.line] 110)
  have e0 := Blk.newAt (w.alloc (.cells #[Value.string c.name, .slice Afields c.fields.length nfields, .int .i64 c.line] 110)) 110 #[Value.string c.name, .slice Afields' c.fields.length nfields', .int .i64 c.line] (w.heap.size + 1) (by simp)
  go_enter Tryz.func77, Tryz.ntmps77
  go_wp2_with fail
  refine (eqStrs_any c.fields _ _ _ lo hi lo' hi' (hfields.below hw0 hhi) (hfields'.below hw0 hhi') (Nat.le_trans hhi hw0.size) (Nat.le_trans hhi' hw0.size)).mono ?_; rintro e w1 ⟨rfl, hb1⟩
  have hw1 : Below w.heap.size w w1 := hw0.trans (hb1.mono hw0.size)
  have a1 := a0.later hb1
  have e1 := e0.later hb1
  have ca := a1.cell
  have ce := e1.cell
  have la := a1.lt
  have le := e1.lt
  clear hb1
  go_wp2_with fail
  go_ret
  exact ⟨rfl, hw1⟩
set_option maxRecDepth 100000 in
set_option maxHeartbeats 1000000 in
theorem eqRecordTypeS_any (l : List RecT) (v u : Value) (w : World) (lo hi lo' hi' : Nat) (h : LRep w lo hi 3 RecT.dats v l) (h' : LRep w lo' hi' 3 RecT.dats u l) (hhi : hi ≤ w.heap.size) (hhi' : hi' ≤ w.heap.size) :
    Calls Tryz.prog 44 #[v, u] w fun e w' => e = .returned (.bool true) ∧ Below w.heap.size w w' := by
  obtain ⟨A, cap, rfl, hc1, hc2⟩ := h.shape
  obtain ⟨A', cap', rfl, hc1', hc2'⟩ := h'.shape
  unfold maxLen at hc2 hc2'
  have hne : ((l.length : Int) != (l.length : Int)) = false := by simp
  go_enter Tryz.func44, Tryz.ntmps44
  go_wp2_with fail
  go_loopw [5] (fun i wr => ∃ k : Nat, k ≤ l.length ∧ i = .int .i64 k ∧ Below w.heap.size w wr) (fun i _ => l.length - (intOf i).toNat)
  case atStart => exact ⟨0, Nat.zero_le _, rfl, Below.refl _ _⟩
  case round =>
    obtain ⟨k, hk, rfl, hb⟩ := hrel
    obtain ⟨wo, rfl⟩ : ∃ wo : World, wo = wr := ⟨_, rfl⟩
    have hz := hb.size
    by_cases hlt : k < l.length
    · obtain ⟨c, hc⟩ : ∃ c, l[k]? = some c := ⟨_, List.getElem?_eq_getElem hlt⟩
      obtain ⟨g, off, Afields, nfields, rfl, hg1, hg2, hmem, hrep, q0, q1, q2⟩ := RecT.at_ (h.below hb hhi) hc
      obtain ⟨g', off', Afields', nfields', rfl, hg1', hg2', hmem', hrep', p0, p1, p2⟩ := RecT.at_ (h'.below hb hhi') hc
      have e0 : (0 : Int) ≤ (k : Int) := by omega
      have e8 : (k : Int) < (l.length : Int) := by omega
      have y1 : hi ≤ wo.drew.heap.size := Nat.le_trans hhi hz
      have y2 : hi' ≤ wo.drew.heap.size := Nat.le_trans hhi' hz
      have t1 := Nat.lt_of_lt_of_le hg2 y1
      have t2 := Nat.lt_of_lt_of_le hg2' y2
      clear hc hmem hmem'
      go_wp2_with fail
      go_region_held3 (fun w' => (w'.cell? ⟨g, off + k * 3, none⟩ = some (.string c.name) ∧ w'.cell? ⟨g, off + k * 3 + 1, none⟩ = some (.slice Afields c.fields.length nfields) ∧ w'.cell? ⟨g, off + k * 3 + 2, none⟩ = some (.int .i64 c.line)) ∧ (w'.cell? ⟨g', off' + k * 3, none⟩ = some (.string c.name) ∧ w'.cell? ⟨g', off' + k * 3 + 1, none⟩ = some (.slice Afields' c.fields.length nfields') ∧ w'.cell? ⟨g', off' + k * 3 + 2, none⟩ = some (.int .i64 c.line)))
        (first | exact ⟨⟨q0, q1, q2⟩, p0, p1, p2⟩ | exact ⟨⟨(hbA.cell t1).trans q0, (hbA.cell t1).trans q1, (hbA.cell t1).trans q2⟩, (hbA.cell t2).trans p0, (hbA.cell t2).trans p1, (hbA.cell t2).trans p2⟩)
        ((go_at_call 77; refine (eqRecordType_any c _ _ _ _ _ _ _ (hrep.same (Same.refl _).drew) (hrep'.same (Same.refl _).drew) y1 y2).mono ?_; rintro e wA ⟨rfl, hbA⟩))
      have hb2 : Below w.heap.size w wA := hb.drew.trans (hbA.mono hz)
      clear hrep hrep' q0 q1 q2 p0 p1 p2
      go_wp2_with fail
      go_roundw
      case rel => exact ⟨k + 1, by omega, by go_num, hb2⟩
      case measure => simp [intOf]; omega
    · obtain rfl : k = l.length := by omega
      go_wp2_with fail
      go_ret
      exact ⟨rfl, hb⟩
end Go.Proofs.YtekobbeoaalibaaGreatDoor
end

section
namespace Go.Proofs.YtekobbeoaalibaaGreatDoor
open Go.RowKit
set_option linter.unusedVariables false

set_option maxRecDepth 100000 in
set_option maxHeartbeats 1000000 in
theorem eqCode_any (c : CodeT) (x y : Value) (w : World) (lo hi lo' hi' : Nat) (h : SRep w lo hi CodeT.dats x c) (h' : SRep w lo' hi' CodeT.dats y c) (hhi : hi ≤ w.heap.size) (hhi' : hi' ≤ w.heap.size) :
    Calls Tryz.prog 13 #[x, y] w fun e w' => e = .returned (.bool true) ∧ Below w.heap.size w w' := by
  obtain ⟨Aroutines, nroutines, Arecords, nrecords, Aglobals, nglobals, Ainstrs, ninstrs, rfl, hroutines, uroutines, mroutines, hrecords, urecords, mrecords, hglobals, uglobals, mglobals, hinstrs, uinstrs, minstrs⟩ := CodeT.form h
  obtain ⟨Aroutines', nroutines', Arecords', nrecords', Aglobals', nglobals', Ainstrs', ninstrs', rfl, hroutines', uroutines', mroutines', hrecords', urecords', mrecords', hglobals', uglobals', mglobals', hinstrs', uinstrs', minstrs'⟩ := CodeT.form h'
  have bmain : (c.main != c.main) = false := by simp
  have hw0 : Below w.heap.size w ((w.alloc (.cells #[Value.slice Aroutines c.routines.length nroutines, .slice Arecords c.records.length nrecords, .slice Aglobals c.globals.length nglobals, .int .i64 c.main, .slice Ainstrs c.instrs.length ninstrs] 34)).alloc (.cells #[Value.slice Aroutines' c.routines.length nroutines', .slice Arecords' c.records.length nrecords', .slice Aglobals' c.globals.length nglobals', .int .i64 c.main, .slice Ainstrs' c.instrs.length ninstrs'] 34)) := ((Below.refl _ _).alloc (Nat.le_refl _) _).alloc (by simp) _
  have a0 := (Blk.new w 34 #[Value.slice Aroutines c.routines.length nroutines, .slice Arecords c.records.length nrecords, .slice Aglobals c.globals.length nglobals, .int .i64 c.main, .slice Ainstrs c.instrs.length ninstrs]).alloc (.cells #[Value.slice Aroutines' c.routines.length nroutines', .slice Arecords' c.records.length nrecords', .slice Aglobals' c.globals.length nglobals', .int .i64 c.main, .slice Ainstrs' c.instrs.length ninstrs'] 34)
  have e0 := Blk.newAt (w.alloc (.cells #[Value.slice Aroutines c.routines.length nroutines, .slice Arecords c.records.length nrecords, .slice Aglobals c.globals.length nglobals, .int .i64 c.main, .slice Ainstrs c.instrs.length ninstrs] 34)) 34 #[Value.slice Aroutines' c.routines.length nroutines', .slice Arecords' c.records.length nrecords', .slice Aglobals' c.globals.length nglobals', .int .i64 c.main, .slice Ainstrs' c.instrs.length ninstrs'] (w.heap.size + 1) (by simp)
  go_enter Tryz.func13, Tryz.ntmps13
  go_wp2_with fail
  refine (eqCodeRoutineS_any c.routines _ _ _ lo hi lo' hi' (hroutines.below hw0 hhi) (hroutines'.below hw0 hhi') (Nat.le_trans hhi hw0.size) (Nat.le_trans hhi' hw0.size)).mono ?_; rintro e w1 ⟨rfl, hb1⟩
  have hw1 : Below w.heap.size w w1 := hw0.trans (hb1.mono hw0.size)
  have a1 := a0.later hb1
  have e1 := e0.later hb1
  have ca := a1.cell
  have ce := e1.cell
  have la := a1.lt
  have le := e1.lt
  clear hb1
  go_wp2_with fail
  refine (eqRecordTypeS_any c.records _ _ _ lo hi lo' hi' (hrecords.below hw1 hhi) (hrecords'.below hw1 hhi') (Nat.le_trans hhi hw1.size) (Nat.le_trans hhi' hw1.size)).mono ?_; rintro e w2 ⟨rfl, hb2⟩
  have hw2 : Below w.heap.size w w2 := hw1.trans (hb2.mono hw1.size)
  have a2 := a1.later hb2
  have e2 := e1.later hb2
  clear ca ce la le
  have ca := a2.cell
  have ce := e2.cell
  have la := a2.lt
  have le := e2.lt
  clear hb2
  go_wp2_with fail
  refine (eqStrs_any c.globals _ _ _ lo hi lo' hi' (hglobals.below hw2 hhi) (hglobals'.below hw2 hhi') (Nat.le_trans hhi hw2.size) (Nat.le_trans hhi' hw2.size)).mono ?_; rintro e w3 ⟨rfl, hb3⟩
  have hw3 : Below w.heap.size w w3 := hw2.trans (hb3.mono hw2.size)
  have a3 := a2.later hb3
  have e3 := e2.later hb3
  clear ca ce la le
  have ca := a3.cell
  have ce := e3.cell
  have la := a3.lt
  have le := e3.lt
  clear hb3
  go_wp2_with fail
  refine (eqInstrS_any c.instrs _ _ _ lo hi lo' hi' (hinstrs.below hw3 hhi) (hinstrs'.below hw3 hhi') (Nat.le_trans hhi hw3.size) (Nat.le_trans hhi' hw3.size)).mono ?_; rintro e w4 ⟨rfl, hb4⟩
  have hw4 : Below w.heap.size w w4 := hw3.trans (hb4.mono hw3.size)
  have a4 := a3.later hb4
  have e4 := e3.later hb4
  clear ca ce la le
  have ca := a4.cell
  have ce := e4.cell
  have la := a4.lt
  have le := e4.lt
  clear hb4
  go_wp2_with fail
  go_ret
  exact ⟨rfl, hw4⟩
end Go.Proofs.YtekobbeoaalibaaGreatDoor
end

section
namespace Go.Proofs.YtekobbeoaalibaaGreatDoor
open Go.RowKit
set_option linter.unusedVariables false

set_option maxRecDepth 100000 in
set_option maxHeartbeats 1000000 in
theorem eqEdit_any (c : EditT) (x y : Value) (w : World) (lo hi lo' hi' : Nat) (h : SRep w lo hi EditT.dats x c) (h' : SRep w lo' hi' EditT.dats y c) (hhi : hi ≤ w.heap.size) (hhi' : hi' ≤ w.heap.size) :
    Calls Tryz.prog 61 #[x, y] w fun e w' => e = .returned (.bool true) ∧ Below w.heap.size w w' := by
  obtain rfl := EditT.form h
  obtain rfl := EditT.form h'
  have bkind : (c.kind != c.kind) = false := by simp
  have bplace : (c.place != c.place) = false := by simp
  have hw0 : Below w.heap.size w ((w.alloc (.cells #[Value.int .i64 c.kind, .int .i64 c.place] 46)).alloc (.cells #[Value.int .i64 c.kind, .int .i64 c.place] 46)) := ((Below.refl _ _).alloc (Nat.le_refl _) _).alloc (by simp) _
  have a0 := (Blk.new w 46 #[Value.int .i64 c.kind, .int .i64 c.place]).alloc (.cells #[Value.int .i64 c.kind, .int .i64 c.place] 46)
  have e0 := Blk.newAt (w.alloc (.cells #[Value.int .i64 c.kind, .int .i64 c.place] 46)) 46 #[Value.int .i64 c.kind, .int .i64 c.place] (w.heap.size + 1) (by simp)
  go_enter Tryz.func61, Tryz.ntmps61
  go_wp2_with fail
  go_ret
  exact ⟨rfl, hw0⟩
set_option maxRecDepth 100000 in
set_option maxHeartbeats 1000000 in
theorem eqEditS_any (l : List EditT) (v u : Value) (w : World) (lo hi lo' hi' : Nat) (h : LRep w lo hi 2 EditT.dats v l) (h' : LRep w lo' hi' 2 EditT.dats u l) (hhi : hi ≤ w.heap.size) (hhi' : hi' ≤ w.heap.size) :
    Calls Tryz.prog 25 #[v, u] w fun e w' => e = .returned (.bool true) ∧ Below w.heap.size w w' := by
  obtain ⟨A, cap, rfl, hc1, hc2⟩ := h.shape
  obtain ⟨A', cap', rfl, hc1', hc2'⟩ := h'.shape
  unfold maxLen at hc2 hc2'
  have hne : ((l.length : Int) != (l.length : Int)) = false := by simp
  go_enter Tryz.func25, Tryz.ntmps25
  go_wp2_with fail
  go_loopw [5] (fun i wr => ∃ k : Nat, k ≤ l.length ∧ i = .int .i64 k ∧ Below w.heap.size w wr) (fun i _ => l.length - (intOf i).toNat)
  case atStart => exact ⟨0, Nat.zero_le _, rfl, Below.refl _ _⟩
  case round =>
    obtain ⟨k, hk, rfl, hb⟩ := hrel
    obtain ⟨wo, rfl⟩ : ∃ wo : World, wo = wr := ⟨_, rfl⟩
    have hz := hb.size
    by_cases hlt : k < l.length
    · obtain ⟨c, hc⟩ : ∃ c, l[k]? = some c := ⟨_, List.getElem?_eq_getElem hlt⟩
      obtain ⟨g, off, rfl, hg1, hg2, hmem, hrep, q0, q1⟩ := EditT.at_ (h.below hb hhi) hc
      obtain ⟨g', off', rfl, hg1', hg2', hmem', hrep', p0, p1⟩ := EditT.at_ (h'.below hb hhi') hc
      have e0 : (0 : Int) ≤ (k : Int) := by omega
      have e8 : (k : Int) < (l.length : Int) := by omega
      have y1 : hi ≤ wo.drew.heap.size := Nat.le_trans hhi hz
      have y2 : hi' ≤ wo.drew.heap.size := Nat.le_trans hhi' hz
      have t1 := Nat.lt_of_lt_of_le hg2 y1
      have t2 := Nat.lt_of_lt_of_le hg2' y2
      clear hc hmem hmem'
      go_wp2_with fail
      go_region_held3 (fun w' => (w'.cell? ⟨g, off + k * 2, none⟩ = some (.int .i64 c.kind) ∧ w'.cell? ⟨g, off + k * 2 + 1, none⟩ = some (.int .i64 c.place)) ∧ (w'.cell? ⟨g', off' + k * 2, none⟩ = some (.int .i64 c.kind) ∧ w'.cell? ⟨g', off' + k * 2 + 1, none⟩ = some (.int .i64 c.place)))
        (first | exact ⟨⟨q0, q1⟩, p0, p1⟩ | exact ⟨⟨(hbA.cell t1).trans q0, (hbA.cell t1).trans q1⟩, (hbA.cell t2).trans p0, (hbA.cell t2).trans p1⟩)
        ((go_at_call 61; refine (eqEdit_any c _ _ _ _ _ _ _ (hrep.same (Same.refl _).drew) (hrep'.same (Same.refl _).drew) y1 y2).mono ?_; rintro e wA ⟨rfl, hbA⟩))
      have hb2 : Below w.heap.size w wA := hb.drew.trans (hbA.mono hz)
      clear hrep hrep' q0 q1 p0 p1
      go_wp2_with fail
      go_roundw
      case rel => exact ⟨k + 1, by omega, by go_num, hb2⟩
      case measure => simp [intOf]; omega
    · obtain rfl : k = l.length := by omega
      go_wp2_with fail
      go_ret
      exact ⟨rfl, hb⟩
end Go.Proofs.YtekobbeoaalibaaGreatDoor
end
