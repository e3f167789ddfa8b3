/- SzAll: several texts in one. -/
import Derived.Test.YtekobbeoaalibaaGreatDoorProg
import Derived.Test.YtekobbeoaalibaaGreatDoorRow
import Derived.Test.YtekobbeoaalibaaGreatDoorTyCodeRoutine
import Derived.Test.YtekobbeoaalibaaGreatDoorTyInstr
import Derived.Test.YtekobbeoaalibaaGreatDoorTyRecordType
import Derived.Test.YtekobbeoaalibaaGreatDoorTyCode
import Derived.Test.YtekobbeoaalibaaGreatDoorTyEdit
section
namespace Go.Proofs.YtekobbeoaalibaaGreatDoor
open Go.RowKit
set_option linter.unusedVariables false

set_option maxRecDepth 100000 in
set_option maxHeartbeats 1000000 in
theorem szStrs_any (l : List ByteArray) (v : Value) (left : Int) (w : World) (lo hi : Nat) (h : LRep w lo hi 1 strDats v l) (hhi : hi ≤ w.heap.size) (hl0 : 0 ≤ left) (hl1 : left ≤ 1048576) (hf : ∀ s ∈ l, s.size ≤ 9223372036854775807) :
    Calls Tryz.prog 37 #[v, .int .i64 left] w fun e w' => e = .returned (.int .i64 (leftOf left (l.length + sumOf ByteArray.size l))) ∧ Below w.heap.size w w' := by
  obtain ⟨A, cap, rfl, hc1, hc2⟩ := h.shape
  unfold maxLen at hc2
  have HF := Lib.hid hf
  clear hf
  by_cases hn : left < l.length
  · go_enter Tryz.func37, Tryz.ntmps37
    go_wp2_with fail
    go_ret
    exact ⟨ret_int (leftOf_no (by omega)).symm, Below.refl _ _⟩
  go_enter Tryz.func37, Tryz.ntmps37
  go_wp2_with fail
  go_loopw [1, 5] (fun t i wr => ∃ k : Nat, k ≤ l.length ∧ i = .int .i64 k ∧ t = .int .i64 (left - l.length - sumOf ByteArray.size (l.take k)) ∧ sumOf ByteArray.size (l.take k) ≤ left - l.length ∧ Same w wr) (fun _ i _ => l.length - (intOf i).toNat)
  case atStart => exact ⟨0, Nat.zero_le _, rfl, by simp [sumOf], by simp [sumOf]; omega, Same.refl _⟩
  case round =>
    obtain ⟨k, hk, rfl, rfl, hle, hb⟩ := hrel
    obtain ⟨wo, rfl⟩ : ∃ wo : World, wo = wr := ⟨_, rfl⟩
    by_cases hlt : k < l.length
    · obtain ⟨s, hc⟩ : ∃ s, l[k]? = some s := ⟨_, List.getElem?_eq_getElem hlt⟩
      obtain ⟨g, off, rfl, hg1, hg2, q0⟩ := (h.same hb).text hc
      have HB := Lib.hid (sumOf_snoc (b := ByteArray.size) hc)
      have hft := HF.out s (List.mem_of_getElem? hc)
      clear hc
      by_cases hk1 : left - l.length - sumOf ByteArray.size (l.take k) < s.size
      · go_wp2_with fail
        go_ret
        exact ⟨ret_int (leftOf_no (by have := HB.out; have := sumOf_take_le ByteArray.size l (k + 1); omega)).symm, hb.below _⟩
      · go_wp2_with fail
        go_roundw
        case rel => exact ⟨k + 1, by omega, by go_num, by rw [HB.out]; go_num, by rw [HB.out]; omega, hb⟩
        case measure => simp [intOf]; omega
    · obtain rfl : k = l.length := by omega
      rw [List.take_length] at hle ⊢
      go_wp2_with fail
      go_ret
      exact ⟨ret_int (by rw [leftOf_yes (by omega)]; omega), hb.below _⟩
end Go.Proofs.YtekobbeoaalibaaGreatDoor
end

section
namespace Go.Proofs.YtekobbeoaalibaaGreatDoor
open Go.RowKit
set_option linter.unusedVariables false

set_option maxRecDepth 100000 in
set_option maxHeartbeats 1000000 in
theorem szCodeRoutine_any (c : CRoT) (x : Value) (left : Int) (w : World) (lo hi : Nat) (h : SRep w lo hi CRoT.dats x c) (hhi : hi ≤ w.heap.size) (hl0 : 0 ≤ left) (hl1 : left ≤ 1048576) (hf : c.Fits) :
    Calls Tryz.prog 70 #[x, .int .i64 left] w fun e w' => e = .returned (.int .i64 (leftOf left c.bulk)) ∧ Below w.heap.size w w' := by
  obtain rfl := CRoT.form h
  have fname : c.name.size ≤ 9223372036854775807 := hf
  have HB : Hid (c.bulk = c.name.size) := rfl
  have hw0 : Below w.heap.size w (w.alloc (.cells #[Value.string c.name, .int .i64 c.params, .int .i64 c.slots, .int .i64 c.entry] 103)) := (Below.refl _ _).alloc (Nat.le_refl _) _
  by_cases hname1 : left < (c.name.size : Nat)
  · go_enter Tryz.func70, Tryz.ntmps70
    go_wp2_with fail
    go_ret
    exact ⟨ret_int (leftOf_no (by have := HB.out; omega)).symm, hw0⟩
  go_enter Tryz.func70, Tryz.ntmps70
  go_wp2_with fail
  go_ret
  exact ⟨ret_int (by rw [leftOf_yes (by have := HB.out; omega)]; have := HB.out; omega), hw0⟩
set_option maxRecDepth 100000 in
set_option maxHeartbeats 1000000 in
theorem szCodeRoutineS_any (l : List CRoT) (v : Value) (left : Int) (w : World) (lo hi : Nat) (h : LRep w lo hi 4 CRoT.dats v l) (hhi : hi ≤ w.heap.size) (hl0 : 0 ≤ left) (hl1 : left ≤ 1048576) (hf : ∀ c ∈ l, c.Fits) :
    Calls Tryz.prog 35 #[v, .int .i64 left] w fun e w' => e = .returned (.int .i64 (leftOf left (l.length + sumOf CRoT.bulk l))) ∧ Below w.heap.size w w' := by
  obtain ⟨A, cap, rfl, hc1, hc2⟩ := h.shape
  unfold maxLen at hc2
  have HF := Lib.hid hf
  clear hf
  by_cases hn : left < l.length
  · go_enter Tryz.func35, Tryz.ntmps35
    go_wp2_with fail
    go_ret
    exact ⟨ret_int (leftOf_no (by omega)).symm, Below.refl _ _⟩
  go_enter Tryz.func35, Tryz.ntmps35
  go_wp2_with fail
  go_loopw [1, 5] (fun t i wr => ∃ k : Nat, k ≤ l.length ∧ i = .int .i64 k ∧ t = .int .i64 (left - l.length - sumOf CRoT.bulk (l.take k)) ∧ sumOf CRoT.bulk (l.take k) ≤ left - l.length ∧ Below w.heap.size w wr) (fun _ i _ => l.length - (intOf i).toNat)
  case atStart => exact ⟨0, Nat.zero_le _, rfl, by simp [sumOf], by simp [sumOf]; omega, Below.refl _ _⟩
  case round =>
    obtain ⟨k, hk, rfl, rfl, hle, hb⟩ := hrel
    obtain ⟨wo, rfl⟩ : ∃ wo : World, wo = wr := ⟨_, rfl⟩
    have hz := hb.size
    by_cases hlt : k < l.length
    · obtain ⟨c, hc⟩ : ∃ c, l[k]? = some c := ⟨_, List.getElem?_eq_getElem hlt⟩
      obtain ⟨g, off, rfl, hg1, hg2, hmem, hrep, q0, q1, q2, q3⟩ := CRoT.at_ (h.below hb hhi) hc
      have HB := Lib.hid (sumOf_snoc (b := CRoT.bulk) hc)
      have hft := HF.out c hmem
      clear hc hmem
      go_wp2_with fail
      refine (szCodeRoutine_any c _ _ _ _ _ hrep (by omega) (by omega) (by omega) hft).mono ?_; rintro e w1 ⟨rfl, hb1⟩
      have hb2 := hb.trans (hb1.mono hz)
      clear hrep q0 q1 q2 q3
      by_cases hk1 : left - l.length - sumOf CRoT.bulk (l.take k) < c.bulk
      · rw [leftOf_no hk1]
        go_wp2_with fail
        go_ret
        exact ⟨ret_int (leftOf_no (by have := HB.out; have := sumOf_take_le CRoT.bulk l (k + 1); omega)).symm, hb2⟩
      · rw [leftOf_yes hk1]
        go_wp2_with fail
        go_roundw
        case rel => exact ⟨k + 1, by omega, by go_num, by rw [HB.out]; go_num, by rw [HB.out]; omega, hb2⟩
        case measure => simp [intOf]; omega
    · obtain rfl : k = l.length := by omega
      rw [List.take_length] at hle ⊢
      go_wp2_with fail
      go_ret
      exact ⟨ret_int (by rw [leftOf_yes (by omega)]; omega), hb⟩
end Go.Proofs.YtekobbeoaalibaaGreatDoor
end

section
namespace Go.Proofs.YtekobbeoaalibaaGreatDoor
open Go.RowKit
set_option linter.unusedVariables false

set_option maxRecDepth 100000 in
set_option maxHeartbeats 1000000 in
theorem szInstr_any (c : InsT) (x : Value) (left : Int) (w : World) (lo hi : Nat) (h : SRep w lo hi InsT.dats x c) (hhi : hi ≤ w.heap.size) (hl0 : 0 ≤ left) (hl1 : left ≤ 1048576) (hf : c.Fits) :
    Calls Tryz.prog 72 #[x, .int .i64 left] w fun e w' => e = .returned (.int .i64 (leftOf left c.bulk)) ∧ Below w.heap.size w w' := by
  obtain rfl := InsT.form h
  have ftext : c.text.size ≤ 9223372036854775807 := hf
  have HB : Hid (c.bulk = c.text.size) := rfl
  have hw0 : Below w.heap.size w (w.alloc (.cells #[Value.int .i64 c.op, .int .i64 c.a, .int .i64 c.b, .int .i64 c.line, .string c.text] 108)) := (Below.refl _ _).alloc (Nat.le_refl _) _
  by_cases htext1 : left < (c.text.size : Nat)
  · go_enter Tryz.func72, Tryz.ntmps72
    go_wp2_with fail
    go_ret
    exact ⟨ret_int (leftOf_no (by have := HB.out; omega)).symm, hw0⟩
  go_enter Tryz.func72, Tryz.ntmps72
  go_wp2_with fail
  go_ret
  exact ⟨ret_int (by rw [leftOf_yes (by have := HB.out; omega)]; have := HB.out; omega), hw0⟩
set_option maxRecDepth 100000 in
set_option maxHeartbeats 1000000 in
theorem szInstrS_any (l : List InsT) (v : Value) (left : Int) (w : World) (lo hi : Nat) (h : LRep w lo hi 5 InsT.dats v l) (hhi : hi ≤ w.heap.size) (hl0 : 0 ≤ left) (hl1 : left ≤ 1048576) (hf : ∀ c ∈ l, c.Fits) :
    Calls Tryz.prog 38 #[v, .int .i64 left] w fun e w' => e = .returned (.int .i64 (leftOf left (l.length + sumOf InsT.bulk l))) ∧ Below w.heap.size w w' := by
  obtain ⟨A, cap, rfl, hc1, hc2⟩ := h.shape
  unfold maxLen at hc2
  have HF := Lib.hid hf
  clear hf
  by_cases hn : left < l.length
  · go_enter Tryz.func38, Tryz.ntmps38
    go_wp2_with fail
    go_ret
    exact ⟨ret_int (leftOf_no (by omega)).symm, Below.refl _ _⟩
  go_enter Tryz.func38, Tryz.ntmps38
  go_wp2_with fail
  go_loopw [1, 5] (fun t i wr => ∃ k : Nat, k ≤ l.length ∧ i = .int .i64 k ∧ t = .int .i64 (left - l.length - sumOf InsT.bulk (l.take k)) ∧ sumOf InsT.bulk (l.take k) ≤ left - l.length ∧ Below w.heap.size w wr) (fun _ i _ => l.length - (intOf i).toNat)
  case atStart => exact ⟨0, Nat.zero_le _, rfl, by simp [sumOf], by simp [sumOf]; omega, Below.refl _ _⟩
  case round =>
    obtain ⟨k, hk, rfl, rfl, hle, hb⟩ := hrel
    obtain ⟨wo, rfl⟩ : ∃ wo : World, wo = wr := ⟨_, rfl⟩
    have hz := hb.size
    by_cases hlt : k < l.length
    · obtain ⟨c, hc⟩ : ∃ c, l[k]? = some c := ⟨_, List.getElem?_eq_getElem hlt⟩
      obtain ⟨g, off, rfl, hg1, hg2, hmem, hrep, q0, q1, q2, q3, q4⟩ := InsT.at_ (h.below hb hhi) hc
      have HB := Lib.hid (sumOf_snoc (b := InsT.bulk) hc)
      have hft := HF.out c hmem
      clear hc hmem
      go_wp2_with fail
      refine (szInstr_any c _ _ _ _ _ hrep (by omega) (by omega) (by omega) hft).mono ?_; rintro e w1 ⟨rfl, hb1⟩
      have hb2 := hb.trans (hb1.mono hz)
      clear hrep q0 q1 q2 q3 q4
      by_cases hk1 : left - l.length - sumOf InsT.bulk (l.take k) < c.bulk
      · rw [leftOf_no hk1]
        go_wp2_with fail
        go_ret
        exact ⟨ret_int (leftOf_no (by have := HB.out; have := sumOf_take_le InsT.bulk l (k + 1); omega)).symm, hb2⟩
      · rw [leftOf_yes hk1]
        go_wp2_with fail
        go_roundw
        case rel => exact ⟨k + 1, by omega, by go_num, by rw [HB.out]; go_num, by rw [HB.out]; omega, hb2⟩
        case measure => simp [intOf]; omega
    · obtain rfl : k = l.length := by omega
      rw [List.take_length] at hle ⊢
      go_wp2_with fail
      go_ret
      exact ⟨ret_int (by rw [leftOf_yes (by omega)]; omega), hb⟩
end Go.Proofs.YtekobbeoaalibaaGreatDoor
end

section
namespace Go.Proofs.YtekobbeoaalibaaGreatDoor
open Go.RowKit
set_option linter.unusedVariables false

set_option maxRecDepth 100000 in
set_option maxHeartbeats 1000000 in
theorem szRecordType_any (c : RecT) (x : Value) (left : Int) (w : World) (lo hi : Nat) (h : SRep w lo hi RecT.dats x c) (hhi : hi ≤ w.heap.size) (hl0 : 0 ≤ left) (hl1 : left ≤ 1048576) (hf : c.Fits) :
    Calls Tryz.prog 71 #[x, .int .i64 left] w fun e w' => e = .returned (.int .i64 (leftOf left c.bulk)) ∧ Below w.heap.size w w' := by
  obtain ⟨Afields, nfields, rfl, hfields, ufields, mfields⟩ := RecT.form h
  obtain ⟨fname, ffields⟩ := hf
  have HB : Hid (c.bulk = c.name.size + (c.fields.length + sumOf ByteArray.size c.fields)) := rfl
  unfold maxLen at mfields
  have Ffields := Lib.hid ffields
  clear ffields
  have hw0 : Below w.heap.size w (w.alloc (.cells #[Value.string c.name, .slice Afields c.fields.length nfields, .int .i64 c.line] 106)) := (Below.refl _ _).alloc (Nat.le_refl _) _
  by_cases hname1 : left < (c.name.size : Nat)
  · go_enter Tryz.func71, Tryz.ntmps71
    go_wp2_with fail
    go_ret
    exact ⟨ret_int (leftOf_no (by have := HB.out; omega)).symm, hw0⟩
  go_enter Tryz.func71, Tryz.ntmps71
  go_wp2_with fail
  refine (szStrs_any c.fields _ _ _ lo hi (hfields.below hw0 hhi) (Nat.le_trans hhi hw0.size) (by omega) (by omega) Ffields.out).mono ?_; rintro e w1 ⟨rfl, hb1⟩
  have hw1 : Below w.heap.size w w1 := hw0.trans (hb1.mono hw0.size)
  have a1 := (Blk.new w 106 #[Value.string c.name, .slice Afields c.fields.length nfields, .int .i64 c.line]).later hb1
  have ca := a1.cell
  have la := a1.lt
  by_cases hfields1 : left - (c.name.size : Nat) < ((c.fields.length + sumOf ByteArray.size c.fields) : Nat)
  · rw [leftOf_no hfields1]
    go_wp2_with fail
    go_ret
    exact ⟨ret_int (leftOf_no (by have := HB.out; omega)).symm, hw1⟩
  rw [leftOf_yes hfields1]
  generalize hL : left - (c.name.size : Nat) - (((c.fields.length + sumOf ByteArray.size c.fields) : Nat) : Int) = left1
  have l1a : left1 ≤ left - (c.name.size : Nat) - ((c.fields.length + sumOf ByteArray.size c.fields) : Nat) := by omega
  have l1b : left - (c.name.size : Nat) - ((c.fields.length + sumOf ByteArray.size c.fields) : Nat) ≤ left1 := by omega
  clear hL
  go_wp2_with fail
  go_ret
  exact ⟨ret_int (by rw [leftOf_yes (by have := HB.out; omega)]; have := HB.out; omega), hw1⟩
set_option maxRecDepth 100000 in
set_option maxHeartbeats 1000000 in
theorem szRecordTypeS_any (l : List RecT) (v : Value) (left : Int) (w : World) (lo hi : Nat) (h : LRep w lo hi 3 RecT.dats v l) (hhi : hi ≤ w.heap.size) (hl0 : 0 ≤ left) (hl1 : left ≤ 1048576) (hf : ∀ c ∈ l, c.Fits) :
    Calls Tryz.prog 36 #[v, .int .i64 left] w fun e w' => e = .returned (.int .i64 (leftOf left (l.length + sumOf RecT.bulk l))) ∧ Below w.heap.size w w' := by
  obtain ⟨A, cap, rfl, hc1, hc2⟩ := h.shape
  unfold maxLen at hc2
  have HF := Lib.hid hf
  clear hf
  by_cases hn : left < l.length
  · go_enter Tryz.func36, Tryz.ntmps36
    go_wp2_with fail
    go_ret
    exact ⟨ret_int (leftOf_no (by omega)).symm, Below.refl _ _⟩
  go_enter Tryz.func36, Tryz.ntmps36
  go_wp2_with fail
  go_loopw [1, 5] (fun t i wr => ∃ k : Nat, k ≤ l.length ∧ i = .int .i64 k ∧ t = .int .i64 (left - l.length - sumOf RecT.bulk (l.take k)) ∧ sumOf RecT.bulk (l.take k) ≤ left - l.length ∧ Below w.heap.size w wr) (fun _ i _ => l.length - (intOf i).toNat)
  case atStart => exact ⟨0, Nat.zero_le _, rfl, by simp [sumOf], by simp [sumOf]; omega, Below.refl _ _⟩
  case round =>
    obtain ⟨k, hk, rfl, rfl, hle, hb⟩ := hrel
    obtain ⟨wo, rfl⟩ : ∃ wo : World, wo = wr := ⟨_, rfl⟩
    have hz := hb.size
    by_cases hlt : k < l.length
    · obtain ⟨c, hc⟩ : ∃ c, l[k]? = some c := ⟨_, List.getElem?_eq_getElem hlt⟩
      obtain ⟨g, off, Afields, nfields, rfl, hg1, hg2, hmem, hrep, q0, q1, q2⟩ := RecT.at_ (h.below hb hhi) hc
      have HB := Lib.hid (sumOf_snoc (b := RecT.bulk) hc)
      have hft := HF.out c hmem
      clear hc hmem
      go_wp2_with fail
      refine (szRecordType_any c _ _ _ _ _ hrep (by omega) (by omega) (by omega) hft).mono ?_; rintro e w1 ⟨rfl, hb1⟩
      have hb2 := hb.trans (hb1.mono hz)
      clear hrep q0 q1 q2
      by_cases hk1 : left - l.length - sumOf RecT.bulk (l.take k) < c.bulk
      · rw [leftOf_no hk1]
        go_wp2_with fail
        go_ret
        exact ⟨ret_int (leftOf_no (by have := HB.out; have := sumOf_take_le RecT.bulk l (k + 1); omega)).symm, hb2⟩
      · rw [leftOf_yes hk1]
        go_wp2_with fail
        go_roundw
        case rel => exact ⟨k + 1, by omega, by go_num, by rw [HB.out]; go_num, by rw [HB.out]; omega, hb2⟩
        case measure => simp [intOf]; omega
    · obtain rfl : k = l.length := by omega
      rw [List.take_length] at hle ⊢
      go_wp2_with fail
      go_ret
      exact ⟨ret_int (by rw [leftOf_yes (by omega)]; omega), hb⟩
end Go.Proofs.YtekobbeoaalibaaGreatDoor
end

section
namespace Go.Proofs.YtekobbeoaalibaaGreatDoor
open Go.RowKit
set_option linter.unusedVariables false

set_option maxRecDepth 100000 in
set_option maxHeartbeats 1000000 in
theorem szCode_any (c : CodeT) (x : Value) (left : Int) (w : World) (lo hi : Nat) (h : SRep w lo hi CodeT.dats x c) (hhi : hi ≤ w.heap.size) (hl0 : 0 ≤ left) (hl1 : left ≤ 1048576) (hf : c.Fits) :
    Calls Tryz.prog 9 #[x, .int .i64 left] w fun e w' => e = .returned (.int .i64 (leftOf left c.bulk)) ∧ Below w.heap.size w w' := by
  obtain ⟨Aroutines, nroutines, Arecords, nrecords, Aglobals, nglobals, Ainstrs, ninstrs, rfl, hroutines, uroutines, mroutines, hrecords, urecords, mrecords, hglobals, uglobals, mglobals, hinstrs, uinstrs, minstrs⟩ := CodeT.form h
  obtain ⟨froutines, frecords, fglobals, finstrs⟩ := hf
  have HB : Hid (c.bulk = (c.routines.length + sumOf CRoT.bulk c.routines) + (c.records.length + sumOf RecT.bulk c.records) + (c.globals.length + sumOf ByteArray.size c.globals) + (c.instrs.length + sumOf InsT.bulk c.instrs)) := rfl
  unfold maxLen at mroutines
  unfold maxLen at mrecords
  unfold maxLen at mglobals
  unfold maxLen at minstrs
  have Froutines := Lib.hid froutines
  clear froutines
  have Frecords := Lib.hid frecords
  clear frecords
  have Fglobals := Lib.hid fglobals
  clear fglobals
  have Finstrs := Lib.hid finstrs
  clear finstrs
  have hw0 : Below w.heap.size w (w.alloc (.cells #[Value.slice Aroutines c.routines.length nroutines, .slice Arecords c.records.length nrecords, .slice Aglobals c.globals.length nglobals, .int .i64 c.main, .slice Ainstrs c.instrs.length ninstrs] 27)) := (Below.refl _ _).alloc (Nat.le_refl _) _
  go_enter Tryz.func9, Tryz.ntmps9
  go_wp2_with fail
  refine (szCodeRoutineS_any c.routines _ _ _ lo hi (hroutines.below hw0 hhi) (Nat.le_trans hhi hw0.size) (by omega) (by omega) Froutines.out).mono ?_; rintro e w1 ⟨rfl, hb1⟩
  have hw1 : Below w.heap.size w w1 := hw0.trans (hb1.mono hw0.size)
  have a1 := (Blk.new w 27 #[Value.slice Aroutines c.routines.length nroutines, .slice Arecords c.records.length nrecords, .slice Aglobals c.globals.length nglobals, .int .i64 c.main, .slice Ainstrs c.instrs.length ninstrs]).later hb1
  have ca := a1.cell
  have la := a1.lt
  by_cases hroutines1 : left < ((c.routines.length + sumOf CRoT.bulk c.routines) : Nat)
  · rw [leftOf_no hroutines1]
    go_wp2_with fail
    go_ret
    exact ⟨ret_int (leftOf_no (by have := HB.out; omega)).symm, hw1⟩
  rw [leftOf_yes hroutines1]
  generalize hL : left - (((c.routines.length + sumOf CRoT.bulk c.routines) : Nat) : Int) = left1
  have l1a : left1 ≤ left - ((c.routines.length + sumOf CRoT.bulk c.routines) : Nat) := by omega
  have l1b : left - ((c.routines.length + sumOf CRoT.bulk c.routines) : Nat) ≤ left1 := by omega
  clear hL
  go_wp2_with fail
  refine (szRecordTypeS_any c.records _ _ _ lo hi (hrecords.below hw1 hhi) (Nat.le_trans hhi hw1.size) (by omega) (by omega) Frecords.out).mono ?_; rintro e w2 ⟨rfl, hb2⟩
  have hw2 : Below w.heap.size w w2 := hw1.trans (hb2.mono hw1.size)
  have a2 := a1.later hb2
  clear ca la
  have ca := a2.cell
  have la := a2.lt
  by_cases hrecords1 : left1 < ((c.records.length + sumOf RecT.bulk c.records) : Nat)
  · rw [leftOf_no hrecords1]
    go_wp2_with fail
    go_ret
    exact ⟨ret_int (leftOf_no (by have := HB.out; omega)).symm, hw2⟩
  rw [leftOf_yes hrecords1]
  generalize hL : left1 - (((c.records.length + sumOf RecT.bulk c.records) : Nat) : Int) = left2
  have l2a : left2 ≤ left1 - ((c.records.length + sumOf RecT.bulk c.records) : Nat) := by omega
  have l2b : left1 - ((c.records.length + sumOf RecT.bulk c.records) : Nat) ≤ left2 := by omega
  clear hL
  go_wp2_with fail
  refine (szStrs_any c.globals _ _ _ lo hi (hglobals.below hw2 hhi) (Nat.le_trans hhi hw2.size) (by omega) (by omega) Fglobals.out).mono ?_; rintro e w3 ⟨rfl, hb3⟩
  have hw3 : Below w.heap.size w w3 := hw2.trans (hb3.mono hw2.size)
  have a3 := a2.later hb3
  clear ca la
  have ca := a3.cell
  have la := a3.lt
  by_cases hglobals1 : left2 < ((c.globals.length + sumOf ByteArray.size c.globals) : Nat)
  · rw [leftOf_no hglobals1]
    go_wp2_with fail
    go_ret
    exact ⟨ret_int (leftOf_no (by have := HB.out; omega)).symm, hw3⟩
  rw [leftOf_yes hglobals1]
  generalize hL : left2 - (((c.globals.length + sumOf ByteArray.size c.globals) : Nat) : Int) = left3
  have l3a : left3 ≤ left2 - ((c.globals.length + sumOf ByteArray.size c.globals) : Nat) := by omega
  have l3b : left2 - ((c.globals.length + sumOf ByteArray.size c.globals) : Nat) ≤ left3 := by omega
  clear hL
  go_wp2_with fail
  refine (szInstrS_any c.instrs _ _ _ lo hi (hinstrs.below hw3 hhi) (Nat.le_trans hhi hw3.size) (by omega) (by omega) Finstrs.out).mono ?_; rintro e w4 ⟨rfl, hb4⟩
  have hw4 : Below w.heap.size w w4 := hw3.trans (hb4.mono hw3.size)
  have a4 := a3.later hb4
  clear ca la
  have ca := a4.cell
  have la := a4.lt
  by_cases hinstrs1 : left3 < ((c.instrs.length + sumOf InsT.bulk c.instrs) : Nat)
  · rw [leftOf_no hinstrs1]
    go_wp2_with fail
    go_ret
    exact ⟨ret_int (leftOf_no (by have := HB.out; omega)).symm, hw4⟩
  rw [leftOf_yes hinstrs1]
  generalize hL : left3 - (((c.instrs.length + sumOf InsT.bulk c.instrs) : Nat) : Int) = left4
  have l4a : left4 ≤ left3 - ((c.instrs.length + sumOf InsT.bulk c.instrs) : Nat) := by omega
  have l4b : left3 - ((c.instrs.length + sumOf InsT.bulk c.instrs) : Nat) ≤ left4 := by omega
  clear hL
  go_wp2_with fail
  go_ret
  exact ⟨ret_int (by rw [leftOf_yes (by have := HB.out; omega)]; have := HB.out; omega), hw4⟩
end Go.Proofs.YtekobbeoaalibaaGreatDoor
end

section
namespace Go.Proofs.YtekobbeoaalibaaGreatDoor
open Go.RowKit
set_option linter.unusedVariables false

set_option maxRecDepth 100000 in
theorem szEditS_any (l : List EditT) (v : Value) (left : Int) (w : World) (lo hi : Nat) (h : LRep w lo hi 2 EditT.dats v l) (hl0 : 0 ≤ left) (hl1 : left ≤ 1048576) :
    Calls Tryz.prog 28 #[v, .int .i64 left] w fun e w' => e = .returned (.int .i64 (leftOf left l.length)) ∧ w' = w := by
  obtain ⟨A, cap, rfl, hc1, hc2⟩ := h.shape
  unfold maxLen at hc2
  by_cases hn : left < l.length
  · go_enter Tryz.func28, Tryz.ntmps28
    go_wp2_with fail
    go_ret
    exact ⟨ret_int (leftOf_no (by omega)).symm, rfl⟩
  · go_enter Tryz.func28, Tryz.ntmps28
    go_wp2_with fail
    go_ret
    exact ⟨ret_int (by rw [leftOf_yes (by omega)]), rfl⟩
end Go.Proofs.YtekobbeoaalibaaGreatDoor
end
