/- EqAll: several texts in one. -/
import Derived.Test.YtekobbeoaalibaaGreatDoorProg
import Derived.Test.YtekobbeoaalibaaGreatDoorRow
import Derived.Test.YtekobbeoaalibaaGreatDoorTyCodeRoutine
import Derived.Deep.RegionHeld3
import Derived.Test.YtekobbeoaalibaaGreatDoorTyInstr
import Derived.Test.YtekobbeoaalibaaGreatDoorTyRecordType
import Derived.Test.YtekobbeoaalibaaGreatDoorTyCode
import Derived.Test.YtekobbeoaalibaaGreatDoorTyEdit
section
namespace Go.Proofs.YtekobbeoaalibaaGreatDoor
open Go.RowKit
set_option linter.unusedVariables false

set_option maxRecDepth 100000 in
set_option maxHeartbeats 1000000 in
theorem eqStrs_any (l : List ByteArray) (v u : Value) (w : World) (lo hi lo' hi' : Nat) (h : LRep w lo hi 1 strDats v l) (h' : LRep w lo' hi' 1 strDats u l) (hhi : hi ≤ w.heap.size) (hhi' : hi' ≤ w.heap.size) :
    Calls Tryz.prog 16 #[v, u] w fun e w' => e = .returned (.bool true) ∧ Below w.heap.size w w' := by
  obtain ⟨A, c, rfl, hc1, hc2⟩ := h.shape
  obtain ⟨A', c', rfl, hc1', hc2'⟩ := h'.shape
  unfold maxLen at hc2 hc2'
  have hne : ((l.length : Int) != (l.length : Int)) = false := by simp
  go_enter Tryz.func16, Tryz.ntmps16
  go_wp2_with fail
  go_loopw [5] (fun i wr => ∃ k : Nat, k ≤ l.length ∧ i = .int .i64 k ∧ Same w wr) (fun i _ => l.length - (intOf i).toNat)
  case atStart => exact ⟨0, Nat.zero_le _, rfl, Same.refl _⟩
  case round =>
    obtain ⟨k, hk, rfl, hs⟩ := hrel
    obtain ⟨wo, rfl⟩ : ∃ wo : World, wo = wr := ⟨_, rfl⟩
    by_cases hlt : k < l.length
    · obtain ⟨s, hc⟩ : ∃ s, l[k]? = some s := ⟨_, List.getElem?_eq_getElem hlt⟩
      obtain ⟨g, off, rfl, -, -, q0⟩ := (h.same hs).text hc
      obtain ⟨g', off', rfl, -, -, q0'⟩ := (h'.same hs).text hc
      have hb := str_eq s
      clear hc
      go_wp2_with fail
      go_quiet (fail)
      go_wp2_with fail
      go_roundw
      case rel => exact ⟨k + 1, by omega, by go_num, hs.drewN _⟩
      case measure => simp [intOf]; omega
    · obtain rfl : k = l.length := by omega
      go_wp2_with fail
      go_ret
      exact ⟨rfl, hs.below _⟩
end Go.Proofs.YtekobbeoaalibaaGreatDoor
end

section
namespace Go.Proofs.YtekobbeoaalibaaGreatDoor
open Go.RowKit
set_option linter.unusedVariables false

set_option maxRecDepth 100000 in
set_option maxHeartbeats 1000000 in
theorem eqCodeRoutine_any (c : CRoT) (x y : Value) (w : World) (lo hi lo' hi' : Nat) (h : SRep w lo hi CRoT.dats x c) (h' : SRep w lo' hi' CRoT.dats y c) (hhi : hi ≤ w.heap.size) (hhi' : hi' ≤ w.heap.size) :
    Calls Tryz.prog 76 #[x, y] w fun e w' => e = .returned (.bool true) ∧ Below w.heap.size w w' := by
  obtain rfl := CRoT.form h
  obtain rfl := CRoT.form h'
  have bname := str_eq c.name
  have bparams : (c.params != c.params) = false := by simp
  have bslots : (c.slots != c.slots) = false := by simp
  have bentry : (c.entry != c.entry) = false := by simp
  have hw0 : Below w.heap.size w ((w.alloc (.cells #[Value.string c.name, .int .i64 c.params, .int .i64 c.slots, .int .i64 c.entry] 76)).alloc (.cells #[Value.string c.name, .int .i64 c.params, .int .i64 c.slots, .int .i64 c.entry] 76)) := ((Below.refl _ _).alloc (Nat.le_refl _) _).alloc (by simp) _
  have a0 := (Blk.new w 76 #[Value.string c.name, .int .i64 c.params, .int .i64 c.slots, .int .i64 c.entry]).alloc (.cells #[Value.string c.name, .int .i64 c.params, .int .i64 c.slots, .int .i64 c.entry] 76)
  have e0 := Blk.newAt (w.alloc (.cells #[Value.string c.name, .int .i64 c.params, .int .i64 c.slots, .int .i64 c.entry] 76)) 76 #[Value.string c.name, .int .i64 c.params, .int .i64 c.slots, .int .i64 c.entry] (w.heap.size + 1) (by simp)
  go_enter Tryz.func76, Tryz.ntmps76
  go_wp2_with fail
  go_ret
  exact ⟨rfl, hw0⟩
set_option maxRecDepth 100000 in
set_option maxHeartbeats 1000000 in
theorem eqCodeRoutineS_any (l : List CRoT) (v u : Value) (w : World) (lo hi lo' hi' : Nat) (h : LRep w lo hi 4 CRoT.dats v l) (h' : LRep w lo' hi' 4 CRoT.dats u l) (hhi : hi ≤ w.heap.size) (hhi' : hi' ≤ w.heap.size) :
    Calls Tryz.prog 43 #[v, u] w fun e w' => e = .returned (.bool true) ∧ Below w.heap.size w w' := by
  obtain ⟨A, cap, rfl, hc1, hc2⟩ := h.shape
  obtain ⟨A', cap', rfl, hc1', hc2'⟩ := h'.shape
  unfold maxLen at hc2 hc2'
  have hne : ((l.length : Int) != (l.length : Int)) = false := by simp
  go_enter Tryz.func43, Tryz.ntmps43
  go_wp2_with fail
  go_loopw [5] (fun i wr => ∃ k : Nat, k ≤ l.length ∧ i = .int .i64 k ∧ Below w.heap.size w wr) (fun i _ => l.length - (intOf i).toNat)
  case atStart => exact ⟨0, Nat.zero_le _, rfl, Below.refl _ _⟩
  case round =>
    obtain ⟨k, hk, rfl, hb⟩ := hrel
    obtain ⟨wo, rfl⟩ : ∃ wo : World, wo = wr := ⟨_, rfl⟩
    have hz := hb.size
    by_cases hlt : k < l.length
    · obtain ⟨c, hc⟩ : ∃ c, l[k]? = some c := ⟨_, List.getElem?_eq_getElem hlt⟩
      obtain ⟨g, off, rfl, hg1, hg2, hmem, hrep, q0, q1, q2, q3⟩ := CRoT.at_ (h.below hb hhi) hc
      obtain ⟨g', off', rfl, hg1', hg2', hmem', hrep', p0, p1, p2, p3⟩ := CRoT.at_ (h'.below hb hhi') hc
      have e0 : (0 : Int) ≤ (k : Int) := by omega
      have e8 : (k : Int) < (l.length : Int) := by omega
      have y1 : hi ≤ wo.drew.heap.size := Nat.le_trans hhi hz
      have y2 : hi' ≤ wo.drew.heap.size := Nat.le_trans hhi' hz
      have t1 := Nat.lt_of_lt_of_le hg2 y1
      have t2 := Nat.lt_of_lt_of_le hg2' y2
      clear hc hmem hmem'
      go_wp2_with fail
      go_region_held3 (fun w' => (w'.cell? ⟨g, off + k * 4, none⟩ = some (.string c.name) ∧ w'.cell? ⟨g, off + k * 4 + 1, none⟩ = some (.int .i64 c.params) ∧ w'.cell? ⟨g, off + k * 4 + 2, none⟩ = some (.int .i64 c.slots) ∧ w'.cell? ⟨g, off + k * 4 + 3, none⟩ = some (.int .i64 c.entry)) ∧ (w'.cell? ⟨g', off' + k * 4, none⟩ = some (.string c.name) ∧ w'.cell? ⟨g', off' + k * 4 + 1, none⟩ = some (.int .i64 c.params) ∧ w'.cell? ⟨g', off' + k * 4 + 2, none⟩ = some (.int .i64 c.slots) ∧ w'.cell? ⟨g', off' + k * 4 + 3, none⟩ = some (.int .i64 c.entry)))
        (first | exact ⟨⟨q0, q1, q2, q3⟩, p0, p1, p2, p3⟩ | exact ⟨⟨(hbA.cell t1).trans q0, (hbA.cell t1).trans q1, (hbA.cell t1).trans q2, (hbA.cell t1).trans q3⟩, (hbA.cell t2).trans p0, (hbA.cell t2).trans p1, (hbA.cell t2).trans p2, (hbA.cell t2).trans p3⟩)
        ((go_at_call 76; refine (eqCodeRoutine_any c _ _ _ _ _ _ _ (hrep.same (Same.refl _).drew) (hrep'.same (Same.refl _).drew) y1 y2).mono ?_; rintro e wA ⟨rfl, hbA⟩))
      have hb2 : Below w.heap.size w wA := hb.drew.trans (hbA.mono hz)
      clear hrep hrep' q0 q1 q2 q3 p0 p1 p2 p3
      go_wp2_with fail
      go_roundw
      case rel => exact ⟨k + 1, by omega, by go_num, hb2⟩
      case measure => simp [intOf]; omega
    · obtain rfl : k = l.length := by omega
      go_wp2_with fail
      go_ret
      exact ⟨rfl, hb⟩
end Go.Proofs.YtekobbeoaalibaaGreatDoor
end

section
namespace Go.Proofs.YtekobbeoaalibaaGreatDoor
open Go.RowKit
set_option linter.unusedVariables false

set_option maxRecDepth 100000 in
set_option maxHeartbeats 1000000 in
theorem eqInstr_any (c : InsT) (x y : Value) (w : World) (lo hi lo' hi' : Nat) (h : SRep w lo hi InsT.dats x c) (h' : SRep w lo' hi' InsT.dats y c) (hhi : hi ≤ w.heap.size) (hhi' : hi' ≤ w.heap.size) :
    Calls Tryz.prog 78 #[x, y] w fun e w' => e = .returned (.bool true) ∧ Below w.heap.size w w' := by
  obtain rfl := InsT.form h
  obtain rfl := InsT.form h'
  have bop : (c.op != c.op) = false := by simp
  have ba : (c.a != c.a) = false := by simp
  have bb : (c.b != c.b) = false := by simp
  have bline : (c.line != c.line) = false := by simp
  have btext := str_eq c.text
  have hw0 : Below w.heap.size w ((w.alloc (.cells #[Value.int .i64 c.op, .int .i64 c.a, .int .i64 c.b, .int .i64 c.line, .string c.text] 79)).alloc (.cells #[Value.int .i64 c.op, .int .i64 c.a, .int .i64 c.b, .int .i64 c.line, .string c.text] 79)) := ((Below.refl _ _).alloc (Nat.le_refl _) _).alloc (by simp) _
  have a0 := (Blk.new w 79 #[Value.int .i64 c.op, .int .i64 c.a, .int .i64 c.b, .int .i64 c.line, .string c.text]).alloc (.cells #[Value.int .i64 c.op, .int .i64 c.a, .int .i64 c.b, .int .i64 c.line, .string c.text] 79)
  have e0 := Blk.newAt (w.alloc (.cells #[Value.int .i64 c.op, .int .i64 c.a, .int .i64 c.b, .int .i64 c.line, .string c.text] 79)) 79 #[Value.int .i64 c.op, .int .i64 c.a, .int .i64 c.b, .int .i64 c.line, .string c.text] (w.heap.size + 1) (by simp)
  go_enter Tryz.func78, Tryz.ntmps78
  go_wp2_with fail
  go_ret
  exact ⟨rfl, hw0⟩
set_option maxRecDepth 100000 in
set_option maxHeartbeats 1000000 in
theorem eqInstrS_any (l : List InsT) (v u : Value) (w : World) (lo hi lo' hi' : Nat) (h : LRep w lo hi 5 InsT.dats v l) (h' : LRep w lo' hi' 5 InsT.dats u l) (hhi : hi ≤ w.heap.size) (hhi' : hi' ≤ w.heap.size) :
    Calls Tryz.prog 45 #[v, u] w fun e w' => e = .returned (.bool true) ∧ Below w.heap.size w w' := by
  obtain ⟨A, cap, rfl, hc1, hc2⟩ := h.shape
  obtain ⟨A', cap', rfl, hc1', hc2'⟩ := h'.shape
  unfold maxLen at hc2 hc2'
  have hne : ((l.length : Int) != (l.length : Int)) = false := by simp
  go_enter Tryz.func45, Tryz.ntmps45
  go_wp2_with fail
  go_loopw [5] (fun i wr => ∃ k : Nat, k ≤ l.length ∧ i = .int .i64 k ∧ Below w.heap.size w wr) (fun i _ => l.length - (intOf i).toNat)
  case atStart => exact ⟨0, Nat.zero_le _, rfl, Below.refl _ _⟩
  case round =>
    obtain ⟨k, hk, rfl, hb⟩ := hrel
    obtain ⟨wo, rfl⟩ : ∃ wo : World, wo = wr := ⟨_, rfl⟩
    have hz := hb.size
    by_cases hlt : k < l.length
    · obtain ⟨c, hc⟩ : ∃ c, l[k]? = some c := ⟨_, List.getElem?_eq_getElem hlt⟩
      obtain ⟨g, off, rfl, hg1, hg2, hmem, hrep, q0, q1, q2, q3, q4⟩ := InsT.at_ (h.below hb hhi) hc
      obtain ⟨g', off', rfl, hg1', hg2', hmem', hrep', p0, p1, p2, p3, p4⟩ := InsT.at_ (h'.below hb hhi') hc
      have e0 : (0 : Int) ≤ (k : Int) := by omega
      have e8 : (k : Int) < (l.length : Int) := by omega
      have y1 : hi ≤ wo.drew.heap.size := Nat.le_trans hhi hz
      have y2 : hi' ≤ wo.drew.heap.size := Nat.le_trans hhi' hz
      have t1 := Nat.lt_of_lt_of_le hg2 y1
      have t2 := Nat.lt_of_lt_of_le hg2' y2
      clear hc hmem hmem'
      go_wp2_with fail
      go_region_held3 (fun w' => (w'.cell? ⟨g, off + k * 5, none⟩ = some (.int .i64 c.op) ∧ w'.cell? ⟨g, off + k * 5 + 1, none⟩ = some (.int .i64 c.a) ∧ w'.cell? ⟨g, off + k * 5 + 2, none⟩ = some (.int .i64 c.b) ∧ w'.cell? ⟨g, off + k * 5 + 3, none⟩ = some (.int .i64 c.line) ∧ w'.cell? ⟨g, off + k * 5 + 4, none⟩ = some (.string c.text)) ∧ (w'.cell? ⟨g', off' + k * 5, none⟩ = some (.int .i64 c.op) ∧ w'.cell? ⟨g', off' + k * 5 + 1, none⟩ = some (.int .i64 c.a) ∧ w'.cell? ⟨g', off' + k * 5 + 2, none⟩ = some (.int .i64 c.b) ∧ w'.cell? ⟨g', off' + k * 5 + 3, none⟩ = some (.int .i64 c.line) ∧ w'.cell? ⟨g', off' + k * 5 + 4, none⟩ = some (.string c.text)))
        (first | exact ⟨⟨q0, q1, q2, q3, q4⟩, p0, p1, p2, p3, p4⟩ | exact ⟨⟨(hbA.cell t1).trans q0, (hbA.cell t1).trans q1, (hbA.cell t1).trans q2, (hbA.cell t1).trans q3, (hbA.cell t1).trans q4⟩, (hbA.cell t2).trans p0, (hbA.cell t2).trans p1, (hbA.cell t2).trans p2, (hbA.cell t2).trans p3, (hbA.cell t2).trans p4⟩)
        ((go_at_call 78; refine (eqInstr_any c _ _ _ _ _ _ _ (hrep.same (Same.refl _).drew) (hrep'.same (Same.refl _).drew) y1 y2).mono ?_; rintro e wA ⟨rfl, hbA⟩))
      have hb2 : Below w.heap.size w wA := hb.drew.trans (hbA.mono hz)
      clear hrep hrep' q0 q1 q2 q3 q4 p0 p1 p2 p3 p4
      go_wp2_with fail
      go_roundw
      case rel => exact ⟨k + 1, by omega, by go_num, hb2⟩
      case measure => simp [intOf]; omega
    · obtain rfl : k = l.length := by omega
      go_wp2_with fail
      go_ret
      exact ⟨rfl, hb⟩
end Go.Proofs.YtekobbeoaalibaaGreatDoor
end

section
namespace Go.Proofs.YtekobbeoaalibaaGreatDoor
open Go.RowKit
set_option linter.unusedVariables false

set_option maxRecDepth 100000 in
set_option maxHeartbeats 1000000 in
theorem eqRecordType_any (c : RecT) (x y : Value) (w : World) (lo hi lo' hi' : Nat) (h : SRep w lo hi RecT.dats x c) (h' : SRep w lo' hi' RecT.dats y c) (hhi : hi ≤ w.heap.size) (hhi' : hi' ≤ w.heap.size) :
    Calls Tryz.prog 77 #[x, y] w fun e w' => e = .returned (.bool true) ∧ Below w.heap.size w w' := by
  obtain ⟨Afields, nfields, rfl, hfields, ufields, mfields⟩ := RecT.form h
  obtain ⟨Afields', nfields', rfl, hfields', ufields', mfields'⟩ := RecT.form h'
  have bname := str_eq c.name
  have bline : (c.line != c.line) = false := by simp
  have hw0 : Below w.heap.size w ((w.alloc (.cells #[Value.string c.name, .slice Afields c.fields.length nfields, .int .i64 c.line] 110)).alloc (.cells #[Value.string c.name, .slice Afields' c.fields.length nfields', .int .i64 c.line] 110)) := ((Below.refl _ _).alloc (Nat.le_refl _) _).alloc (by simp) _
  have a0 := (Blk.new w 110 #[Value.string c.name, .slice Afields c.fields.length nfields, .int .i64 c.line]).alloc (.cells #[Value.string c.name, .slice Afields' c.fields.length nfields', .int .i64 c.line] 110)
  have e0 := Blk.newAt (w.alloc (.cells #[Value.string c.name, .slice Afields c.fields.length nfields, .int .i64 c.line] 110)) 110 #[Value.string c.name, .slice Afields' c.fields.length nfields', .int .i64 c.line] (w.heap.size + 1) (by simp)
  go_enter Tryz.func77, Tryz.ntmps77
  go_wp2_with fail
  refine (eqStrs_any c.fields _ _ _ lo hi lo' hi' (hfields.below hw0 hhi) (hfields'.below hw0 hhi') (Nat.le_trans hhi hw0.size) (Nat.le_trans hhi' hw0.size)).mono ?_; rintro e w1 ⟨rfl, hb1⟩
  have hw1 : Below w.heap.size w w1 := hw0.trans (hb1.mono hw0.size)
  have a1 := a0.later hb1
  have e1 := e0.later hb1
  have ca := a1.cell
  have ce := e1.cell
  have la := a1.lt
  have le := e1.lt
  clear hb1
  go_wp2_with fail
  go_ret
  exact ⟨rfl, hw1⟩
set_option maxRecDepth 100000 in
set_option maxHeartbeats 1000000 in
theorem eqRecordTypeS_any (l : List RecT) (v u : Value) (w : World) (lo hi lo' hi' : Nat) (h : LRep w lo hi 3 RecT.dats v l) (h' : LRep w lo' hi' 3 RecT.dats u l) (hhi : hi ≤ w.heap.size) (hhi' : hi' ≤ w.heap.size) :
    Calls Tryz.prog 44 #[v, u] w fun e w' => e = .returned (.bool true) ∧ Below w.heap.size w w' := by
  obtain ⟨A, cap, rfl, hc1, hc2⟩ := h.shape
  obtain ⟨A', cap', rfl, hc1', hc2'⟩ := h'.shape
  unfold maxLen at hc2 hc2'
  have hne : ((l.length : Int) != (l.length : Int)) = false := by simp
  go_enter Tryz.func44, Tryz.ntmps44
  go_wp2_with fail
  go_loopw [5] (fun i wr => ∃ k : Nat, k ≤ l.length ∧ i = .int .i64 k ∧ Below w.heap.size w wr) (fun i _ => l.length - (intOf i).toNat)
  case atStart => exact ⟨0, Nat.zero_le _, rfl, Below.refl _ _⟩
  case round =>
    obtain ⟨k, hk, rfl, hb⟩ := hrel
    obtain ⟨wo, rfl⟩ : ∃ wo : World, wo = wr := ⟨_, rfl⟩
    have hz := hb.size
    by_cases hlt : k < l.length
    · obtain ⟨c, hc⟩ : ∃ c, l[k]? = some c := ⟨_, List.getElem?_eq_getElem hlt⟩
      obtain ⟨g, off, Afields, nfields, rfl, hg1, hg2, hmem, hrep, q0, q1, q2⟩ := RecT.at_ (h.below hb hhi) hc
      obtain ⟨g', off', Afields', nfields', rfl, hg1', hg2', hmem', hrep', p0, p1, p2⟩ := RecT.at_ (h'.below hb hhi') hc
      have e0 : (0 : Int) ≤ (k : Int) := by omega
      have e8 : (k : Int) < (l.length : Int) := by omega
      have y1 : hi ≤ wo.drew.heap.size := Nat.le_trans hhi hz
      have y2 : hi' ≤ wo.drew.heap.size := Nat.le_trans hhi' hz
      have t1 := Nat.lt_of_lt_of_le hg2 y1
      have t2 := Nat.lt_of_lt_of_le hg2' y2
      clear hc hmem hmem'
      go_wp2_with fail
      go_region_held3 (fun w' => (w'.cell? ⟨g, off + k * 3, none⟩ = some (.string c.name) ∧ w'.cell? ⟨g, off + k * 3 + 1, none⟩ = some (.slice Afields c.fields.length nfields) ∧ w'.cell? ⟨g, off + k * 3 + 2, none⟩ = some (.int .i64 c.line)) ∧ (w'.cell? ⟨g', off' + k * 3, none⟩ = some (.string c.name) ∧ w'.cell? ⟨g', off' + k * 3 + 1, none⟩ = some (.slice Afields' c.fields.length nfields') ∧ w'.cell? ⟨g', off' + k * 3 + 2, none⟩ = some (.int .i64 c.line)))
        (first | exact ⟨⟨q0, q1, q2⟩, p0, p1, p2⟩ | exact ⟨⟨(hbA.cell t1).trans q0, (hbA.cell t1).trans q1, (hbA.cell t1).trans q2⟩, (hbA.cell t2).trans p0, (hbA.cell t2).trans p1, (hbA.cell t2).trans p2⟩)
        ((go_at_call 77; refine (eqRecordType_any c _ _ _ _ _ _ _ (hrep.same (Same.refl _).drew) (hrep'.same (Same.refl _).drew) y1 y2).mono ?_; rintro e wA ⟨rfl, hbA⟩))
      have hb2 : Below w.heap.size w wA := hb.drew.trans (hbA.mono hz)
      clear hrep hrep' q0 q1 q2 p0 p1 p2
      go_wp2_with fail
      go_roundw
      case rel => exact ⟨k + 1, by omega, by go_num, hb2⟩
      case measure => simp [intOf]; omega
    · obtain rfl : k = l.length := by omega
      go_wp2_with fail
      go_ret
      exact ⟨rfl, hb⟩
end Go.Proofs.YtekobbeoaalibaaGreatDoor
end

section
namespace Go.Proofs.YtekobbeoaalibaaGreatDoor
open Go.RowKit
set_option linter.unusedVariables false

set_option maxRecDepth 100000 in
set_option maxHeartbeats 1000000 in
theorem eqCode_any (c : CodeT) (x y : Value) (w : World) (lo hi lo' hi' : Nat) (h : SRep w lo hi CodeT.dats x c) (h' : SRep w lo' hi' CodeT.dats y c) (hhi : hi ≤ w.heap.size) (hhi' : hi' ≤ w.heap.size) :
    Calls Tryz.prog 13 #[x, y] w fun e w' => e = .returned (.bool true) ∧ Below w.heap.size w w' := by
  obtain ⟨Aroutines, nroutines, Arecords, nrecords, Aglobals, nglobals, Ainstrs, ninstrs, rfl, hroutines, uroutines, mroutines, hrecords, urecords, mrecords, hglobals, uglobals, mglobals, hinstrs, uinstrs, minstrs⟩ := CodeT.form h
  obtain ⟨Aroutines', nroutines', Arecords', nrecords', Aglobals', nglobals', Ainstrs', ninstrs', rfl, hroutines', uroutines', mroutines', hrecords', urecords', mrecords', hglobals', uglobals', mglobals', hinstrs', uinstrs', minstrs'⟩ := CodeT.form h'
  have bmain : (c.main != c.main) = false := by simp
  have hw0 : Below w.heap.size w ((w.alloc (.cells #[Value.slice Aroutines c.routines.length nroutines, .slice Arecords c.records.length nrecords, .slice Aglobals c.globals.length nglobals, .int .i64 c.main, .slice Ainstrs c.instrs.length ninstrs] 34)).alloc (.cells #[Value.slice Aroutines' c.routines.length nroutines', .slice Arecords' c.records.length nrecords', .slice Aglobals' c.globals.length nglobals', .int .i64 c.main, .slice Ainstrs' c.instrs.length ninstrs'] 34)) := ((Below.refl _ _).alloc (Nat.le_refl _) _).alloc (by simp) _
  have a0 := (Blk.new w 34 #[Value.slice Aroutines c.routines.length nroutines, .slice Arecords c.records.length nrecords, .slice Aglobals c.globals.length nglobals, .int .i64 c.main, .slice Ainstrs c.instrs.length ninstrs]).alloc (.cells #[Value.slice Aroutines' c.routines.length nroutines', .slice Arecords' c.records.length nrecords', .slice Aglobals' c.globals.length nglobals', .int .i64 c.main, .slice Ainstrs' c.instrs.length ninstrs'] 34)
  have e0 := Blk.newAt (w.alloc (.cells #[Value.slice Aroutines c.routines.length nroutines, .slice Arecords c.records.length nrecords, .slice Aglobals c.globals.length nglobals, .int .i64 c.main, .slice Ainstrs c.instrs.length ninstrs] 34)) 34 #[Value.slice Aroutines' c.routines.length nroutines', .slice Arecords' c.records.length nrecords', .slice Aglobals' c.globals.length nglobals', .int .i64 c.main, .slice Ainstrs' c.instrs.length ninstrs'] (w.heap.size + 1) (by simp)
  go_enter Tryz.func13, Tryz.ntmps13
  go_wp2_with fail
  refine (eqCodeRoutineS_any c.routines _ _ _ lo hi lo' hi' (hroutines.below hw0 hhi) (hroutines'.below hw0 hhi') (Nat.le_trans hhi hw0.size) (Nat.le_trans hhi' hw0.size)).mono ?_; rintro e w1 ⟨rfl, hb1⟩
  have hw1 : Below w.heap.size w w1 := hw0.trans (hb1.mono hw0.size)
  have a1 := a0.later hb1
  have e1 := e0.later hb1
  have ca := a1.cell
  have ce := e1.cell
  have la := a1.lt
  have le := e1.lt
  clear hb1
  go_wp2_with fail
  refine (eqRecordTypeS_any c.records _ _ _ lo hi lo' hi' (hrecords.below hw1 hhi) (hrecords'.below hw1 hhi') (Nat.le_trans hhi hw1.size) (Nat.le_trans hhi' hw1.size)).mono ?_; rintro e w2 ⟨rfl, hb2⟩
  have hw2 : Below w.heap.size w w2 := hw1.trans (hb2.mono hw1.size)
  have a2 := a1.later hb2
  have e2 := e1.later hb2
  clear ca ce la le
  have ca := a2.cell
  have ce := e2.cell
  have la := a2.lt
  have le := e2.lt
  clear hb2
  go_wp2_with fail
  refine (eqStrs_any c.globals _ _ _ lo hi lo' hi' (hglobals.below hw2 hhi) (hglobals'.below hw2 hhi') (Nat.le_trans hhi hw2.size) (Nat.le_trans hhi' hw2.size)).mono ?_; rintro e w3 ⟨rfl, hb3⟩
  have hw3 : Below w.heap.size w w3 := hw2.trans (hb3.mono hw2.size)
  have a3 := a2.later hb3
  have e3 := e2.later hb3
  clear ca ce la le
  have ca := a3.cell
  have ce := e3.cell
  have la := a3.lt
  have le := e3.lt
  clear hb3
  go_wp2_with fail
  refine (eqInstrS_any c.instrs _ _ _ lo hi lo' hi' (hinstrs.below hw3 hhi) (hinstrs'.below hw3 hhi') (Nat.le_trans hhi hw3.size) (Nat.le_trans hhi' hw3.size)).mono ?_; rintro e w4 ⟨rfl, hb4⟩
  have hw4 : Below w.heap.size w w4 := hw3.trans (hb4.mono hw3.size)
  have a4 := a3.later hb4
  have e4 := e3.later hb4
  clear ca ce la le
  have ca := a4.cell
  have ce := e4.cell
  have la := a4.lt
  have le := e4.lt
  clear hb4
  go_wp2_with fail
  go_ret
  exact ⟨rfl, hw4⟩
end Go.Proofs.YtekobbeoaalibaaGreatDoor
end

section
namespace Go.Proofs.YtekobbeoaalibaaGreatDoor
open Go.RowKit
set_option linter.unusedVariables false

set_option maxRecDepth 100000 in
set_option maxHeartbeats 1000000 in
theorem eqEdit_any (c : EditT) (x y : Value) (w : World) (lo hi lo' hi' : Nat) (h : SRep w lo hi EditT.dats x c) (h' : SRep w lo' hi' EditT.dats y c) (hhi : hi ≤ w.heap.size) (hhi' : hi' ≤ w.heap.size) :
    Calls Tryz.prog 61 #[x, y] w fun e w' => e = .returned (.bool true) ∧ Below w.heap.size w w' := by
  obtain rfl := EditT.form h
  obtain rfl := EditT.form h'
  have bkind : (c.kind != c.kind) = false := by simp
  have bplace : (c.place != c.place) = false := by simp
  have hw0 : Below w.heap.size w ((w.alloc (.cells #[Value.int .i64 c.kind, .int .i64 c.place] 46)).alloc (.cells #[Value.int .i64 c.kind, .int .i64 c.place] 46)) := ((Below.refl _ _).alloc (Nat.le_refl _) _).alloc (by simp) _
  have a0 := (Blk.new w 46 #[Value.int .i64 c.kind, .int .i64 c.place]).alloc (.cells #[Value.int .i64 c.kind, .int .i64 c.place] 46)
  have e0 := Blk.newAt (w.alloc (.cells #[Value.int .i64 c.kind, .int .i64 c.place] 46)) 46 #[Value.int .i64 c.kind, .int .i64 c.place] (w.heap.size + 1) (by simp)
  go_enter Tryz.func61, Tryz.ntmps61
  go_wp2_with fail
  go_ret
  exact ⟨rfl, hw0⟩
set_option maxRecDepth 100000 in
set_option maxHeartbeats 1000000 in
theorem eqEditS_any (l : List EditT) (v u : Value) (w : World) (lo hi lo' hi' : Nat) (h : LRep w lo hi 2 EditT.dats v l) (h' : LRep w lo' hi' 2 EditT.dats u l) (hhi : hi ≤ w.heap.size) (hhi' : hi' ≤ w.heap.size) :
    Calls Tryz.prog 25 #[v, u] w fun e w' => e = .returned (.bool true) ∧ Below w.heap.size w w' := by
  obtain ⟨A, cap, rfl, hc1, hc2⟩ := h.shape
  obtain ⟨A', cap', rfl, hc1', hc2'⟩ := h'.shape
  unfold maxLen at hc2 hc2'
  have hne : ((l.length : Int) != (l.length : Int)) = false := by simp
  go_enter Tryz.func25, Tryz.ntmps25
  go_wp2_with fail
  go_loopw [5] (fun i wr => ∃ k : Nat, k ≤ l.length ∧ i = .int .i64 k ∧ Below w.heap.size w wr) (fun i _ => l.length - (intOf i).toNat)
  case atStart => exact ⟨0, Nat.zero_le _, rfl, Below.refl _ _⟩
  case round =>
    obtain ⟨k, hk, rfl, hb⟩ := hrel
    obtain ⟨wo, rfl⟩ : ∃ wo : World, wo = wr := ⟨_, rfl⟩
    have hz := hb.size
    by_cases hlt : k < l.length
    · obtain ⟨c, hc⟩ : ∃ c, l[k]? = some c := ⟨_, List.getElem?_eq_getElem hlt⟩
      obtain ⟨g, off, rfl, hg1, hg2, hmem, hrep, q0, q1⟩ := EditT.at_ (h.below hb hhi) hc
      obtain ⟨g', off', rfl, hg1', hg2', hmem', hrep', p0, p1⟩ := EditT.at_ (h'.below hb hhi') hc
      have e0 : (0 : Int) ≤ (k : Int) := by omega
      have e8 : (k : Int) < (l.length : Int) := by omega
      have y1 : hi ≤ wo.drew.heap.size := Nat.le_trans hhi hz
      have y2 : hi' ≤ wo.drew.heap.size := Nat.le_trans hhi' hz
      have t1 := Nat.lt_of_lt_of_le hg2 y1
      have t2 := Nat.lt_of_lt_of_le hg2' y2
      clear hc hmem hmem'
      go_wp2_with fail
      go_region_held3 (fun w' => (w'.cell? ⟨g, off + k * 2, none⟩ = some (.int .i64 c.kind) ∧ w'.cell? ⟨g, off + k * 2 + 1, none⟩ = some (.int .i64 c.place)) ∧ (w'.cell? ⟨g', off' + k * 2, none⟩ = some (.int .i64 c.kind) ∧ w'.cell? ⟨g', off' + k * 2 + 1, none⟩ = some (.int .i64 c.place)))
        (first | exact ⟨⟨q0, q1⟩, p0, p1⟩ | exact ⟨⟨(hbA.cell t1).trans q0, (hbA.cell t1).trans q1⟩, (hbA.cell t2).trans p0, (hbA.cell t2).trans p1⟩)
        ((go_at_call 61; refine (eqEdit_any c _ _ _ _ _ _ _ (hrep.same (Same.refl _).drew) (hrep'.same (Same.refl _).drew) y1 y2).mono ?_; rintro e wA ⟨rfl, hbA⟩))
      have hb2 : Below w.heap.size w wA := hb.drew.trans (hbA.mono hz)
      clear hrep hrep' q0 q1 p0 p1
      go_wp2_with fail
      go_roundw
      case rel => exact ⟨k + 1, by omega, by go_num, hb2⟩
      case measure => simp [intOf]; omega
    · obtain rfl : k = l.length := by omega
      go_wp2_with fail
      go_ret
      exact ⟨rfl, hb⟩
end Go.Proofs.YtekobbeoaalibaaGreatDoor
end
