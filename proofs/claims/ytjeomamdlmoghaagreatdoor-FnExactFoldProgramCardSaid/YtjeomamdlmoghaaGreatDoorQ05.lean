/- LawsP: several texts in one. -/
import Derived.Test.YtjeomamdlmoghaaGreatDoorQ00
import Derived.Test.YtjeomamdlmoghaaGreatDoorQ02
import Derived.Test.YtjeomamdlmoghaaGreatDoorQ03
import Derived.Test.YtjeomamdlmoghaaGreatDoorQ04
import Derived.Test.YtjeomamdlmoghaaGreatDoorProg
import Derived.Deep.RegionHeld3
set_option maxRecDepth 100000
set_option maxHeartbeats 8000000
set_option linter.unusedVariables false
set_option linter.unusedSimpArgs false
section
section
namespace Go.Proofs.YtjeomamdlmoghaaGreatDoor
open Go.RowKit
theorem szStrs_any (l : List ByteArray) (v : Value) (left : Int) (w : World) (lo hi : Nat) (h : LRep w lo hi 1 strDats v l) (hhi : hi ≤ w.heap.size) (hl0 : 0 ≤ left) (hl1 : left ≤ 1048576) (hf : ∀ s ∈ l, s.size ≤ 9223372036854775807) :
 Calls Tryz.prog 13 #[v, .int .i64 left] w fun e w' => e = .returned (.int .i64 (leftOf left (l.length + sumOf ByteArray.size l))) ∧ Below w.heap.size w w' := by
 obtain ⟨A, cap, rfl, hc1, hc2⟩ := h.shape
 unfold maxLen at hc2
 have HF := Lib.hid hf
 clear hf
 by_cases hn : left < l.length
 ·go_enter Tryz.func13, Tryz.ntmps13
  go_wp2_with fail
  go_ret
  exact ⟨ret_int (leftOf_no (by omega)).symm, Below.refl _ _⟩
 go_enter Tryz.func13, Tryz.ntmps13
 go_wp2_with fail
 go_loopw [1, 5] (fun t i wr => ∃ k : Nat, k ≤ l.length ∧ i = .int .i64 k ∧ t = .int .i64 (left - l.length - sumOf ByteArray.size (l.take k)) ∧ sumOf ByteArray.size (l.take k) ≤ left - l.length ∧ Same w wr) (fun _ i _ => l.length - (intOf i).toNat)
 case atStart => exact ⟨0, Nat.zero_le _, rfl, by simp [sumOf], by simp [sumOf]; omega, Same.refl _⟩
 case round =>
  obtain ⟨k, hk, rfl, rfl, hle, hb⟩ := hrel
  obtain ⟨wo, rfl⟩ : ∃ wo : World, wo = wr := ⟨_, rfl⟩
  by_cases hlt : k < l.length
  ·obtain ⟨s, hc⟩ : ∃ s, l[k]? = some s := ⟨_, List.getElem?_eq_getElem hlt⟩
   obtain ⟨g, off, rfl, hg1, hg2, q0⟩ := (h.same hb).text hc
   have HB := Lib.hid (sumOf_snoc (b := ByteArray.size) hc)
   have hft := HF.out s (List.mem_of_getElem? hc)
   clear hc
   by_cases hk1 : left - l.length - sumOf ByteArray.size (l.take k) < s.size
   ·go_wp2_with fail
    go_ret
    exact ⟨ret_int (leftOf_no (by have := HB.out; have := sumOf_take_le ByteArray.size l (k + 1); omega)).symm, hb.below _⟩
   ·go_wp2_with fail
    go_roundw
    case rel => exact ⟨k + 1, by omega, by go_num, by rw [HB.out]; go_num, by rw [HB.out]; omega, hb⟩
    case measure => simp [intOf]; omega
  ·obtain rfl : k = l.length := by omega
   rw [List.take_length] at hle ⊢
   go_wp2_with fail
   go_ret
   exact ⟨ret_int (by rw [leftOf_yes (by omega)]; omega), hb.below _⟩
end Go.Proofs.YtjeomamdlmoghaaGreatDoor
end
section
namespace Go.Proofs.YtjeomamdlmoghaaGreatDoor
open Go.RowKit
theorem szRecordType_any (c : RecT) (x : Value) (left : Int) (w : World) (lo hi : Nat) (h : SRep w lo hi RecT.dats x c) (hhi : hi ≤ w.heap.size) (hl0 : 0 ≤ left) (hl1 : left ≤ 1048576) (hf : c.Fits) :
 Calls Tryz.prog 33 #[x, .int .i64 left] w fun e w' => e = .returned (.int .i64 (leftOf left c.bulk)) ∧ Below w.heap.size w w' := by
 obtain ⟨Afields, nfields, rfl, hfields, ufields, mfields⟩ := RecT.form h
 obtain ⟨fname, ffields⟩ := hf
 have HB : Hid (c.bulk = c.name.size + (c.fields.length + sumOf ByteArray.size c.fields)) := rfl
 unfold maxLen at mfields
 have Ffields := Lib.hid ffields
 clear ffields
 have hw0 : Below w.heap.size w (w.alloc (.cells #[Value.string c.name, .slice Afields c.fields.length nfields, .int .i64 c.line] 65)) := (Below.refl _ _).alloc (Nat.le_refl _) _
 by_cases hname1 : left < (c.name.size : Nat)
 ·go_enter Tryz.func33, Tryz.ntmps33
  go_wp2_with fail
  go_ret
  exact ⟨ret_int (leftOf_no (by have := HB.out; omega)).symm, hw0⟩
 go_enter Tryz.func33, Tryz.ntmps33
 go_wp2_with fail
 refine (szStrs_any c.fields _ _ _ lo hi (hfields.below hw0 hhi) (Nat.le_trans hhi hw0.size) (by omega) (by omega) Ffields.out).mono ?_; rintro e w1 ⟨rfl, hb1⟩
 have hw1 : Below w.heap.size w w1 := hw0.trans (hb1.mono hw0.size)
 have a1 := (Blk.new w 65 #[Value.string c.name, .slice Afields c.fields.length nfields, .int .i64 c.line]).later hb1
 have ca := a1.cell
 have la := a1.lt
 by_cases hfields1 : left - (c.name.size : Nat) < ((c.fields.length + sumOf ByteArray.size c.fields) : Nat)
 ·rw [leftOf_no hfields1]
  go_wp2_with fail
  go_ret
  exact ⟨ret_int (leftOf_no (by have := HB.out; omega)).symm, hw1⟩
 rw [leftOf_yes hfields1]
 generalize hL : left - (c.name.size : Nat) - (((c.fields.length + sumOf ByteArray.size c.fields) : Nat) : Int) = left1
 have l1a : left1 ≤ left - (c.name.size : Nat) - ((c.fields.length + sumOf ByteArray.size c.fields) : Nat) := by omega
 have l1b : left - (c.name.size : Nat) - ((c.fields.length + sumOf ByteArray.size c.fields) : Nat) ≤ left1 := by omega
 clear hL
 go_wp2_with fail
 go_ret
 exact ⟨ret_int (by rw [leftOf_yes (by have := HB.out; omega)]; have := HB.out; omega), hw1⟩
theorem szRecordTypeS_any (l : List RecT) (v : Value) (left : Int) (w : World) (lo hi : Nat) (h : LRep w lo hi 3 RecT.dats v l) (hhi : hi ≤ w.heap.size) (hl0 : 0 ≤ left) (hl1 : left ≤ 1048576) (hf : ∀ c ∈ l, c.Fits) :
 Calls Tryz.prog 12 #[v, .int .i64 left] w fun e w' => e = .returned (.int .i64 (leftOf left (l.length + sumOf RecT.bulk l))) ∧ Below w.heap.size w w' := by
 obtain ⟨A, cap, rfl, hc1, hc2⟩ := h.shape
 unfold maxLen at hc2
 have HF := Lib.hid hf
 clear hf
 by_cases hn : left < l.length
 ·go_enter Tryz.func12, Tryz.ntmps12
  go_wp2_with fail
  go_ret
  exact ⟨ret_int (leftOf_no (by omega)).symm, Below.refl _ _⟩
 go_enter Tryz.func12, Tryz.ntmps12
 go_wp2_with fail
 go_loopw [1, 5] (fun t i wr => ∃ k : Nat, k ≤ l.length ∧ i = .int .i64 k ∧ t = .int .i64 (left - l.length - sumOf RecT.bulk (l.take k)) ∧ sumOf RecT.bulk (l.take k) ≤ left - l.length ∧ Below w.heap.size w wr) (fun _ i _ => l.length - (intOf i).toNat)
 case atStart => exact ⟨0, Nat.zero_le _, rfl, by simp [sumOf], by simp [sumOf]; omega, Below.refl _ _⟩
 case round =>
  obtain ⟨k, hk, rfl, rfl, hle, hb⟩ := hrel
  obtain ⟨wo, rfl⟩ : ∃ wo : World, wo = wr := ⟨_, rfl⟩
  have hz := hb.size
  by_cases hlt : k < l.length
  ·obtain ⟨c, hc⟩ : ∃ c, l[k]? = some c := ⟨_, List.getElem?_eq_getElem hlt⟩
   obtain ⟨g, off, Afields, nfields, rfl, hg1, hg2, hmem, hrep, q0, q1, q2⟩ := RecT.at_ (h.below hb hhi) hc
   have HB := Lib.hid (sumOf_snoc (b := RecT.bulk) hc)
   have hft := HF.out c hmem
   clear hc hmem
   go_wp2_with fail
   refine (szRecordType_any c _ _ _ _ _ hrep (by omega) (by omega) (by omega) hft).mono ?_; rintro e w1 ⟨rfl, hb1⟩
   have hb2 := hb.trans (hb1.mono hz)
   clear hrep q0 q1 q2
   by_cases hk1 : left - l.length - sumOf RecT.bulk (l.take k) < c.bulk
   ·rw [leftOf_no hk1]
    go_wp2_with fail
    go_ret
    exact ⟨ret_int (leftOf_no (by have := HB.out; have := sumOf_take_le RecT.bulk l (k + 1); omega)).symm, hb2⟩
   ·rw [leftOf_yes hk1]
    go_wp2_with fail
    go_roundw
    case rel => exact ⟨k + 1, by omega, by go_num, by rw [HB.out]; go_num, by rw [HB.out]; omega, hb2⟩
    case measure => simp [intOf]; omega
  ·obtain rfl : k = l.length := by omega
   rw [List.take_length] at hle ⊢
   go_wp2_with fail
   go_ret
   exact ⟨ret_int (by rw [leftOf_yes (by omega)]; omega), hb⟩
end Go.Proofs.YtjeomamdlmoghaaGreatDoor
end
section
namespace Go.Proofs.YtjeomamdlmoghaaGreatDoor
open Go.RowKit
def SzOk (c : CoreT) : Prop := ∀ (x : Value) (left : Int) (w : World) (lo hi : Nat), CRep w lo hi x c → hi ≤ w.heap.size → 0 ≤ left → left ≤ 1048576 → c.Fits →
 Calls Tryz.prog 60 #[x, .int .i64 left] w fun e w' => e = .returned (.int .i64 (leftOf left c.bulk)) ∧ Below w.heap.size w w'
theorem szCoreS_of (l : List CoreT) (H : ∀ c ∈ l, SzOk c) (v : Value) (left : Int) (w : World) (lo hi : Nat) (h : KRep w lo hi v l) (hhi : hi ≤ w.heap.size) (hl0 : 0 ≤ left) (hl1 : left ≤ 1048576) (hf : ∀ c ∈ l, c.Fits) :
 Calls Tryz.prog 86 #[v, .int .i64 left] w fun e w' => e = .returned (.int .i64 (leftOf left (l.length + bulkL l))) ∧ Below w.heap.size w w' := by
 obtain ⟨A, c, rfl, hc1, hc2⟩ := h.shape
 unfold maxLen at hc2
 have HH := Lib.hid H
 have HF := Lib.hid hf
 clear H hf
 by_cases hn : left < l.length
 ·go_enter Tryz.func86, Tryz.ntmps86
  go_wp2_with fail
  go_ret
  exact ⟨ret_int (leftOf_no (by omega)).symm, Below.refl _ _⟩
 go_enter Tryz.func86, Tryz.ntmps86
 go_wp2_with fail
 go_loopw [1, 5] (fun t i wr => ∃ k : Nat, k ≤ l.length ∧ i = .int .i64 k ∧ t = .int .i64 (left - l.length - bulkL (l.take k)) ∧ bulkL (l.take k) ≤ left - l.length ∧ Below w.heap.size w wr) (fun _ i _ => l.length - (intOf i).toNat)
 case atStart => exact ⟨0, Nat.zero_le _, rfl, by simp [bulkL], by simp [bulkL]; omega, Below.refl _ _⟩
 case round =>
  obtain ⟨k, hk, rfl, rfl, hle, hb⟩ := hrel
  obtain ⟨wo, rfl⟩ : ∃ wo : World, wo = wr := ⟨_, rfl⟩
  have hz := hb.size
  by_cases hlt : k < l.length
  ·obtain ⟨g, off, kd, B, d, rfl, hg1, hg2, hkd, hmem, hrep, c0, c1, c2, c3, c4, c5⟩ := (h.below hb hhi).kid hlt
   have HB := Lib.hid (bulkL_snoc hkd)
   have hs := HH.out kd hmem
   have hft := HF.out kd hmem
   clear hkd
   go_wp2_with fail
   refine (hs _ _ _ _ _ hrep (by omega) (by omega) (by omega) hft).mono ?_; rintro e w1 ⟨rfl, hb1⟩
   have hb2 := hb.trans (hb1.mono hz)
   clear c0 c1 c2 c3 c4 c5 hrep
   by_cases hk1 : left - l.length - bulkL (l.take k) < kd.bulk
   ·rw [leftOf_no hk1]
    go_wp2_with fail
    go_ret
    exact ⟨ret_int (leftOf_no (by have := HB.out; have := bulkL_take_le l (k + 1); omega)).symm, hb2⟩
   ·rw [leftOf_yes hk1]
    go_wp2_with fail
    go_roundw
    case rel => exact ⟨k + 1, by omega, by go_num, by rw [HB.out]; go_num, by rw [HB.out]; omega, hb2⟩
    case measure => simp [intOf]; omega
  ·obtain rfl : k = l.length := by omega
   rw [List.take_length] at hle ⊢
   go_wp2_with fail
   go_ret
   exact ⟨ret_int (by rw [leftOf_yes (by omega)]; omega), hb⟩
theorem szCore_of (c : CoreT) (H : ∀ x ∈ c.kids, SzOk x) : SzOk c := by
 intro x left w lo hi h hhi hl0 hl1 hf
 obtain ⟨A, cap, rfl, hk, -, -⟩ := h.form
 have ht := hf.text
 have HK := Lib.hid (szCoreS_of c.kids H)
 have HF := Lib.hid hf.kids
 have HB := Lib.hid c.bulk_eq
 clear H hf h
 by_cases h1 : left < c.text.size
 ·go_enter Tryz.func60, Tryz.ntmps60
  go_wp2_with fail
  go_ret
  exact ⟨ret_int (leftOf_no (by have := HB.out; omega)).symm, (Below.refl _ _).alloc (Nat.le_refl _) _⟩
 go_enter Tryz.func60, Tryz.ntmps60
 go_wp2_with fail
 refine (HK.out _ _ _ _ _ (hk.alloc hhi _) (by simp; omega) (by omega) (by omega) HF.out).mono ?_; rintro e w1 ⟨rfl, hb1⟩
 have hw1 : Below w.heap.size w w1 := ((Below.refl _ _).alloc (Nat.le_refl _) _).trans (hb1.mono (by simp))
 by_cases h2 : left - c.text.size < ((c.kids.length + bulkL c.kids : Nat) : Int)
 ·rw [leftOf_no h2]
  go_wp2_with fail
  go_ret
  exact ⟨ret_int (leftOf_no (by have := HB.out; omega)).symm, hw1⟩
 ·rw [leftOf_yes h2]
  go_wp2_with fail
  go_ret
  exact ⟨ret_int (by rw [leftOf_yes (by have := HB.out; omega)]; have := HB.out; omega), hw1⟩
theorem szCore_any (c : CoreT) : SzOk c := CoreT.ind szCore_of c
end Go.Proofs.YtjeomamdlmoghaaGreatDoor
end
section
namespace Go.Proofs.YtjeomamdlmoghaaGreatDoor
open Go.RowKit
theorem szRoutine_any (c : RouT) (x : Value) (left : Int) (w : World) (lo hi : Nat) (h : SRep w lo hi RouT.dats x c) (hhi : hi ≤ w.heap.size) (hl0 : 0 ≤ left) (hl1 : left ≤ 1048576) (hf : c.Fits) :
 Calls Tryz.prog 32 #[x, .int .i64 left] w fun e w' => e = .returned (.int .i64 (leftOf left c.bulk)) ∧ Below w.heap.size w w' := by
 obtain ⟨Aslots, nslots, Abody_kids, nbody_kids, rfl, hslots, uslots, mslots, hbody_kids, ubody_kids, mbody_kids⟩ := RouT.form h
 obtain ⟨fname, fslots, fbody⟩ := hf
 have HB : Hid (c.bulk = c.name.size + (c.slots.length + sumOf ByteArray.size c.slots) + c.body.bulk) := rfl
 unfold maxLen at mslots
 unfold maxLen at mbody_kids
 have Fslots := Lib.hid fslots
 clear fslots
 have Fbody := Lib.hid fbody
 clear fbody
 have hw0 : Below w.heap.size w (w.alloc (.cells #[Value.string c.name, .int .i64 c.params, .slice Aslots c.slots.length nslots, .int .i64 c.body_kind, .int .i64 c.body_op, .int .i64 c.body_number, .int .i64 c.body_line, .string c.body_text, .slice Abody_kids c.body_kids.length nbody_kids] 62)) := (Below.refl _ _).alloc (Nat.le_refl _) _
 by_cases hname1 : left < (c.name.size : Nat)
 ·go_enter Tryz.func32, Tryz.ntmps32
  go_wp2_with fail
  go_ret
  exact ⟨ret_int (leftOf_no (by have := HB.out; omega)).symm, hw0⟩
 go_enter Tryz.func32, Tryz.ntmps32
 go_wp2_with fail
 refine (szStrs_any c.slots _ _ _ lo hi (hslots.below hw0 hhi) (Nat.le_trans hhi hw0.size) (by omega) (by omega) Fslots.out).mono ?_; rintro e w1 ⟨rfl, hb1⟩
 have hw1 : Below w.heap.size w w1 := hw0.trans (hb1.mono hw0.size)
 have a1 := (Blk.new w 62 #[Value.string c.name, .int .i64 c.params, .slice Aslots c.slots.length nslots, .int .i64 c.body_kind, .int .i64 c.body_op, .int .i64 c.body_number, .int .i64 c.body_line, .string c.body_text, .slice Abody_kids c.body_kids.length nbody_kids]).later hb1
 have ca := a1.cell
 have la := a1.lt
 by_cases hslots1 : left - (c.name.size : Nat) < ((c.slots.length + sumOf ByteArray.size c.slots) : Nat)
 ·rw [leftOf_no hslots1]
  go_wp2_with fail
  go_ret
  exact ⟨ret_int (leftOf_no (by have := HB.out; omega)).symm, hw1⟩
 rw [leftOf_yes hslots1]
 generalize hL : left - (c.name.size : Nat) - (((c.slots.length + sumOf ByteArray.size c.slots) : Nat) : Int) = left1
 have l1a : left1 ≤ left - (c.name.size : Nat) - ((c.slots.length + sumOf ByteArray.size c.slots) : Nat) := by omega
 have l1b : left - (c.name.size : Nat) - ((c.slots.length + sumOf ByteArray.size c.slots) : Nat) ≤ left1 := by omega
 clear hL
 go_wp2_with fail
 refine (szCore_any c.body _ _ _ lo hi (CoreT.mk_ (hbody_kids.below hw1 hhi)) (Nat.le_trans hhi hw1.size) (by omega) (by omega) Fbody.out).mono ?_; rintro e w2 ⟨rfl, hb2⟩
 have hw2 : Below w.heap.size w w2 := hw1.trans (hb2.mono hw1.size)
 have a2 := a1.later hb2
 clear ca la
 have ca := a2.cell
 have la := a2.lt
 by_cases hbody1 : left1 < (c.body.bulk : Nat)
 ·rw [leftOf_no hbody1]
  go_wp2_with fail
  go_ret
  exact ⟨ret_int (leftOf_no (by have := HB.out; omega)).symm, hw2⟩
 rw [leftOf_yes hbody1]
 generalize hL : left1 - ((c.body.bulk : Nat) : Int) = left2
 have l2a : left2 ≤ left1 - (c.body.bulk : Nat) := by omega
 have l2b : left1 - (c.body.bulk : Nat) ≤ left2 := by omega
 clear hL
 go_wp2_with fail
 go_ret
 exact ⟨ret_int (by rw [leftOf_yes (by have := HB.out; omega)]; have := HB.out; omega), hw2⟩
theorem szRoutineS_any (l : List RouT) (v : Value) (left : Int) (w : World) (lo hi : Nat) (h : LRep w lo hi 9 RouT.dats v l) (hhi : hi ≤ w.heap.size) (hl0 : 0 ≤ left) (hl1 : left ≤ 1048576) (hf : ∀ c ∈ l, c.Fits) :
 Calls Tryz.prog 11 #[v, .int .i64 left] w fun e w' => e = .returned (.int .i64 (leftOf left (l.length + sumOf RouT.bulk l))) ∧ Below w.heap.size w w' := by
 obtain ⟨A, cap, rfl, hc1, hc2⟩ := h.shape
 unfold maxLen at hc2
 have HF := Lib.hid hf
 clear hf
 by_cases hn : left < l.length
 ·go_enter Tryz.func11, Tryz.ntmps11
  go_wp2_with fail
  go_ret
  exact ⟨ret_int (leftOf_no (by omega)).symm, Below.refl _ _⟩
 go_enter Tryz.func11, Tryz.ntmps11
 go_wp2_with fail
 go_loopw [1, 5] (fun t i wr => ∃ k : Nat, k ≤ l.length ∧ i = .int .i64 k ∧ t = .int .i64 (left - l.length - sumOf RouT.bulk (l.take k)) ∧ sumOf RouT.bulk (l.take k) ≤ left - l.length ∧ Below w.heap.size w wr) (fun _ i _ => l.length - (intOf i).toNat)
 case atStart => exact ⟨0, Nat.zero_le _, rfl, by simp [sumOf], by simp [sumOf]; omega, Below.refl _ _⟩
 case round =>
  obtain ⟨k, hk, rfl, rfl, hle, hb⟩ := hrel
  obtain ⟨wo, rfl⟩ : ∃ wo : World, wo = wr := ⟨_, rfl⟩
  have hz := hb.size
  by_cases hlt : k < l.length
  ·obtain ⟨c, hc⟩ : ∃ c, l[k]? = some c := ⟨_, List.getElem?_eq_getElem hlt⟩
   obtain ⟨g, off, Aslots, nslots, Abody_kids, nbody_kids, rfl, hg1, hg2, hmem, hrep, q0, q1, q2, q3, q4, q5, q6, q7, q8⟩ := RouT.at_ (h.below hb hhi) hc
   have HB := Lib.hid (sumOf_snoc (b := RouT.bulk) hc)
   have hft := HF.out c hmem
   clear hc hmem
   go_wp2_with fail
   refine (szRoutine_any c _ _ _ _ _ hrep (by omega) (by omega) (by omega) hft).mono ?_; rintro e w1 ⟨rfl, hb1⟩
   have hb2 := hb.trans (hb1.mono hz)
   clear hrep q0 q1 q2 q3 q4 q5 q6 q7 q8
   by_cases hk1 : left - l.length - sumOf RouT.bulk (l.take k) < c.bulk
   ·rw [leftOf_no hk1]
    go_wp2_with fail
    go_ret
    exact ⟨ret_int (leftOf_no (by have := HB.out; have := sumOf_take_le RouT.bulk l (k + 1); omega)).symm, hb2⟩
   ·rw [leftOf_yes hk1]
    go_wp2_with fail
    go_roundw
    case rel => exact ⟨k + 1, by omega, by go_num, by rw [HB.out]; go_num, by rw [HB.out]; omega, hb2⟩
    case measure => simp [intOf]; omega
  ·obtain rfl : k = l.length := by omega
   rw [List.take_length] at hle ⊢
   go_wp2_with fail
   go_ret
   exact ⟨ret_int (by rw [leftOf_yes (by omega)]; omega), hb⟩
end Go.Proofs.YtjeomamdlmoghaaGreatDoor
end
section
namespace Go.Proofs.YtjeomamdlmoghaaGreatDoor
open Go.RowKit
theorem szProgram_any (c : ProgT) (x : Value) (left : Int) (w : World) (lo hi : Nat) (h : SRep w lo hi ProgT.dats x c) (hhi : hi ≤ w.heap.size) (hl0 : 0 ≤ left) (hl1 : left ≤ 1048576) (hf : c.Fits) :
 Calls Tryz.prog 4 #[x, .int .i64 left] w fun e w' => e = .returned (.int .i64 (leftOf left c.bulk)) ∧ Below w.heap.size w w' := by
 obtain ⟨Aroutines, nroutines, Arecords, nrecords, Aglobals, nglobals, rfl, hroutines, uroutines, mroutines, hrecords, urecords, mrecords, hglobals, uglobals, mglobals⟩ := ProgT.form h
 obtain ⟨froutines, frecords, fglobals⟩ := hf
 have HB : Hid (c.bulk = (c.routines.length + sumOf RouT.bulk c.routines) + (c.records.length + sumOf RecT.bulk c.records) + (c.globals.length + sumOf ByteArray.size c.globals)) := rfl
 unfold maxLen at mroutines
 unfold maxLen at mrecords
 unfold maxLen at mglobals
 have Froutines := Lib.hid froutines
 clear froutines
 have Frecords := Lib.hid frecords
 clear frecords
 have Fglobals := Lib.hid fglobals
 clear fglobals
 have hw0 : Below w.heap.size w (w.alloc (.cells #[Value.slice Aroutines c.routines.length nroutines, .slice Arecords c.records.length nrecords, .slice Aglobals c.globals.length nglobals, .int .i64 c.main] 26)) := (Below.refl _ _).alloc (Nat.le_refl _) _
 go_enter Tryz.func4, Tryz.ntmps4
 go_wp2_with fail
 refine (szRoutineS_any c.routines _ _ _ lo hi (hroutines.below hw0 hhi) (Nat.le_trans hhi hw0.size) (by omega) (by omega) Froutines.out).mono ?_; rintro e w1 ⟨rfl, hb1⟩
 have hw1 : Below w.heap.size w w1 := hw0.trans (hb1.mono hw0.size)
 have a1 := (Blk.new w 26 #[Value.slice Aroutines c.routines.length nroutines, .slice Arecords c.records.length nrecords, .slice Aglobals c.globals.length nglobals, .int .i64 c.main]).later hb1
 have ca := a1.cell
 have la := a1.lt
 by_cases hroutines1 : left < ((c.routines.length + sumOf RouT.bulk c.routines) : Nat)
 ·rw [leftOf_no hroutines1]
  go_wp2_with fail
  go_ret
  exact ⟨ret_int (leftOf_no (by have := HB.out; omega)).symm, hw1⟩
 rw [leftOf_yes hroutines1]
 generalize hL : left - (((c.routines.length + sumOf RouT.bulk c.routines) : Nat) : Int) = left1
 have l1a : left1 ≤ left - ((c.routines.length + sumOf RouT.bulk c.routines) : Nat) := by omega
 have l1b : left - ((c.routines.length + sumOf RouT.bulk c.routines) : Nat) ≤ left1 := by omega
 clear hL
 go_wp2_with fail
 refine (szRecordTypeS_any c.records _ _ _ lo hi (hrecords.below hw1 hhi) (Nat.le_trans hhi hw1.size) (by omega) (by omega) Frecords.out).mono ?_; rintro e w2 ⟨rfl, hb2⟩
 have hw2 : Below w.heap.size w w2 := hw1.trans (hb2.mono hw1.size)
 have a2 := a1.later hb2
 clear ca la
 have ca := a2.cell
 have la := a2.lt
 by_cases hrecords1 : left1 < ((c.records.length + sumOf RecT.bulk c.records) : Nat)
 ·rw [leftOf_no hrecords1]
  go_wp2_with fail
  go_ret
  exact ⟨ret_int (leftOf_no (by have := HB.out; omega)).symm, hw2⟩
 rw [leftOf_yes hrecords1]
 generalize hL : left1 - (((c.records.length + sumOf RecT.bulk c.records) : Nat) : Int) = left2
 have l2a : left2 ≤ left1 - ((c.records.length + sumOf RecT.bulk c.records) : Nat) := by omega
 have l2b : left1 - ((c.records.length + sumOf RecT.bulk c.records) : Nat) ≤ left2 := by omega
 clear hL
 go_wp2_with fail
 refine (szStrs_any c.globals _ _ _ lo hi (hglobals.below hw2 hhi) (Nat.le_trans hhi hw2.size) (by omega) (by omega) Fglobals.out).mono ?_; rintro e w3 ⟨rfl, hb3⟩
 have hw3 : Below w.heap.size w w3 := hw2.trans (hb3.mono hw2.size)
 have a3 := a2.later hb3
 clear ca la
 have ca := a3.cell
 have la := a3.lt
 by_cases hglobals1 : left2 < ((c.globals.length + sumOf ByteArray.size c.globals) : Nat)
 ·rw [leftOf_no hglobals1]
  go_wp2_with fail
  go_ret
  exact ⟨ret_int (leftOf_no (by have := HB.out; omega)).symm, hw3⟩
 rw [leftOf_yes hglobals1]
 generalize hL : left2 - (((c.globals.length + sumOf ByteArray.size c.globals) : Nat) : Int) = left3
 have l3a : left3 ≤ left2 - ((c.globals.length + sumOf ByteArray.size c.globals) : Nat) := by omega
 have l3b : left2 - ((c.globals.length + sumOf ByteArray.size c.globals) : Nat) ≤ left3 := by omega
 clear hL
 go_wp2_with fail
 go_ret
 exact ⟨ret_int (by rw [leftOf_yes (by have := HB.out; omega)]; have := HB.out; omega), hw3⟩
end Go.Proofs.YtjeomamdlmoghaaGreatDoor
end
section
namespace Go.Proofs.YtjeomamdlmoghaaGreatDoor
open Go.RowKit
theorem info_strs : (Tryz.prog.info? 9).map (fun i => (i.zero, i.size, i.bytes)) = some (some (.string ⟨#[]⟩), 1, 16) := by kernel_rfl
def OwnStrs (l : List ByteArray) (w : World) (e : Ending) (w' : World) : Prop := ∃ v, e = .returned v ∧ w'.ownsRow w.heap.size 9 1 v l.length (l.map .string) ∧ Below w.heap.size w w'
theorem toStrs_own (v : Value) (l : List ByteArray) (w : World) {lo hi : Nat} (h : Rds w lo hi 1 v l.length (l.map .string)) (hhi : hi ≤ w.heap.size) (hl : l.length ≤ 1048576) :
 Calls Tryz.prog 19 #[v] w (OwnStrs l w) := by
 obtain ⟨i0, hi0, hz0, hz1, hz2⟩ := info_parts info_strs
 obtain ⟨A, c, rfl, hc1, hc2, -⟩ := h.shape
 unfold maxLen at hc2
 go_enter Tryz.func19, Tryz.ntmps19
 go_wp2_with (first | (at_make; refine wpList_make_full w rfl (.tmp 6) (.tmp 6) 24 rfl w.heap.size 9 i0 _ 1 Tryz.underlying24 hi0 hz0 hz1 .i64 .i64 _ _ l.length rfl rfl rfl rfl (by rw [hz2]; omega) (by unfold maxLen; omega) (Nat.le_refl _) ?_))
 intro w1 hown hg
 have hb := below_of_grown hg (Nat.le_refl w.heap.size) (fun g hg => by cases hg)
 obtain ⟨Z, hown⟩ : ∃ Z, w1.ownsRow w.heap.size 9 1 (.slice (some ⟨w.heap.size, 0, none⟩) l.length l.length) l.length Z := ⟨_, hown⟩
 have hzl : (l.map Value.string).length = Z.length := by have := hown.1; rw [List.length_map]; omega
 have Hzl := Lib.hid hzl
 clear hg hzl
 go_wp2_with fail
 go_loopw [4] (fun i wr => ∃ k : Nat, k ≤ l.length ∧ i = .int .i64 k ∧ wr.ownsRow w.heap.size 9 1 (.slice (some ⟨w.heap.size, 0, none⟩) l.length l.length) l.length ((l.map .string).take k ++ Z.drop k) ∧ Below w.heap.size w wr) (fun i _ => l.length - (intOf i).toNat)
 case atStart => exact ⟨0, Nat.zero_le _, rfl, by simpa using hown, hb⟩
 case round =>
  obtain ⟨k, hk, rfl, ho, hbw⟩ := hrel
  by_cases hlt : k < l.length
  ·obtain ⟨g, off, x, rfl, -, hgh, hx, hcell⟩ := (h.below hbw hhi).atMap hlt
   have hne : g ≠ w.heap.size := by omega
   have hx' : (l.map Value.string)[k]? = some (.string x) := by rw [List.getElem?_map, hx]; rfl
   have hfz := ho.frozenAt k
   have hc2 : ∃ u, wr.cell? ⟨w.heap.size, k, none⟩ = some u := by
    have hh := ho.cellAt k (by omega)
    have hll : k < ((l.map Value.string).take k ++ Z.drop k).length := by rw [fill_len Hzl.out (by simpa using hk)]; simpa using hlt
    exact ⟨_, hh.trans (List.getElem?_eq_getElem hll)⟩
   obtain ⟨u, hc2⟩ := hc2
   have hst := ho.stored k (.string x)
   rw [fill_set hx' Hzl.out] at hst
   have H1 := Lib.hid hst
   clear hst hx' hx
   go_wp2_with fail
   go_roundw
   case rel => exact ⟨k + 1, by omega, by go_num, H1.out.1, hbw.setCell (Nat.le_refl _) _⟩
   case measure => simp [intOf]; omega
  ·obtain rfl : k = l.length := by omega
   go_wp2_with fail
   go_ret
   refine ⟨_, rfl, ?_, hbw⟩
   have := fill_all Hzl.out
   rw [List.length_map] at this
   rw [this] at ho
   exact ho
theorem toStrs_made (l : List ByteArray) (v : Value) (w : World) (lo hi : Nat) (h : LRep w lo hi 1 strDats v l) (hhi : hi ≤ w.heap.size) (hl : l.length + sumOf ByteArray.size l ≤ 1048576) :
 Calls Tryz.prog 19 #[v] w (MadeL 1 strDats l w) :=
 (toStrs_own v l w (LRep.rds.1 h) hhi (by omega)).mono fun e w' ⟨u, he, ho, hb⟩ => ⟨u, he, OwnLR.texts ho (Nat.le_refl _), hb⟩
end Go.Proofs.YtjeomamdlmoghaaGreatDoor
end
section
namespace Go.Proofs.YtjeomamdlmoghaaGreatDoor
open Go.RowKit
theorem toRecordType_made (c : RecT) (x : Value) (w : World) (lo hi : Nat) (h : SRep w lo hi RecT.dats x c) (hhi : hi ≤ w.heap.size) (hbk : c.bulk ≤ 1048576) :
 Calls Tryz.prog 43 #[x] w (MadeS RecT.dats c w) := by
 obtain ⟨Afields, nfields, rfl, hfields, ufields, mfields⟩ := RecT.form h
 unfold RecT.bulk at hbk
 unfold maxLen at mfields
 go_enter Tryz.func43, Tryz.ntmps43
 go_wp2_with fail
 have fr0 := TFrm.new w 65 68 #[Value.string c.name, .slice Afields c.fields.length nfields, .int .i64 c.line] #[Value.string ⟨#[]⟩, .slice none 0 0, .int .i64 0] #[Value.string c.name, .slice none 0 0, .int .i64 0]
 refine (toStrs_made c.fields _ _ lo hi (hfields.below fr0.bel hhi) (by simp; omega) (by omega)).mono ?_; rintro e w1 ⟨v1, rfl, r1, hb1⟩
 obtain ⟨B1, m1, rfl, -, -⟩ := r1.rep.shape
 have fr1 := fr0.later hb1
 have z1 : w.heap.size + 3 ≤ w1.heap.size := by have := fr1.var.lt; omega
 have R1 : OwnLR w1 (w.heap.size + 3) w1.heap.size 1 strDats (.slice B1 c.fields.length m1) c.fields := r1.wide (by simp) (Nat.le_refl _)
 have ca := fr1.arg.cell
 have co := fr1.var.cell
 have fo := fr1.var.frozen
 have cr := fr1.res.cell
 have fr' := fr1.res.frozen
 clear hb1 r1
 have la := fr1.arg.lt
 have lv := fr1.var.lt
 go_wp2_with fail
 refine bodyPost_ret (v := .agg #[Value.string c.name, .slice B1 c.fields.length m1, .int .i64 c.line]) ?_ rfl ⟨[Value.string c.name, .slice B1 c.fields.length m1, .int .i64 c.line], rfl, (.str_ (.row_ (mid := w1.heap.size) ?_ (.int_ .nil_) (by omega) (by simp [World.setCell] <;> omega))), ?_⟩
 ·simp [results, Tryz.results43, go_sem, cr]
 ·refine OwnLR.wide (lo := w.heap.size + 3) (hi := w1.heap.size) ?_ (by omega) (Nat.le_refl _)
  iterate 5 refine OwnLR.setFar ?_ (.inl (by simp <;> omega)) _
  exact R1
 ·iterate 5 refine Below.setCell ?_ (by simp <;> omega) _
  exact fr1.bel
theorem info_RecT : (Tryz.prog.info? 68).map (fun i => (i.zero, i.size, i.bytes)) = some (some (.agg #[.string ⟨#[]⟩, .slice none 0 0, .int .i64 0]), 3, 48) := by kernel_rfl
theorem toRecordTypeS_made (l : List RecT) (v : Value) (w : World) (lo hi : Nat) (h : LRep w lo hi 3 RecT.dats v l) (hhi : hi ≤ w.heap.size) (hl : l.length + sumOf RecT.bulk l ≤ 1048576) :
 Calls Tryz.prog 18 #[v] w (MadeL 3 RecT.dats l w) := by
 obtain ⟨i0, hi0, hz0, hz1, hz2⟩ := info_parts info_RecT
 obtain ⟨A, cap, rfl, hc1, hc2⟩ := h.shape
 unfold maxLen at hc2
 go_enter Tryz.func18, Tryz.ntmps18
 go_wp2_with (first | (at_make; refine wpList_make_full w rfl (.tmp 6) (.tmp 6) 29 rfl w.heap.size 68 i0 _ 3 Tryz.underlying29 hi0 hz0 hz1 .i64 .i64 _ _ l.length rfl rfl rfl rfl (by rw [hz2]; omega) (by unfold maxLen; omega) (Nat.le_refl _) ?_))
 intro w1 hown hg
 have hb := below_of_grown hg (Nat.le_refl w.heap.size) (fun g hg => by cases hg)
 have hz : w.heap.size + 1 ≤ w1.heap.size := (hown.lt _ rfl).2
 obtain ⟨Z, hown⟩ : ∃ Z, w1.ownsRow w.heap.size 68 3 (.slice (some ⟨w.heap.size, 0, none⟩) l.length l.length) l.length Z := ⟨_, hown⟩
 have HZ := Lib.hid hown.1
 clear hg
 go_wp2_with fail
 go_loopw [4] (fun i wr => ∃ (k : Nat) (vs : List Value), k ≤ l.length ∧ i = .int .i64 k ∧ wr.ownsRow w.heap.size 68 3 (.slice (some ⟨w.heap.size, 0, none⟩) l.length l.length) l.length (vs ++ Z.drop (k * 3)) ∧ OwnR wr (w.heap.size + 1) wr.heap.size (flat RecT.dats (l.take k)) vs ∧ Below w.heap.size w wr ∧ w.heap.size + 1 ≤ wr.heap.size) (fun i _ => l.length - (intOf i).toNat)
 case atStart => exact ⟨0, [], Nat.zero_le _, rfl, by simpa using hown, by simp only [List.take_zero, flat_nil]; exact .nil_, hb, hz⟩
 case round =>
  clear hown hb hz
  obtain ⟨k, vs, hk, rfl, hown, hrep, hb, hz⟩ := hrel
  obtain ⟨wo, rfl⟩ : ∃ wo : World, wo = wr := ⟨_, rfl⟩
  have hvs : vs.length = k * 3 := by rw [hrep.len, flat_len RecT.dats_len, List.length_take, Nat.min_eq_left hk]
  have HV := Lib.hid hvs
  clear hvs
  by_cases hlt : k < l.length
  ·obtain ⟨c, hc⟩ : ∃ c, l[k]? = some c := ⟨_, List.getElem?_eq_getElem hlt⟩
   obtain ⟨g, off, Afields, nfields, rfl, hg1, hg2, hmem, hcr, q0, q1, q2⟩ := RecT.at_ (h.below hb hhi) hc
   have HD := Lib.hid (flat_snoc (f := RecT.dats) hc)
   have hbm := sumOf_mem (b := RecT.bulk) hmem
   clear hc hmem
   go_wp2_with fail
   refine (toRecordType_made c _ _ _ _ hcr (by omega) (by omega)).mono ?_; rintro e w1 ⟨cs, rfl, hx, hb1⟩
   obtain ⟨Afields', nfields', hcs, _, _, _⟩ := RecT.form ⟨cs, rfl, hx.rep⟩
   obtain rfl : cs = [Value.string c.name, .slice Afields' c.fields.length nfields', .int .i64 c.line] := congrArg Array.toList (Value.agg.inj hcs)
   have z1 := hb1.size
   have hown1 := own_later hown hb1
   have hrep1 := (hrep.below hb1 (Nat.le_refl _)).app hx hz z1
   have hb2 := hb.trans (hb1.mono (by omega))
   clear hown hrep hx hb1 hb hcr q0 q1 q2
   obtain ⟨⟨o0, d0⟩, f0⟩ := own_at hown1 (k * 3) (by omega)
   obtain ⟨⟨o1, d1⟩, f1⟩ := own_at hown1 (k * 3 + 1) (by omega)
   obtain ⟨⟨o2, d2⟩, f2⟩ := own_at hown1 (k * 3 + 2) (by omega)
   have own2 := own_putAll [Value.string c.name, .slice Afields' c.fields.length nfields', .int .i64 c.line] _ _ (k * 3) hown1
   rw [setAll_fill _ _ _ HV.out (by rw [HZ.out]; simp; omega)] at own2
   have rep2 := OwnR.putAll (g := w.heap.size) (.inl (Nat.lt_succ_self _)) [Value.string c.name, .slice Afields' c.fields.length nfields', .int .i64 c.line] _ (k * 3) hrep1
   have bel2 := below_putAll (Nat.le_refl w.heap.size) [Value.string c.name, .slice Afields' c.fields.length nfields', .int .i64 c.line] _ _ (k * 3) hb2
   have siz2 := putAll_size w.heap.size [Value.string c.name, .slice Afields' c.fields.length nfields', .int .i64 c.line] w1 (k * 3)
   simp only [putAll, Nat.add_assoc, Nat.reduceAdd, List.length_cons, List.length_nil] at own2 rep2 bel2 siz2
   have O2 := Lib.hid own2
   have R2 := Lib.hid rep2
   have S2 := Lib.hid siz2
   clear own2 rep2 hown1 hrep1 siz2 hcs
   go_wp2_with fail
   go_roundw
   case rel =>
    refine ⟨k + 1, vs ++ [Value.string c.name, .slice Afields' c.fields.length nfields', .int .i64 c.line], by omega, by go_num, ?_, ?_, bel2, by rw [S2.out]; omega⟩
    ·rw [Nat.succ_mul]; exact O2.out
    ·rw [HD.out, S2.out]; exact R2.out
   case measure => simp [intOf]; omega
  ·obtain rfl : k = l.length := by omega
   rw [List.take_length] at hrep
   go_wp2_with fail
   go_ret
   rw [List.drop_eq_nil_of_le (by rw [HZ.out]; exact Nat.le_refl _), List.append_nil] at hown
   exact ⟨_, rfl, OwnLR.mk_ (mid := w.heap.size + 1) hown hrep (by simp [Value.ownBlock]) (by omega) hz, hb⟩
end Go.Proofs.YtjeomamdlmoghaaGreatDoor
end
section
namespace Go.Proofs.YtjeomamdlmoghaaGreatDoor
open Go.RowKit
theorem OwnR.cast {w : World} {lo hi : Nat} {ds es : List Dat} {vs : List Value} (e : ds = es) (h : OwnR w lo hi ds vs) : OwnR w lo hi es vs := e ▸ h
theorem info_CoreT : (Tryz.prog.info? 45).map (fun i => (i.zero, i.size, i.bytes)) = some (some (.agg #[.int .i64 0, .int .i64 0, .int .i64 0, .int .i64 0, .string ⟨#[]⟩, .slice none 0 0]), 6, 72) := by kernel_rfl
def ToMade (c : CoreT) : Prop := ∀ (x : Value) (w : World) (lo hi : Nat) (h : SRep w lo hi CoreT.dats x c) (hhi : hi ≤ w.heap.size) (hbk : c.bulk ≤ 1048576),
 Calls Tryz.prog 72 #[x] w (MadeS CoreT.dats c w)
theorem toCoreS_of (l : List CoreT) (H : ∀ c ∈ l, ToMade c) (v : Value) (w : World) (lo hi : Nat) (h : LRep w lo hi 6 CoreT.dats v l) (hhi : hi ≤ w.heap.size) (hl : l.length + sumOf CoreT.bulk l ≤ 1048576) :
 Calls Tryz.prog 102 #[v] w (MadeL 6 CoreT.dats l w) := by
 have HH := Lib.hid H
 clear H
 obtain ⟨i0, hi0, hz0, hz1, hz2⟩ := info_parts info_CoreT
 obtain ⟨A, cap, rfl, hc1, hc2⟩ := h.shape
 unfold maxLen at hc2
 go_enter Tryz.func102, Tryz.ntmps102
 go_wp2_with (first | (at_make; refine wpList_make_full w rfl (.tmp 6) (.tmp 6) 43 rfl w.heap.size 45 i0 _ 6 Tryz.underlying43 hi0 hz0 hz1 .i64 .i64 _ _ l.length rfl rfl rfl rfl (by rw [hz2]; omega) (by unfold maxLen; omega) (Nat.le_refl _) ?_))
 intro w1 hown hg
 have hb := below_of_grown hg (Nat.le_refl w.heap.size) (fun g hg => by cases hg)
 have hz : w.heap.size + 1 ≤ w1.heap.size := (hown.lt _ rfl).2
 obtain ⟨Z, hown⟩ : ∃ Z, w1.ownsRow w.heap.size 45 6 (.slice (some ⟨w.heap.size, 0, none⟩) l.length l.length) l.length Z := ⟨_, hown⟩
 have HZ := Lib.hid hown.1
 clear hg
 go_wp2_with fail
 go_loopw [4] (fun i wr => ∃ (k : Nat) (vs : List Value), k ≤ l.length ∧ i = .int .i64 k ∧ wr.ownsRow w.heap.size 45 6 (.slice (some ⟨w.heap.size, 0, none⟩) l.length l.length) l.length (vs ++ Z.drop (k * 6)) ∧ OwnR wr (w.heap.size + 1) wr.heap.size (flat CoreT.dats (l.take k)) vs ∧ Below w.heap.size w wr ∧ w.heap.size + 1 ≤ wr.heap.size) (fun i _ => l.length - (intOf i).toNat)
 case atStart => exact ⟨0, [], Nat.zero_le _, rfl, by simpa using hown, by simp only [List.take_zero, flat_nil]; exact .nil_, hb, hz⟩
 case round =>
  clear hown hb hz
  obtain ⟨k, vs, hk, rfl, hown, hrep, hb, hz⟩ := hrel
  obtain ⟨wo, rfl⟩ : ∃ wo : World, wo = wr := ⟨_, rfl⟩
  have hvs : vs.length = k * 6 := by rw [hrep.len, flat_len CoreT.dats_len, List.length_take, Nat.min_eq_left hk]
  have HV := Lib.hid hvs
  clear hvs
  by_cases hlt : k < l.length
  ·obtain ⟨c, hc⟩ : ∃ c, l[k]? = some c := ⟨_, List.getElem?_eq_getElem hlt⟩
   obtain ⟨g, off, Akids, nkids, rfl, hg1, hg2, hmem, hcr, q0, q1, q2, q3, q4, q5⟩ := CoreT.at_ (h.below hb hhi) hc
   have HD := Lib.hid (flat_snoc (f := CoreT.dats) hc)
   have hbm := sumOf_mem (b := CoreT.bulk) hmem
   have hih := HH.out c hmem
   clear hc hmem
   go_wp2_with fail
   refine (hih _ _ _ _ hcr (by omega) (by omega)).mono ?_; rintro e w1 ⟨cs, rfl, hx, hb1⟩
   obtain ⟨Akids', nkids', hcs, _, _, _⟩ := CoreT.form ⟨cs, rfl, hx.rep⟩
   obtain rfl : cs = [Value.int .i64 c.kind, .int .i64 c.op, .int .i64 c.number, .int .i64 c.line, .string c.text, .slice Akids' c.kids.length nkids'] := congrArg Array.toList (Value.agg.inj hcs)
   have z1 := hb1.size
   have hown1 := own_later hown hb1
   have hrep1 := (hrep.below hb1 (Nat.le_refl _)).app hx hz z1
   have hb2 := hb.trans (hb1.mono (by omega))
   clear hown hrep hx hb1 hb hcr q0 q1 q2 q3 q4 q5
   obtain ⟨⟨o0, d0⟩, f0⟩ := own_at hown1 (k * 6) (by omega)
   obtain ⟨⟨o1, d1⟩, f1⟩ := own_at hown1 (k * 6 + 1) (by omega)
   obtain ⟨⟨o2, d2⟩, f2⟩ := own_at hown1 (k * 6 + 2) (by omega)
   obtain ⟨⟨o3, d3⟩, f3⟩ := own_at hown1 (k * 6 + 3) (by omega)
   obtain ⟨⟨o4, d4⟩, f4⟩ := own_at hown1 (k * 6 + 4) (by omega)
   obtain ⟨⟨o5, d5⟩, f5⟩ := own_at hown1 (k * 6 + 5) (by omega)
   have own2 := own_putAll [Value.int .i64 c.kind, .int .i64 c.op, .int .i64 c.number, .int .i64 c.line, .string c.text, .slice Akids' c.kids.length nkids'] _ _ (k * 6) hown1
   rw [setAll_fill _ _ _ HV.out (by rw [HZ.out]; simp; omega)] at own2
   have rep2 := OwnR.putAll (g := w.heap.size) (.inl (Nat.lt_succ_self _)) [Value.int .i64 c.kind, .int .i64 c.op, .int .i64 c.number, .int .i64 c.line, .string c.text, .slice Akids' c.kids.length nkids'] _ (k * 6) hrep1
   have bel2 := below_putAll (Nat.le_refl w.heap.size) [Value.int .i64 c.kind, .int .i64 c.op, .int .i64 c.number, .int .i64 c.line, .string c.text, .slice Akids' c.kids.length nkids'] _ _ (k * 6) hb2
   have siz2 := putAll_size w.heap.size [Value.int .i64 c.kind, .int .i64 c.op, .int .i64 c.number, .int .i64 c.line, .string c.text, .slice Akids' c.kids.length nkids'] w1 (k * 6)
   simp only [putAll, Nat.add_assoc, Nat.reduceAdd, List.length_cons, List.length_nil] at own2 rep2 bel2 siz2
   have O2 := Lib.hid own2
   have R2 := Lib.hid rep2
   have S2 := Lib.hid siz2
   clear own2 rep2 hown1 hrep1 siz2 hcs
   go_wp2_with fail
   go_roundw
   case rel =>
    refine ⟨k + 1, vs ++ [Value.int .i64 c.kind, .int .i64 c.op, .int .i64 c.number, .int .i64 c.line, .string c.text, .slice Akids' c.kids.length nkids'], by omega, by go_num, ?_, ?_, bel2, by rw [S2.out]; omega⟩
    ·rw [Nat.succ_mul]; exact O2.out
    ·rw [HD.out, S2.out]; exact R2.out
   case measure => simp [intOf]; omega
  ·obtain rfl : k = l.length := by omega
   rw [List.take_length] at hrep
   go_wp2_with fail
   go_ret
   rw [List.drop_eq_nil_of_le (by rw [HZ.out]; exact Nat.le_refl _), List.append_nil] at hown
   exact ⟨_, rfl, OwnLR.mk_ (mid := w.heap.size + 1) hown hrep (by simp [Value.ownBlock]) (by omega) hz, hb⟩
theorem toCore_of (c : CoreT) (H : ∀ x ∈ c.kids, ToMade x) : ToMade c := by
 intro x w lo hi h hhi hbk
 have HK := Lib.hid (toCoreS_of c.kids H)
 clear H
 obtain ⟨Akids, nkids, rfl, hkids, ukids, mkids⟩ := CoreT.form h
 rw [CoreT.bulk_eq, bulkL_sum] at hbk
 unfold maxLen at mkids
 go_enter Tryz.func72, Tryz.ntmps72
 go_wp2_with fail
 have fr0 := TFrm.new w 60 45 #[Value.int .i64 c.kind, .int .i64 c.op, .int .i64 c.number, .int .i64 c.line, .string c.text, .slice Akids c.kids.length nkids] #[Value.int .i64 0, .int .i64 0, .int .i64 0, .int .i64 0, .string ⟨#[]⟩, .slice none 0 0] #[Value.int .i64 c.kind, .int .i64 c.op, .int .i64 c.number, .int .i64 c.line, .string c.text, .slice none 0 0]
 refine (HK.out _ _ lo hi (hkids.below fr0.bel hhi) (by simp; omega) (by omega)).mono ?_; rintro e w1 ⟨v1, rfl, r1, hb1⟩
 obtain ⟨B1, m1, rfl, -, -⟩ := r1.rep.shape
 have fr1 := fr0.later hb1
 have z1 : w.heap.size + 3 ≤ w1.heap.size := by have := fr1.var.lt; omega
 have R1 : OwnLR w1 (w.heap.size + 3) w1.heap.size 6 CoreT.dats (.slice B1 c.kids.length m1) c.kids := r1.wide (by simp) (Nat.le_refl _)
 have ca := fr1.arg.cell
 have co := fr1.var.cell
 have fo := fr1.var.frozen
 have cr := fr1.res.cell
 have fr' := fr1.res.frozen
 clear hb1 r1
 have la := fr1.arg.lt
 have lv := fr1.var.lt
 go_wp2_with fail
 refine bodyPost_ret (v := .agg #[Value.int .i64 c.kind, .int .i64 c.op, .int .i64 c.number, .int .i64 c.line, .string c.text, .slice B1 c.kids.length m1]) ?_ rfl ⟨[Value.int .i64 c.kind, .int .i64 c.op, .int .i64 c.number, .int .i64 c.line, .string c.text, .slice B1 c.kids.length m1], rfl, (OwnR.cast (CoreT.dats_g c).symm (.int_ (.int_ (.int_ (.int_ (.str_ (.row_ (mid := w1.heap.size) ?_ .nil_ (by omega) (by first | (simp [World.setCell] <;> omega) | exact Nat.le_refl _ | omega)))))))), ?_⟩
 ·simp [results, Tryz.results72, go_sem, cr]
 ·refine OwnLR.wide (lo := w.heap.size + 3) (hi := w1.heap.size) ?_ (by omega) (Nat.le_refl _)
  iterate 7 refine OwnLR.setFar ?_ (.inl (by simp <;> omega)) _
  exact R1
 ·iterate 7 refine Below.setCell ?_ (by simp <;> omega) _
  exact fr1.bel
theorem toCore_made (c : CoreT) : ToMade c := CoreT.ind toCore_of c
end Go.Proofs.YtjeomamdlmoghaaGreatDoor
end
section
namespace Go.Proofs.YtjeomamdlmoghaaGreatDoor
open Go.RowKit
theorem toRoutine_made (c : RouT) (x : Value) (w : World) (lo hi : Nat) (h : SRep w lo hi RouT.dats x c) (hhi : hi ≤ w.heap.size) (hbk : c.bulk ≤ 1048576) :
 Calls Tryz.prog 42 #[x] w (MadeS RouT.dats c w) := by
 obtain ⟨Aslots, nslots, Abody_kids, nbody_kids, rfl, hslots, uslots, mslots, hbody_kids, ubody_kids, mbody_kids⟩ := RouT.form h
 unfold RouT.bulk at hbk
 unfold maxLen at mslots
 unfold maxLen at mbody_kids
 go_enter Tryz.func42, Tryz.ntmps42
 go_wp2_with fail
 have fr0 := TFrm.new w 62 47 #[Value.string c.name, .int .i64 c.params, .slice Aslots c.slots.length nslots, .int .i64 c.body_kind, .int .i64 c.body_op, .int .i64 c.body_number, .int .i64 c.body_line, .string c.body_text, .slice Abody_kids c.body_kids.length nbody_kids] #[Value.string ⟨#[]⟩, .int .i64 0, .slice none 0 0, .int .i64 0, .int .i64 0, .int .i64 0, .int .i64 0, .string ⟨#[]⟩, .slice none 0 0] #[Value.string c.name, .int .i64 c.params, .slice none 0 0, .int .i64 0, .int .i64 0, .int .i64 0, .int .i64 0, .string ⟨#[]⟩, .slice none 0 0]
 refine (toStrs_made c.slots _ _ lo hi (hslots.below fr0.bel hhi) (by simp; omega) (by omega)).mono ?_; rintro e w1 ⟨v1, rfl, r1, hb1⟩
 obtain ⟨B1, m1, rfl, -, -⟩ := r1.rep.shape
 have fr1 := fr0.later hb1
 have z1 : w.heap.size + 3 ≤ w1.heap.size := by have := fr1.var.lt; omega
 have R1 : OwnLR w1 (w.heap.size + 3) w1.heap.size 1 strDats (.slice B1 c.slots.length m1) c.slots := r1.wide (by simp) (Nat.le_refl _)
 have ca := fr1.arg.cell
 have co := fr1.var.cell
 have fo := fr1.var.frozen
 have cr := fr1.res.cell
 have fr' := fr1.res.frozen
 clear hb1 r1
 have la := fr1.arg.lt
 have lv := fr1.var.lt
 go_wp2_with fail
 refine (toCore_made c.body _ _ lo hi (CoreT.mk_ (hbody_kids.below (fr1.bel.setCell (by simp; omega) _) hhi)) (Nat.le_trans hhi (fr1.bel.setCell (by simp; omega) _).size) (by omega)).mono ?_; rintro e w2 ⟨cs2, rfl, r2, hb2⟩
 obtain ⟨B2_kids, m2_kids, hcs, _, _, _⟩ := CoreT.form ⟨cs2, rfl, r2.rep⟩
 obtain rfl : cs2 = [Value.int .i64 c.body_kind, .int .i64 c.body_op, .int .i64 c.body_number, .int .i64 c.body_line, .string c.body_text, .slice B2_kids c.body_kids.length m2_kids] := congrArg Array.toList (Value.agg.inj hcs)
 clear hcs
 have fr2 := (fr1.set _ _).later hb2
 have z2 : w.heap.size + 3 ≤ w2.heap.size := by have := fr2.var.lt; omega
 rw [CoreT.dats_g] at r2
 have R2 : OwnR w2 w1.heap.size w2.heap.size [Dat.int .i64 c.body_kind, .int .i64 c.body_op, .int .i64 c.body_number, .int .i64 c.body_line, .str c.body_text, .row 6 c.body_kids.length (flat CoreT.dats c.body_kids)] [Value.int .i64 c.body_kind, .int .i64 c.body_op, .int .i64 c.body_number, .int .i64 c.body_line, .string c.body_text, .slice B2_kids c.body_kids.length m2_kids] := OwnR.wide r2 (by simp [World.setCell]) (Nat.le_refl _)
 have y2 : w1.heap.size ≤ w2.heap.size := by have := hb2.size; simpa [World.setCell] using this
 have T1 := OwnLR.below (OwnLR.setFar R1 (.inl (by simp <;> omega)) _) hb2 (by simp [World.setCell] <;> omega)
 clear R1
 have R1 := T1
 clear T1
 clear co fo ca cr fr'
 have ca := fr2.arg.cell
 have co := fr2.var.cell
 have fo := fr2.var.frozen
 have cr := fr2.res.cell
 have fr' := fr2.res.frozen
 clear hb2 r2
 clear la
 have la := fr2.arg.lt
 clear lv
 have lv := fr2.var.lt
 go_wp2_with fail
 refine bodyPost_ret (v := .agg #[Value.string c.name, .int .i64 c.params, .slice B1 c.slots.length m1, .int .i64 c.body_kind, .int .i64 c.body_op, .int .i64 c.body_number, .int .i64 c.body_line, .string c.body_text, .slice B2_kids c.body_kids.length m2_kids]) ?_ rfl ⟨[Value.string c.name, .int .i64 c.params, .slice B1 c.slots.length m1, .int .i64 c.body_kind, .int .i64 c.body_op, .int .i64 c.body_number, .int .i64 c.body_line, .string c.body_text, .slice B2_kids c.body_kids.length m2_kids], rfl, (.str_ (.int_ (.row_ (mid := w1.heap.size) ?_ (OwnR.app (ds := [Dat.int .i64 c.body_kind, .int .i64 c.body_op, .int .i64 c.body_number, .int .i64 c.body_line, .str c.body_text, .row 6 c.body_kids.length (flat CoreT.dats c.body_kids)]) (vs := [Value.int .i64 c.body_kind, .int .i64 c.body_op, .int .i64 c.body_number, .int .i64 c.body_line, .string c.body_text, .slice B2_kids c.body_kids.length m2_kids]) (mid := w2.heap.size) ?_ .nil_ (by omega) (by first | (simp [World.setCell] <;> omega) | exact Nat.le_refl _ | omega)) (by omega) (by first | (simp [World.setCell] <;> omega) | exact Nat.le_refl _ | omega)))), ?_⟩
 ·simp [results, Tryz.results42, go_sem, cr]
 ·refine OwnLR.wide (lo := w.heap.size + 3) (hi := w1.heap.size) ?_ (by omega) (Nat.le_refl _)
  iterate 15 refine OwnLR.setFar ?_ (.inl (by simp <;> omega)) _
  exact R1
 ·refine OwnR.wide (lo := w1.heap.size) (hi := w2.heap.size) ?_ (by omega) (Nat.le_refl _)
  iterate 15 refine OwnR.setFar ?_ (.inl (by simp <;> omega)) _
  exact R2
 ·iterate 15 refine Below.setCell ?_ (by simp <;> omega) _
  exact fr2.bel
theorem info_RouT : (Tryz.prog.info? 47).map (fun i => (i.zero, i.size, i.bytes)) = some (some (.agg #[.string ⟨#[]⟩, .int .i64 0, .slice none 0 0, .int .i64 0, .int .i64 0, .int .i64 0, .int .i64 0, .string ⟨#[]⟩, .slice none 0 0]), 9, 120) := by kernel_rfl
theorem toRoutineS_made (l : List RouT) (v : Value) (w : World) (lo hi : Nat) (h : LRep w lo hi 9 RouT.dats v l) (hhi : hi ≤ w.heap.size) (hl : l.length + sumOf RouT.bulk l ≤ 1048576) :
 Calls Tryz.prog 17 #[v] w (MadeL 9 RouT.dats l w) := by
 obtain ⟨i0, hi0, hz0, hz1, hz2⟩ := info_parts info_RouT
 obtain ⟨A, cap, rfl, hc1, hc2⟩ := h.shape
 unfold maxLen at hc2
 go_enter Tryz.func17, Tryz.ntmps17
 go_wp2_with (first | (at_make; refine wpList_make_full w rfl (.tmp 6) (.tmp 6) 28 rfl w.heap.size 47 i0 _ 9 Tryz.underlying28 hi0 hz0 hz1 .i64 .i64 _ _ l.length rfl rfl rfl rfl (by rw [hz2]; omega) (by unfold maxLen; omega) (Nat.le_refl _) ?_))
 intro w1 hown hg
 have hb := below_of_grown hg (Nat.le_refl w.heap.size) (fun g hg => by cases hg)
 have hz : w.heap.size + 1 ≤ w1.heap.size := (hown.lt _ rfl).2
 obtain ⟨Z, hown⟩ : ∃ Z, w1.ownsRow w.heap.size 47 9 (.slice (some ⟨w.heap.size, 0, none⟩) l.length l.length) l.length Z := ⟨_, hown⟩
 have HZ := Lib.hid hown.1
 clear hg
 go_wp2_with fail
 go_loopw [4] (fun i wr => ∃ (k : Nat) (vs : List Value), k ≤ l.length ∧ i = .int .i64 k ∧ wr.ownsRow w.heap.size 47 9 (.slice (some ⟨w.heap.size, 0, none⟩) l.length l.length) l.length (vs ++ Z.drop (k * 9)) ∧ OwnR wr (w.heap.size + 1) wr.heap.size (flat RouT.dats (l.take k)) vs ∧ Below w.heap.size w wr ∧ w.heap.size + 1 ≤ wr.heap.size) (fun i _ => l.length - (intOf i).toNat)
 case atStart => exact ⟨0, [], Nat.zero_le _, rfl, by simpa using hown, by simp only [List.take_zero, flat_nil]; exact .nil_, hb, hz⟩
 case round =>
  clear hown hb hz
  obtain ⟨k, vs, hk, rfl, hown, hrep, hb, hz⟩ := hrel
  obtain ⟨wo, rfl⟩ : ∃ wo : World, wo = wr := ⟨_, rfl⟩
  have hvs : vs.length = k * 9 := by rw [hrep.len, flat_len RouT.dats_len, List.length_take, Nat.min_eq_left hk]
  have HV := Lib.hid hvs
  clear hvs
  by_cases hlt : k < l.length
  ·obtain ⟨c, hc⟩ : ∃ c, l[k]? = some c := ⟨_, List.getElem?_eq_getElem hlt⟩
   obtain ⟨g, off, Aslots, nslots, Abody_kids, nbody_kids, rfl, hg1, hg2, hmem, hcr, q0, q1, q2, q3, q4, q5, q6, q7, q8⟩ := RouT.at_ (h.below hb hhi) hc
   have HD := Lib.hid (flat_snoc (f := RouT.dats) hc)
   have hbm := sumOf_mem (b := RouT.bulk) hmem
   clear hc hmem
   go_wp2_with fail
   refine (toRoutine_made c _ _ _ _ hcr (by omega) (by omega)).mono ?_; rintro e w1 ⟨cs, rfl, hx, hb1⟩
   obtain ⟨Aslots', nslots', Abody_kids', nbody_kids', hcs, _, _, _, _, _, _⟩ := RouT.form ⟨cs, rfl, hx.rep⟩
   obtain rfl : cs = [Value.string c.name, .int .i64 c.params, .slice Aslots' c.slots.length nslots', .int .i64 c.body_kind, .int .i64 c.body_op, .int .i64 c.body_number, .int .i64 c.body_line, .string c.body_text, .slice Abody_kids' c.body_kids.length nbody_kids'] := congrArg Array.toList (Value.agg.inj hcs)
   have z1 := hb1.size
   have hown1 := own_later hown hb1
   have hrep1 := (hrep.below hb1 (Nat.le_refl _)).app hx hz z1
   have hb2 := hb.trans (hb1.mono (by omega))
   clear hown hrep hx hb1 hb hcr q0 q1 q2 q3 q4 q5 q6 q7 q8
   obtain ⟨⟨o0, d0⟩, f0⟩ := own_at hown1 (k * 9) (by omega)
   obtain ⟨⟨o1, d1⟩, f1⟩ := own_at hown1 (k * 9 + 1) (by omega)
   obtain ⟨⟨o2, d2⟩, f2⟩ := own_at hown1 (k * 9 + 2) (by omega)
   obtain ⟨⟨o3, d3⟩, f3⟩ := own_at hown1 (k * 9 + 3) (by omega)
   obtain ⟨⟨o4, d4⟩, f4⟩ := own_at hown1 (k * 9 + 4) (by omega)
   obtain ⟨⟨o5, d5⟩, f5⟩ := own_at hown1 (k * 9 + 5) (by omega)
   obtain ⟨⟨o6, d6⟩, f6⟩ := own_at hown1 (k * 9 + 6) (by omega)
   obtain ⟨⟨o7, d7⟩, f7⟩ := own_at hown1 (k * 9 + 7) (by omega)
   obtain ⟨⟨o8, d8⟩, f8⟩ := own_at hown1 (k * 9 + 8) (by omega)
   have own2 := own_putAll [Value.string c.name, .int .i64 c.params, .slice Aslots' c.slots.length nslots', .int .i64 c.body_kind, .int .i64 c.body_op, .int .i64 c.body_number, .int .i64 c.body_line, .string c.body_text, .slice Abody_kids' c.body_kids.length nbody_kids'] _ _ (k * 9) hown1
   rw [setAll_fill _ _ _ HV.out (by rw [HZ.out]; simp; omega)] at own2
   have rep2 := OwnR.putAll (g := w.heap.size) (.inl (Nat.lt_succ_self _)) [Value.string c.name, .int .i64 c.params, .slice Aslots' c.slots.length nslots', .int .i64 c.body_kind, .int .i64 c.body_op, .int .i64 c.body_number, .int .i64 c.body_line, .string c.body_text, .slice Abody_kids' c.body_kids.length nbody_kids'] _ (k * 9) hrep1
   have bel2 := below_putAll (Nat.le_refl w.heap.size) [Value.string c.name, .int .i64 c.params, .slice Aslots' c.slots.length nslots', .int .i64 c.body_kind, .int .i64 c.body_op, .int .i64 c.body_number, .int .i64 c.body_line, .string c.body_text, .slice Abody_kids' c.body_kids.length nbody_kids'] _ _ (k * 9) hb2
   have siz2 := putAll_size w.heap.size [Value.string c.name, .int .i64 c.params, .slice Aslots' c.slots.length nslots', .int .i64 c.body_kind, .int .i64 c.body_op, .int .i64 c.body_number, .int .i64 c.body_line, .string c.body_text, .slice Abody_kids' c.body_kids.length nbody_kids'] w1 (k * 9)
   simp only [putAll, Nat.add_assoc, Nat.reduceAdd, List.length_cons, List.length_nil] at own2 rep2 bel2 siz2
   have O2 := Lib.hid own2
   have R2 := Lib.hid rep2
   have S2 := Lib.hid siz2
   clear own2 rep2 hown1 hrep1 siz2 hcs
   go_wp2_with fail
   go_roundw
   case rel =>
    refine ⟨k + 1, vs ++ [Value.string c.name, .int .i64 c.params, .slice Aslots' c.slots.length nslots', .int .i64 c.body_kind, .int .i64 c.body_op, .int .i64 c.body_number, .int .i64 c.body_line, .string c.body_text, .slice Abody_kids' c.body_kids.length nbody_kids'], by omega, by go_num, ?_, ?_, bel2, by rw [S2.out]; omega⟩
    ·rw [Nat.succ_mul]; exact O2.out
    ·rw [HD.out, S2.out]; exact R2.out
   case measure => simp [intOf]; omega
  ·obtain rfl : k = l.length := by omega
   rw [List.take_length] at hrep
   go_wp2_with fail
   go_ret
   rw [List.drop_eq_nil_of_le (by rw [HZ.out]; exact Nat.le_refl _), List.append_nil] at hown
   exact ⟨_, rfl, OwnLR.mk_ (mid := w.heap.size + 1) hown hrep (by simp [Value.ownBlock]) (by omega) hz, hb⟩
end Go.Proofs.YtjeomamdlmoghaaGreatDoor
end
section
namespace Go.Proofs.YtjeomamdlmoghaaGreatDoor
open Go.RowKit
theorem toProgram_made (c : ProgT) (x : Value) (w : World) (lo hi : Nat) (h : SRep w lo hi ProgT.dats x c) (hhi : hi ≤ w.heap.size) (hbk : c.bulk ≤ 1048576) :
 Calls Tryz.prog 6 #[x] w (MadeS ProgT.dats c w) := by
 obtain ⟨Aroutines, nroutines, Arecords, nrecords, Aglobals, nglobals, rfl, hroutines, uroutines, mroutines, hrecords, urecords, mrecords, hglobals, uglobals, mglobals⟩ := ProgT.form h
 unfold ProgT.bulk at hbk
 unfold maxLen at mroutines
 unfold maxLen at mrecords
 unfold maxLen at mglobals
 go_enter Tryz.func6, Tryz.ntmps6
 go_wp2_with fail
 have fr0 := TFrm.new w 26 31 #[Value.slice Aroutines c.routines.length nroutines, .slice Arecords c.records.length nrecords, .slice Aglobals c.globals.length nglobals, .int .i64 c.main] #[Value.slice none 0 0, .slice none 0 0, .slice none 0 0, .int .i64 0] #[Value.slice none 0 0, .slice none 0 0, .slice none 0 0, .int .i64 0]
 refine (toRoutineS_made c.routines _ _ lo hi (hroutines.below fr0.bel hhi) (by simp; omega) (by omega)).mono ?_; rintro e w1 ⟨v1, rfl, r1, hb1⟩
 obtain ⟨B1, m1, rfl, -, -⟩ := r1.rep.shape
 have fr1 := fr0.later hb1
 have z1 : w.heap.size + 3 ≤ w1.heap.size := by have := fr1.var.lt; omega
 have R1 : OwnLR w1 (w.heap.size + 3) w1.heap.size 9 RouT.dats (.slice B1 c.routines.length m1) c.routines := r1.wide (by simp) (Nat.le_refl _)
 have ca := fr1.arg.cell
 have co := fr1.var.cell
 have fo := fr1.var.frozen
 have cr := fr1.res.cell
 have fr' := fr1.res.frozen
 clear hb1 r1
 have la := fr1.arg.lt
 have lv := fr1.var.lt
 go_wp2_with fail
 refine (toRecordTypeS_made c.records _ _ lo hi (hrecords.below (fr1.bel.setCell (by simp; omega) _) hhi) (Nat.le_trans hhi (fr1.bel.setCell (by simp; omega) _).size) (by omega)).mono ?_; rintro e w2 ⟨v2, rfl, r2, hb2⟩
 obtain ⟨B2, m2, rfl, -, -⟩ := r2.rep.shape
 have fr2 := (fr1.set _ _).later hb2
 have z2 : w.heap.size + 3 ≤ w2.heap.size := by have := fr2.var.lt; omega
 have R2 : OwnLR w2 w1.heap.size w2.heap.size 3 RecT.dats (.slice B2 c.records.length m2) c.records := r2.wide (by simp [World.setCell]) (Nat.le_refl _)
 have y2 : w1.heap.size ≤ w2.heap.size := by have := hb2.size; simpa [World.setCell] using this
 have T1 := OwnLR.below (OwnLR.setFar R1 (.inl (by simp <;> omega)) _) hb2 (by simp [World.setCell] <;> omega)
 clear R1
 have R1 := T1
 clear T1
 clear co fo ca cr fr'
 have ca := fr2.arg.cell
 have co := fr2.var.cell
 have fo := fr2.var.frozen
 have cr := fr2.res.cell
 have fr' := fr2.res.frozen
 clear hb2 r2
 clear la
 have la := fr2.arg.lt
 clear lv
 have lv := fr2.var.lt
 go_wp2_with fail
 refine (toStrs_made c.globals _ _ lo hi (hglobals.below (fr2.bel.setCell (by simp; omega) _) hhi) (Nat.le_trans hhi (fr2.bel.setCell (by simp; omega) _).size) (by omega)).mono ?_; rintro e w3 ⟨v3, rfl, r3, hb3⟩
 obtain ⟨B3, m3, rfl, -, -⟩ := r3.rep.shape
 have fr3 := (fr2.set _ _).later hb3
 have z3 : w.heap.size + 3 ≤ w3.heap.size := by have := fr3.var.lt; omega
 have R3 : OwnLR w3 w2.heap.size w3.heap.size 1 strDats (.slice B3 c.globals.length m3) c.globals := r3.wide (by simp [World.setCell]) (Nat.le_refl _)
 have y3 : w2.heap.size ≤ w3.heap.size := by have := hb3.size; simpa [World.setCell] using this
 have T1 := OwnLR.below (OwnLR.setFar R1 (.inl (by simp <;> omega)) _) hb3 (by simp [World.setCell] <;> omega)
 clear R1
 have R1 := T1
 clear T1
 have T2 := OwnLR.below (OwnLR.setFar R2 (.inl (by simp <;> omega)) _) hb3 (by simp [World.setCell] <;> omega)
 clear R2
 have R2 := T2
 clear T2
 clear co fo ca cr fr'
 have ca := fr3.arg.cell
 have co := fr3.var.cell
 have fo := fr3.var.frozen
 have cr := fr3.res.cell
 have fr' := fr3.res.frozen
 clear hb3 r3
 clear la
 have la := fr3.arg.lt
 clear lv
 have lv := fr3.var.lt
 go_wp2_with fail
 refine bodyPost_ret (v := .agg #[Value.slice B1 c.routines.length m1, .slice B2 c.records.length m2, .slice B3 c.globals.length m3, .int .i64 c.main]) ?_ rfl ⟨[Value.slice B1 c.routines.length m1, .slice B2 c.records.length m2, .slice B3 c.globals.length m3, .int .i64 c.main], rfl, (.row_ (mid := w1.heap.size) ?_ (.row_ (mid := w2.heap.size) ?_ (.row_ (mid := w3.heap.size) ?_ (.int_ .nil_) (by omega) (by first | (simp [World.setCell] <;> omega) | exact Nat.le_refl _ | omega)) (by omega) (by first | (simp [World.setCell] <;> omega) | exact Nat.le_refl _ | omega)) (by omega) (by first | (simp [World.setCell] <;> omega) | exact Nat.le_refl _ | omega)), ?_⟩
 ·simp [results, Tryz.results6, go_sem, cr]
 ·refine OwnLR.wide (lo := w.heap.size + 3) (hi := w1.heap.size) ?_ (by omega) (Nat.le_refl _)
  iterate 6 refine OwnLR.setFar ?_ (.inl (by simp <;> omega)) _
  exact R1
 ·refine OwnLR.wide (lo := w1.heap.size) (hi := w2.heap.size) ?_ (by omega) (Nat.le_refl _)
  iterate 6 refine OwnLR.setFar ?_ (.inl (by simp <;> omega)) _
  exact R2
 ·refine OwnLR.wide (lo := w2.heap.size) (hi := w3.heap.size) ?_ (by omega) (Nat.le_refl _)
  iterate 6 refine OwnLR.setFar ?_ (.inl (by simp <;> omega)) _
  exact R3
 ·iterate 6 refine Below.setCell ?_ (by simp <;> omega) _
  exact fr3.bel
theorem toProgram_any (c : ProgT) (x : Value) (w : World) (lo hi : Nat) (h : SRep w lo hi ProgT.dats x c) (hhi : hi ≤ w.heap.size) (hbk : c.bulk ≤ 1048576) :
 Calls Tryz.prog 6 #[x] w (OwnS ProgT.dats c w) := (toProgram_made c x w lo hi h hhi hbk).mono fun e w' h => h.own
end Go.Proofs.YtjeomamdlmoghaaGreatDoor
end
section
namespace Go.Proofs.YtjeomamdlmoghaaGreatDoor
open Go.RowKit
theorem eqStrs_any (l : List ByteArray) (v u : Value) (w : World) (lo hi lo' hi' : Nat) (h : LRep w lo hi 1 strDats v l) (h' : LRep w lo' hi' 1 strDats u l) (hhi : hi ≤ w.heap.size) (hhi' : hi' ≤ w.heap.size) :
 Calls Tryz.prog 25 #[v, u] w fun e w' => e = .returned (.bool true) ∧ Below w.heap.size w w' := by
 obtain ⟨A, c, rfl, hc1, hc2⟩ := h.shape
 obtain ⟨A', c', rfl, hc1', hc2'⟩ := h'.shape
 unfold maxLen at hc2 hc2'
 have hne : ((l.length : Int) != (l.length : Int)) = false := by simp
 go_enter Tryz.func25, Tryz.ntmps25
 go_wp2_with fail
 go_loopw [5] (fun i wr => ∃ k : Nat, k ≤ l.length ∧ i = .int .i64 k ∧ Same w wr) (fun i _ => l.length - (intOf i).toNat)
 case atStart => exact ⟨0, Nat.zero_le _, rfl, Same.refl _⟩
 case round =>
  obtain ⟨k, hk, rfl, hs⟩ := hrel
  obtain ⟨wo, rfl⟩ : ∃ wo : World, wo = wr := ⟨_, rfl⟩
  by_cases hlt : k < l.length
  ·obtain ⟨s, hc⟩ : ∃ s, l[k]? = some s := ⟨_, List.getElem?_eq_getElem hlt⟩
   obtain ⟨g, off, rfl, -, -, q0⟩ := (h.same hs).text hc
   obtain ⟨g', off', rfl, -, -, q0'⟩ := (h'.same hs).text hc
   have hb := str_eq s
   clear hc
   go_wp2_with fail
   go_quiet (fail)
   go_wp2_with fail
   go_roundw
   case rel => exact ⟨k + 1, by omega, by go_num, hs.drewN _⟩
   case measure => simp [intOf]; omega
  ·obtain rfl : k = l.length := by omega
   go_wp2_with fail
   go_ret
   exact ⟨rfl, hs.below _⟩
end Go.Proofs.YtjeomamdlmoghaaGreatDoor
end
section
namespace Go.Proofs.YtjeomamdlmoghaaGreatDoor
open Go.RowKit
theorem eqRecordType_any (c : RecT) (x y : Value) (w : World) (lo hi lo' hi' : Nat) (h : SRep w lo hi RecT.dats x c) (h' : SRep w lo' hi' RecT.dats y c) (hhi : hi ≤ w.heap.size) (hhi' : hi' ≤ w.heap.size) :
 Calls Tryz.prog 56 #[x, y] w fun e w' => e = .returned (.bool true) ∧ Below w.heap.size w w' := by
 obtain ⟨Afields, nfields, rfl, hfields, ufields, mfields⟩ := RecT.form h
 obtain ⟨Afields', nfields', rfl, hfields', ufields', mfields'⟩ := RecT.form h'
 have bname := str_eq c.name
 have bline : (c.line != c.line) = false := by simp
 have hw0 : Below w.heap.size w ((w.alloc (.cells #[Value.string c.name, .slice Afields c.fields.length nfields, .int .i64 c.line] 68)).alloc (.cells #[Value.string c.name, .slice Afields' c.fields.length nfields', .int .i64 c.line] 68)) := ((Below.refl _ _).alloc (Nat.le_refl _) _).alloc (by simp) _
 have a0 := (Blk.new w 68 #[Value.string c.name, .slice Afields c.fields.length nfields, .int .i64 c.line]).alloc (.cells #[Value.string c.name, .slice Afields' c.fields.length nfields', .int .i64 c.line] 68)
 have e0 := Blk.newAt (w.alloc (.cells #[Value.string c.name, .slice Afields c.fields.length nfields, .int .i64 c.line] 68)) 68 #[Value.string c.name, .slice Afields' c.fields.length nfields', .int .i64 c.line] (w.heap.size + 1) (by simp)
 go_enter Tryz.func56, Tryz.ntmps56
 go_wp2_with fail
 refine (eqStrs_any c.fields _ _ _ lo hi lo' hi' (hfields.below hw0 hhi) (hfields'.below hw0 hhi') (Nat.le_trans hhi hw0.size) (Nat.le_trans hhi' hw0.size)).mono ?_; rintro e w1 ⟨rfl, hb1⟩
 have hw1 : Below w.heap.size w w1 := hw0.trans (hb1.mono hw0.size)
 have a1 := a0.later hb1
 have e1 := e0.later hb1
 have ca := a1.cell
 have ce := e1.cell
 have la := a1.lt
 have le := e1.lt
 clear hb1
 go_wp2_with fail
 go_ret
 exact ⟨rfl, hw1⟩
theorem eqRecordTypeS_any (l : List RecT) (v u : Value) (w : World) (lo hi lo' hi' : Nat) (h : LRep w lo hi 3 RecT.dats v l) (h' : LRep w lo' hi' 3 RecT.dats u l) (hhi : hi ≤ w.heap.size) (hhi' : hi' ≤ w.heap.size) :
 Calls Tryz.prog 24 #[v, u] w fun e w' => e = .returned (.bool true) ∧ Below w.heap.size w w' := by
 obtain ⟨A, cap, rfl, hc1, hc2⟩ := h.shape
 obtain ⟨A', cap', rfl, hc1', hc2'⟩ := h'.shape
 unfold maxLen at hc2 hc2'
 have hne : ((l.length : Int) != (l.length : Int)) = false := by simp
 go_enter Tryz.func24, Tryz.ntmps24
 go_wp2_with fail
 go_loopw [5] (fun i wr => ∃ k : Nat, k ≤ l.length ∧ i = .int .i64 k ∧ Below w.heap.size w wr) (fun i _ => l.length - (intOf i).toNat)
 case atStart => exact ⟨0, Nat.zero_le _, rfl, Below.refl _ _⟩
 case round =>
  obtain ⟨k, hk, rfl, hb⟩ := hrel
  obtain ⟨wo, rfl⟩ : ∃ wo : World, wo = wr := ⟨_, rfl⟩
  have hz := hb.size
  by_cases hlt : k < l.length
  ·obtain ⟨c, hc⟩ : ∃ c, l[k]? = some c := ⟨_, List.getElem?_eq_getElem hlt⟩
   obtain ⟨g, off, Afields, nfields, rfl, hg1, hg2, hmem, hrep, q0, q1, q2⟩ := RecT.at_ (h.below hb hhi) hc
   obtain ⟨g', off', Afields', nfields', rfl, hg1', hg2', hmem', hrep', p0, p1, p2⟩ := RecT.at_ (h'.below hb hhi') hc
   have e0 : (0 : Int) ≤ (k : Int) := by omega
   have e8 : (k : Int) < (l.length : Int) := by omega
   have y1 : hi ≤ wo.drew.heap.size := Nat.le_trans hhi hz
   have y2 : hi' ≤ wo.drew.heap.size := Nat.le_trans hhi' hz
   have t1 := Nat.lt_of_lt_of_le hg2 y1
   have t2 := Nat.lt_of_lt_of_le hg2' y2
   clear hc hmem hmem'
   go_wp2_with fail
   go_region_held3 (fun w' => (w'.cell? ⟨g, off + k * 3, none⟩ = some (.string c.name) ∧ w'.cell? ⟨g, off + k * 3 + 1, none⟩ = some (.slice Afields c.fields.length nfields) ∧ w'.cell? ⟨g, off + k * 3 + 2, none⟩ = some (.int .i64 c.line)) ∧ (w'.cell? ⟨g', off' + k * 3, none⟩ = some (.string c.name) ∧ w'.cell? ⟨g', off' + k * 3 + 1, none⟩ = some (.slice Afields' c.fields.length nfields') ∧ w'.cell? ⟨g', off' + k * 3 + 2, none⟩ = some (.int .i64 c.line)))
    (first | exact ⟨⟨q0, q1, q2⟩, p0, p1, p2⟩ | exact ⟨⟨(hbA.cell t1).trans q0, (hbA.cell t1).trans q1, (hbA.cell t1).trans q2⟩, (hbA.cell t2).trans p0, (hbA.cell t2).trans p1, (hbA.cell t2).trans p2⟩)
    ((go_at_call 56; refine (eqRecordType_any c _ _ _ _ _ _ _ (hrep.same (Same.refl _).drew) (hrep'.same (Same.refl _).drew) y1 y2).mono ?_; rintro e wA ⟨rfl, hbA⟩))
   have hb2 : Below w.heap.size w wA := hb.drew.trans (hbA.mono hz)
   clear hrep hrep' q0 q1 q2 p0 p1 p2
   go_wp2_with fail
   go_roundw
   case rel => exact ⟨k + 1, by omega, by go_num, hb2⟩
   case measure => simp [intOf]; omega
  ·obtain rfl : k = l.length := by omega
   go_wp2_with fail
   go_ret
   exact ⟨rfl, hb⟩
end Go.Proofs.YtjeomamdlmoghaaGreatDoor
end
section
namespace Go.Proofs.YtjeomamdlmoghaaGreatDoor
open Go.RowKit
def EqOk (c : CoreT) : Prop := ∀ (x y : Value) (w : World) (lo hi lo' hi' : Nat), CRep w lo hi x c → CRep w lo' hi' y c → hi ≤ w.heap.size → hi' ≤ w.heap.size →
 Calls Tryz.prog 85 #[x, y] w fun e w' => e = .returned (.bool true) ∧ Below w.heap.size w w'
theorem eqCoreS_of (l : List CoreT) (H : ∀ c ∈ l, EqOk c) (v u : Value) (w : World) (lo hi lo' hi' : Nat) (h : KRep w lo hi v l) (h' : KRep w lo' hi' u l) (hhi : hi ≤ w.heap.size) (hhi' : hi' ≤ w.heap.size) :
 Calls Tryz.prog 116 #[v, u] w fun e w' => e = .returned (.bool true) ∧ Below w.heap.size w w' := by
 obtain ⟨A, c, rfl, hc1, hc2⟩ := h.shape
 obtain ⟨A', c', rfl, hc1', hc2'⟩ := h'.shape
 unfold maxLen at hc2 hc2'
 have HH := Lib.hid H
 have hne : ((l.length : Int) != (l.length : Int)) = false := by simp
 clear H
 go_enter Tryz.func116, Tryz.ntmps116
 go_wp2_with fail
 go_loopw [5] (fun i wr => ∃ k : Nat, k ≤ l.length ∧ i = .int .i64 k ∧ Below w.heap.size w wr) (fun i _ => l.length - (intOf i).toNat)
 case atStart => exact ⟨0, Nat.zero_le _, rfl, Below.refl _ _⟩
 case round =>
  obtain ⟨k, hk, rfl, hb⟩ := hrel
  obtain ⟨wo, rfl⟩ : ∃ wo : World, wo = wr := ⟨_, rfl⟩
  have hz := hb.size
  by_cases hlt : k < l.length
  ·obtain ⟨g, off, kd, B, d, rfl, hg1, hg2, hkd, hmem, hrep, c0, c1, c2, c3, c4, c5⟩ := (h.below hb hhi).kid hlt
   obtain ⟨g', off', kd', B', d', rfl, hg1', hg2', hkd', hmem', hrep', c0', c1', c2', c3', c4', c5'⟩ := (h'.below hb hhi').kid hlt
   obtain rfl : kd' = kd := Option.some.inj (hkd'.symm.trans hkd)
   have hs := HH.out kd' hmem
   have e0 : (0 : Int) ≤ (k : Int) := by omega
   have e8 : (k : Int) < (l.length : Int) := by omega
   have y1 : hi ≤ wo.drew.heap.size := Nat.le_trans hhi hz
   have y2 : hi' ≤ wo.drew.heap.size := Nat.le_trans hhi' hz
   clear hkd hkd'
   go_wp2_with fail
   go_region_held3 (fun w' => (w'.cell? ⟨g, off + k * 6, none⟩ = some (.int .i64 kd'.kind) ∧ w'.cell? ⟨g, off + k * 6 + 1, none⟩ = some (.int .i64 kd'.op) ∧ w'.cell? ⟨g, off + k * 6 + 2, none⟩ = some (.int .i64 kd'.number) ∧ w'.cell? ⟨g, off + k * 6 + 3, none⟩ = some (.int .i64 kd'.line) ∧ w'.cell? ⟨g, off + k * 6 + 4, none⟩ = some (.string kd'.text) ∧ w'.cell? ⟨g, off + k * 6 + 5, none⟩ = some (.slice B kd'.kids.length d)) ∧ (w'.cell? ⟨g', off' + k * 6, none⟩ = some (.int .i64 kd'.kind) ∧ w'.cell? ⟨g', off' + k * 6 + 1, none⟩ = some (.int .i64 kd'.op) ∧ w'.cell? ⟨g', off' + k * 6 + 2, none⟩ = some (.int .i64 kd'.number) ∧ w'.cell? ⟨g', off' + k * 6 + 3, none⟩ = some (.int .i64 kd'.line) ∧ w'.cell? ⟨g', off' + k * 6 + 4, none⟩ = some (.string kd'.text) ∧ w'.cell? ⟨g', off' + k * 6 + 5, none⟩ = some (.slice B' kd'.kids.length d')))
    (first | exact ⟨⟨c0, c1, c2, c3, c4, c5⟩, c0', c1', c2', c3', c4', c5'⟩ | exact ⟨⟨(hbA.cell (Nat.lt_of_lt_of_le hg2 y1)).trans c0, (hbA.cell (Nat.lt_of_lt_of_le hg2 y1)).trans c1, (hbA.cell (Nat.lt_of_lt_of_le hg2 y1)).trans c2, (hbA.cell (Nat.lt_of_lt_of_le hg2 y1)).trans c3, (hbA.cell (Nat.lt_of_lt_of_le hg2 y1)).trans c4, (hbA.cell (Nat.lt_of_lt_of_le hg2 y1)).trans c5⟩, (hbA.cell (Nat.lt_of_lt_of_le hg2' y2)).trans c0', (hbA.cell (Nat.lt_of_lt_of_le hg2' y2)).trans c1', (hbA.cell (Nat.lt_of_lt_of_le hg2' y2)).trans c2', (hbA.cell (Nat.lt_of_lt_of_le hg2' y2)).trans c3', (hbA.cell (Nat.lt_of_lt_of_le hg2' y2)).trans c4', (hbA.cell (Nat.lt_of_lt_of_le hg2' y2)).trans c5'⟩)
    ((go_at_call 85; refine (hs _ _ _ _ _ _ _ (hrep.same (Same.refl _).drew) (hrep'.same (Same.refl _).drew) y1 y2).mono ?_; rintro e wA ⟨rfl, hbA⟩))
   have hb2 : Below w.heap.size w wA := hb.drew.trans (hbA.mono hz)
   clear c0 c1 c2 c3 c4 c5 c0' c1' c2' c3' c4' c5' hrep hrep'
   go_wp2_with fail
   go_roundw
   case rel => exact ⟨k + 1, by omega, by go_num, hb2⟩
   case measure => simp [intOf]; omega
  ·obtain rfl : k = l.length := by omega
   go_wp2_with fail
   go_ret
   exact ⟨rfl, hb⟩
theorem eqCore_of (c : CoreT) (H : ∀ x ∈ c.kids, EqOk x) : EqOk c := by
 intro x y w lo hi lo' hi' h h' hhi hhi'
 obtain ⟨A, cap, rfl, hk, -, -⟩ := h.form
 obtain ⟨A', cap', rfl, hk', -, -⟩ := h'.form
 have HK := Lib.hid (eqCoreS_of c.kids H)
 have b0 : (c.kind != c.kind) = false := by simp
 have b1 : (c.op != c.op) = false := by simp
 have b2 : (c.number != c.number) = false := by simp
 have b3 : (c.line != c.line) = false := by simp
 have b4 := str_eq c.text
 clear H h h'
 go_enter Tryz.func85, Tryz.ntmps85
 go_wp2_with fail
 refine (HK.out _ _ _ _ _ _ _ ((hk.alloc hhi _).alloc (by simp; omega) _) ((hk'.alloc hhi' _).alloc (by simp; omega) _) (by simp; omega) (by simp; omega)).mono ?_; rintro e w1 ⟨rfl, hb1⟩
 go_wp2_with fail
 go_ret
 exact ⟨rfl, (((Below.refl _ _).alloc (Nat.le_refl _) _).alloc (by simp) _).trans (hb1.mono (by simp; omega))⟩
theorem eqCore_any (c : CoreT) : EqOk c := CoreT.ind eqCore_of c
end Go.Proofs.YtjeomamdlmoghaaGreatDoor
end
section
namespace Go.Proofs.YtjeomamdlmoghaaGreatDoor
open Go.RowKit
theorem eqRoutine_any (c : RouT) (x y : Value) (w : World) (lo hi lo' hi' : Nat) (h : SRep w lo hi RouT.dats x c) (h' : SRep w lo' hi' RouT.dats y c) (hhi : hi ≤ w.heap.size) (hhi' : hi' ≤ w.heap.size) :
 Calls Tryz.prog 55 #[x, y] w fun e w' => e = .returned (.bool true) ∧ Below w.heap.size w w' := by
 obtain ⟨Aslots, nslots, Abody_kids, nbody_kids, rfl, hslots, uslots, mslots, hbody_kids, ubody_kids, mbody_kids⟩ := RouT.form h
 obtain ⟨Aslots', nslots', Abody_kids', nbody_kids', rfl, hslots', uslots', mslots', hbody_kids', ubody_kids', mbody_kids'⟩ := RouT.form h'
 have bname := str_eq c.name
 have bparams : (c.params != c.params) = false := by simp
 have bbody_kind : (c.body_kind != c.body_kind) = false := by simp
 have bbody_op : (c.body_op != c.body_op) = false := by simp
 have bbody_number : (c.body_number != c.body_number) = false := by simp
 have bbody_line : (c.body_line != c.body_line) = false := by simp
 have bbody_text := str_eq c.body_text
 have hw0 : Below w.heap.size w ((w.alloc (.cells #[Value.string c.name, .int .i64 c.params, .slice Aslots c.slots.length nslots, .int .i64 c.body_kind, .int .i64 c.body_op, .int .i64 c.body_number, .int .i64 c.body_line, .string c.body_text, .slice Abody_kids c.body_kids.length nbody_kids] 47)).alloc (.cells #[Value.string c.name, .int .i64 c.params, .slice Aslots' c.slots.length nslots', .int .i64 c.body_kind, .int .i64 c.body_op, .int .i64 c.body_number, .int .i64 c.body_line, .string c.body_text, .slice Abody_kids' c.body_kids.length nbody_kids'] 47)) := ((Below.refl _ _).alloc (Nat.le_refl _) _).alloc (by simp) _
 have a0 := (Blk.new w 47 #[Value.string c.name, .int .i64 c.params, .slice Aslots c.slots.length nslots, .int .i64 c.body_kind, .int .i64 c.body_op, .int .i64 c.body_number, .int .i64 c.body_line, .string c.body_text, .slice Abody_kids c.body_kids.length nbody_kids]).alloc (.cells #[Value.string c.name, .int .i64 c.params, .slice Aslots' c.slots.length nslots', .int .i64 c.body_kind, .int .i64 c.body_op, .int .i64 c.body_number, .int .i64 c.body_line, .string c.body_text, .slice Abody_kids' c.body_kids.length nbody_kids'] 47)
 have e0 := Blk.newAt (w.alloc (.cells #[Value.string c.name, .int .i64 c.params, .slice Aslots c.slots.length nslots, .int .i64 c.body_kind, .int .i64 c.body_op, .int .i64 c.body_number, .int .i64 c.body_line, .string c.body_text, .slice Abody_kids c.body_kids.length nbody_kids] 47)) 47 #[Value.string c.name, .int .i64 c.params, .slice Aslots' c.slots.length nslots', .int .i64 c.body_kind, .int .i64 c.body_op, .int .i64 c.body_number, .int .i64 c.body_line, .string c.body_text, .slice Abody_kids' c.body_kids.length nbody_kids'] (w.heap.size + 1) (by simp)
 go_enter Tryz.func55, Tryz.ntmps55
 go_wp2_with fail
 refine (eqStrs_any c.slots _ _ _ lo hi lo' hi' (hslots.below hw0 hhi) (hslots'.below hw0 hhi') (Nat.le_trans hhi hw0.size) (Nat.le_trans hhi' hw0.size)).mono ?_; rintro e w1 ⟨rfl, hb1⟩
 have hw1 : Below w.heap.size w w1 := hw0.trans (hb1.mono hw0.size)
 have a1 := a0.later hb1
 have e1 := e0.later hb1
 have ca := a1.cell
 have ce := e1.cell
 have la := a1.lt
 have le := e1.lt
 clear hb1
 go_wp2_with fail
 refine (eqCore_any c.body _ _ _ lo hi lo' hi' (CoreT.mk_ (hbody_kids.below hw1 hhi)) (CoreT.mk_ (hbody_kids'.below hw1 hhi')) (Nat.le_trans hhi hw1.size) (Nat.le_trans hhi' hw1.size)).mono ?_; rintro e w2 ⟨rfl, hb2⟩
 have hw2 : Below w.heap.size w w2 := hw1.trans (hb2.mono hw1.size)
 have a2 := a1.later hb2
 have e2 := e1.later hb2
 clear ca ce la le
 have ca := a2.cell
 have ce := e2.cell
 have la := a2.lt
 have le := e2.lt
 clear hb2
 go_wp2_with fail
 go_ret
 exact ⟨rfl, hw2⟩
theorem eqRoutineS_any (l : List RouT) (v u : Value) (w : World) (lo hi lo' hi' : Nat) (h : LRep w lo hi 9 RouT.dats v l) (h' : LRep w lo' hi' 9 RouT.dats u l) (hhi : hi ≤ w.heap.size) (hhi' : hi' ≤ w.heap.size) :
 Calls Tryz.prog 23 #[v, u] w fun e w' => e = .returned (.bool true) ∧ Below w.heap.size w w' := by
 obtain ⟨A, cap, rfl, hc1, hc2⟩ := h.shape
 obtain ⟨A', cap', rfl, hc1', hc2'⟩ := h'.shape
 unfold maxLen at hc2 hc2'
 have hne : ((l.length : Int) != (l.length : Int)) = false := by simp
 go_enter Tryz.func23, Tryz.ntmps23
 go_wp2_with fail
 go_loopw [5] (fun i wr => ∃ k : Nat, k ≤ l.length ∧ i = .int .i64 k ∧ Below w.heap.size w wr) (fun i _ => l.length - (intOf i).toNat)
 case atStart => exact ⟨0, Nat.zero_le _, rfl, Below.refl _ _⟩
 case round =>
  obtain ⟨k, hk, rfl, hb⟩ := hrel
  obtain ⟨wo, rfl⟩ : ∃ wo : World, wo = wr := ⟨_, rfl⟩
  have hz := hb.size
  by_cases hlt : k < l.length
  ·obtain ⟨c, hc⟩ : ∃ c, l[k]? = some c := ⟨_, List.getElem?_eq_getElem hlt⟩
   obtain ⟨g, off, Aslots, nslots, Abody_kids, nbody_kids, rfl, hg1, hg2, hmem, hrep, q0, q1, q2, q3, q4, q5, q6, q7, q8⟩ := RouT.at_ (h.below hb hhi) hc
   obtain ⟨g', off', Aslots', nslots', Abody_kids', nbody_kids', rfl, hg1', hg2', hmem', hrep', p0, p1, p2, p3, p4, p5, p6, p7, p8⟩ := RouT.at_ (h'.below hb hhi') hc
   have e0 : (0 : Int) ≤ (k : Int) := by omega
   have e8 : (k : Int) < (l.length : Int) := by omega
   have y1 : hi ≤ wo.drew.heap.size := Nat.le_trans hhi hz
   have y2 : hi' ≤ wo.drew.heap.size := Nat.le_trans hhi' hz
   have t1 := Nat.lt_of_lt_of_le hg2 y1
   have t2 := Nat.lt_of_lt_of_le hg2' y2
   clear hc hmem hmem'
   go_wp2_with fail
   go_region_held3 (fun w' => (w'.cell? ⟨g, off + k * 9, none⟩ = some (.string c.name) ∧ w'.cell? ⟨g, off + k * 9 + 1, none⟩ = some (.int .i64 c.params) ∧ w'.cell? ⟨g, off + k * 9 + 2, none⟩ = some (.slice Aslots c.slots.length nslots) ∧ w'.cell? ⟨g, off + k * 9 + 3, none⟩ = some (.int .i64 c.body_kind) ∧ w'.cell? ⟨g, off + k * 9 + 4, none⟩ = some (.int .i64 c.body_op) ∧ w'.cell? ⟨g, off + k * 9 + 5, none⟩ = some (.int .i64 c.body_number) ∧ w'.cell? ⟨g, off + k * 9 + 6, none⟩ = some (.int .i64 c.body_line) ∧ w'.cell? ⟨g, off + k * 9 + 7, none⟩ = some (.string c.body_text) ∧ w'.cell? ⟨g, off + k * 9 + 8, none⟩ = some (.slice Abody_kids c.body_kids.length nbody_kids)) ∧ (w'.cell? ⟨g', off' + k * 9, none⟩ = some (.string c.name) ∧ w'.cell? ⟨g', off' + k * 9 + 1, none⟩ = some (.int .i64 c.params) ∧ w'.cell? ⟨g', off' + k * 9 + 2, none⟩ = some (.slice Aslots' c.slots.length nslots') ∧ w'.cell? ⟨g', off' + k * 9 + 3, none⟩ = some (.int .i64 c.body_kind) ∧ w'.cell? ⟨g', off' + k * 9 + 4, none⟩ = some (.int .i64 c.body_op) ∧ w'.cell? ⟨g', off' + k * 9 + 5, none⟩ = some (.int .i64 c.body_number) ∧ w'.cell? ⟨g', off' + k * 9 + 6, none⟩ = some (.int .i64 c.body_line) ∧ w'.cell? ⟨g', off' + k * 9 + 7, none⟩ = some (.string c.body_text) ∧ w'.cell? ⟨g', off' + k * 9 + 8, none⟩ = some (.slice Abody_kids' c.body_kids.length nbody_kids')))
    (first | exact ⟨⟨q0, q1, q2, q3, q4, q5, q6, q7, q8⟩, p0, p1, p2, p3, p4, p5, p6, p7, p8⟩ | exact ⟨⟨(hbA.cell t1).trans q0, (hbA.cell t1).trans q1, (hbA.cell t1).trans q2, (hbA.cell t1).trans q3, (hbA.cell t1).trans q4, (hbA.cell t1).trans q5, (hbA.cell t1).trans q6, (hbA.cell t1).trans q7, (hbA.cell t1).trans q8⟩, (hbA.cell t2).trans p0, (hbA.cell t2).trans p1, (hbA.cell t2).trans p2, (hbA.cell t2).trans p3, (hbA.cell t2).trans p4, (hbA.cell t2).trans p5, (hbA.cell t2).trans p6, (hbA.cell t2).trans p7, (hbA.cell t2).trans p8⟩)
    ((go_at_call 55; refine (eqRoutine_any c _ _ _ _ _ _ _ (hrep.same (Same.refl _).drew) (hrep'.same (Same.refl _).drew) y1 y2).mono ?_; rintro e wA ⟨rfl, hbA⟩))
   have hb2 : Below w.heap.size w wA := hb.drew.trans (hbA.mono hz)
   clear hrep hrep' q0 q1 q2 q3 q4 q5 q6 q7 q8 p0 p1 p2 p3 p4 p5 p6 p7 p8
   go_wp2_with fail
   go_roundw
   case rel => exact ⟨k + 1, by omega, by go_num, hb2⟩
   case measure => simp [intOf]; omega
  ·obtain rfl : k = l.length := by omega
   go_wp2_with fail
   go_ret
   exact ⟨rfl, hb⟩
end Go.Proofs.YtjeomamdlmoghaaGreatDoor
end
section
namespace Go.Proofs.YtjeomamdlmoghaaGreatDoor
open Go.RowKit
theorem eqProgram_any (c : ProgT) (x y : Value) (w : World) (lo hi lo' hi' : Nat) (h : SRep w lo hi ProgT.dats x c) (h' : SRep w lo' hi' ProgT.dats y c) (hhi : hi ≤ w.heap.size) (hhi' : hi' ≤ w.heap.size) :
 Calls Tryz.prog 8 #[x, y] w fun e w' => e = .returned (.bool true) ∧ Below w.heap.size w w' := by
 obtain ⟨Aroutines, nroutines, Arecords, nrecords, Aglobals, nglobals, rfl, hroutines, uroutines, mroutines, hrecords, urecords, mrecords, hglobals, uglobals, mglobals⟩ := ProgT.form h
 obtain ⟨Aroutines', nroutines', Arecords', nrecords', Aglobals', nglobals', rfl, hroutines', uroutines', mroutines', hrecords', urecords', mrecords', hglobals', uglobals', mglobals'⟩ := ProgT.form h'
 have bmain : (c.main != c.main) = false := by simp
 have hw0 : Below w.heap.size w ((w.alloc (.cells #[Value.slice Aroutines c.routines.length nroutines, .slice Arecords c.records.length nrecords, .slice Aglobals c.globals.length nglobals, .int .i64 c.main] 31)).alloc (.cells #[Value.slice Aroutines' c.routines.length nroutines', .slice Arecords' c.records.length nrecords', .slice Aglobals' c.globals.length nglobals', .int .i64 c.main] 31)) := ((Below.refl _ _).alloc (Nat.le_refl _) _).alloc (by simp) _
 have a0 := (Blk.new w 31 #[Value.slice Aroutines c.routines.length nroutines, .slice Arecords c.records.length nrecords, .slice Aglobals c.globals.length nglobals, .int .i64 c.main]).alloc (.cells #[Value.slice Aroutines' c.routines.length nroutines', .slice Arecords' c.records.length nrecords', .slice Aglobals' c.globals.length nglobals', .int .i64 c.main] 31)
 have e0 := Blk.newAt (w.alloc (.cells #[Value.slice Aroutines c.routines.length nroutines, .slice Arecords c.records.length nrecords, .slice Aglobals c.globals.length nglobals, .int .i64 c.main] 31)) 31 #[Value.slice Aroutines' c.routines.length nroutines', .slice Arecords' c.records.length nrecords', .slice Aglobals' c.globals.length nglobals', .int .i64 c.main] (w.heap.size + 1) (by simp)
 go_enter Tryz.func8, Tryz.ntmps8
 go_wp2_with fail
 refine (eqRoutineS_any c.routines _ _ _ lo hi lo' hi' (hroutines.below hw0 hhi) (hroutines'.below hw0 hhi') (Nat.le_trans hhi hw0.size) (Nat.le_trans hhi' hw0.size)).mono ?_; rintro e w1 ⟨rfl, hb1⟩
 have hw1 : Below w.heap.size w w1 := hw0.trans (hb1.mono hw0.size)
 have a1 := a0.later hb1
 have e1 := e0.later hb1
 have ca := a1.cell
 have ce := e1.cell
 have la := a1.lt
 have le := e1.lt
 clear hb1
 go_wp2_with fail
 refine (eqRecordTypeS_any c.records _ _ _ lo hi lo' hi' (hrecords.below hw1 hhi) (hrecords'.below hw1 hhi') (Nat.le_trans hhi hw1.size) (Nat.le_trans hhi' hw1.size)).mono ?_; rintro e w2 ⟨rfl, hb2⟩
 have hw2 : Below w.heap.size w w2 := hw1.trans (hb2.mono hw1.size)
 have a2 := a1.later hb2
 have e2 := e1.later hb2
 clear ca ce la le
 have ca := a2.cell
 have ce := e2.cell
 have la := a2.lt
 have le := e2.lt
 clear hb2
 go_wp2_with fail
 refine (eqStrs_any c.globals _ _ _ lo hi lo' hi' (hglobals.below hw2 hhi) (hglobals'.below hw2 hhi') (Nat.le_trans hhi hw2.size) (Nat.le_trans hhi' hw2.size)).mono ?_; rintro e w3 ⟨rfl, hb3⟩
 have hw3 : Below w.heap.size w w3 := hw2.trans (hb3.mono hw2.size)
 have a3 := a2.later hb3
 have e3 := e2.later hb3
 clear ca ce la le
 have ca := a3.cell
 have ce := e3.cell
 have la := a3.lt
 have le := e3.lt
 clear hb3
 go_wp2_with fail
 go_ret
 exact ⟨rfl, hw3⟩
end Go.Proofs.YtjeomamdlmoghaaGreatDoor
end
end
