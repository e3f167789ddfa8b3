/- HdAll: several texts in one. -/
import Derived.Test.YtekobbeoaalibaaGreatDoorProg
import Derived.Test.YtekobbeoaalibaaGreatDoorMkAll
import Derived.Deep.RegionHeld3
section
namespace Go.Proofs.YtekobbeoaalibaaGreatDoor
open Go.RowKit
set_option linter.unusedVariables false

set_option maxRecDepth 100000 in
set_option maxHeartbeats 1000000 in
theorem heldStrs_any (l : List ByteArray) (v : Value) (x : Int) (k : Nat) (w : World) (lo hi : Nat) (hx : x = (k : Int)) (h : LRep w lo hi 1 strDats v (markL strMark strCnt k l)) (hhi : hi ≤ w.heap.size) (hk0 : 0 < k) (hk1 : k + sumOf strCnt l ≤ 1099511627776) :
    Calls Tryz.prog 19 #[v, .int .i64 x] w fun e w' => e = .returned (.int .i64 ((k + sumOf strCnt l : Nat) : Int)) ∧ Below w.heap.size w w' := by
  subst hx
  have hget : ∀ (j : Nat) (c : ByteArray), l[j]? = some c → (markL strMark strCnt k l)[j]? = some (strMark (k + sumOf strCnt (l.take j)) c) := fun j c hc => markL_get hc
  have hlen := markL_len (mk := strMark) (cnt := strCnt) l k
  obtain ⟨l', hl'⟩ : ∃ l', markL strMark strCnt k l = l' := ⟨_, rfl⟩
  rw [hl'] at h hget hlen
  clear hl'
  obtain ⟨A, cap, rfl, hc1, hc2⟩ := h.shape
  unfold maxLen at hc2
  have HG := Lib.hid hget
  have HR := Lib.hid h
  clear hget h
  rw [hlen] at hc1 ⊢
  clear hlen
  go_enter Tryz.func19, Tryz.ntmps19
  go_wp2_with fail
  go_loopw [1, 5] (fun m i wr => ∃ j q : Nat, j ≤ l.length ∧ i = .int .i64 j ∧ m = .int .i64 q ∧ Hid (q = k + sumOf strCnt (l.take j)) ∧ Below w.heap.size w wr) (fun _ i _ => l.length - (intOf i).toNat)
  case atStart => exact ⟨0, k, Nat.zero_le _, rfl, rfl, by simp [sumOf, Hid], Below.refl _ _⟩
  case round =>
    obtain ⟨j, q, hj, rfl, rfl, hq, hb⟩ := hrel
    by_cases hlt : j < l.length
    · obtain ⟨c, hc⟩ : ∃ c, l[j]? = some c := ⟨_, List.getElem?_eq_getElem hlt⟩
      have hg := HG.out j c hc
      rw [← hq.out] at hg
      obtain ⟨g, off, rfl, hg1, hg2, q0⟩ := LRep.text (HR.out.below hb hhi) hg
      have hle := sumOf_take_le strCnt l (j + 1)
      rw [sumOf_snoc (b := strCnt) hc] at hle
      have q0' : 0 < q := by have := hq.out; omega
      have q1' : q + strCnt c ≤ 1099511627776 := by have := hq.out; omega
      have hc0 : strCnt c = 1 := rfl
      rw [hc0] at q1'
      have HQ := Lib.hid (sumOf_snoc (b := strCnt) hc)
      clear hle hc hg hc0
      have c0 : wr.cell? ⟨g, off + j, none⟩ = some (.string (mtext (q))) := q0
      clear q0
      have hz := hb.size
      have bt : Below wr.heap.size wr wr := Below.refl _ _
      go_wp2_with fail
      have lg : g < wr.drew.heap.size := Nat.lt_of_lt_of_le hg2 (Nat.le_trans hhi (hb.trans (bt.mono hz)).size)
      have hx0 : 0 < q := by omega
      have hx1 : q ≤ 1099511627776 := by omega
      go_region_held3 (fun w' => (w'.cell? ⟨g, off + j, none⟩ = some (.string (mtext (q)))) ∧ Below wr.heap.size wr w') (first | exact ⟨c0, bt⟩ | exact ⟨c0, bt.drew⟩ | exact ⟨(hbA.cell lg).trans c0, bt.drew.trans (hbA.mono bt.size)⟩)
        (first | (go_at_call 56; refine (markText_at _ (q) _ (by push_cast; omega) hx0 hx1).mono ?_; rintro e w1 ⟨rfl, hbA⟩))
      rename_i hheld
      clear bt lg hx0 hx1 c0
      obtain ⟨c0, bt⟩ := hheld
      go_wp2_with fail
      go_roundw
      case rel =>
        refine ⟨j + 1, q + 1, by omega, by go_num, by go_num, ?_, hb.trans (bt.mono hz)⟩
        have := HQ.out; have := hq.out; have hc0 : strCnt c = 1 := rfl; show _ = _; omega
      case measure => simp [intOf]; omega
    · obtain rfl : j = l.length := by omega
      rw [List.take_length] at hq
      go_wp2_with fail
      go_ret
      exact ⟨by rw [hq.out]; rfl, hb⟩
end Go.Proofs.YtekobbeoaalibaaGreatDoor
end

section
namespace Go.Proofs.YtekobbeoaalibaaGreatDoor
open Go.RowKit
set_option linter.unusedVariables false

set_option maxRecDepth 100000 in
set_option maxHeartbeats 1000000 in
theorem heldCodeRoutineS_any (l : List CRoT) (v : Value) (x : Int) (k : Nat) (w : World) (lo hi : Nat) (hx : x = (k : Int)) (h : LRep w lo hi 4 CRoT.dats v (markL CRoT.mark CRoT.cnt k l)) (hhi : hi ≤ w.heap.size) (hk0 : 0 < k) (hk1 : k + sumOf CRoT.cnt l ≤ 1099511627776) :
    Calls Tryz.prog 66 #[v, .int .i64 x] w fun e w' => e = .returned (.int .i64 ((k + sumOf CRoT.cnt l : Nat) : Int)) ∧ Below w.heap.size w w' := by
  subst hx
  have hget : ∀ (j : Nat) (c : CRoT), l[j]? = some c → (markL CRoT.mark CRoT.cnt k l)[j]? = some (CRoT.mark (k + sumOf CRoT.cnt (l.take j)) c) := fun j c hc => markL_get hc
  have hlen := markL_len (mk := CRoT.mark) (cnt := CRoT.cnt) l k
  obtain ⟨l', hl'⟩ : ∃ l', markL CRoT.mark CRoT.cnt k l = l' := ⟨_, rfl⟩
  rw [hl'] at h hget hlen
  clear hl'
  obtain ⟨A, cap, rfl, hc1, hc2⟩ := h.shape
  unfold maxLen at hc2
  have HG := Lib.hid hget
  have HR := Lib.hid h
  clear hget h
  rw [hlen] at hc1 ⊢
  clear hlen
  go_enter Tryz.func66, Tryz.ntmps66
  go_wp2_with fail
  go_loopw [1, 5] (fun m i wr => ∃ j q : Nat, j ≤ l.length ∧ i = .int .i64 j ∧ m = .int .i64 q ∧ Hid (q = k + sumOf CRoT.cnt (l.take j)) ∧ Below w.heap.size w wr) (fun _ i _ => l.length - (intOf i).toNat)
  case atStart => exact ⟨0, k, Nat.zero_le _, rfl, rfl, by simp [sumOf, Hid], Below.refl _ _⟩
  case round =>
    obtain ⟨j, q, hj, rfl, rfl, hq, hb⟩ := hrel
    by_cases hlt : j < l.length
    · obtain ⟨c, hc⟩ : ∃ c, l[j]? = some c := ⟨_, List.getElem?_eq_getElem hlt⟩
      have hg := HG.out j c hc
      rw [← hq.out] at hg
      obtain ⟨g, off, rfl, hg1, hg2, hmem, hrep, q0, q1, q2, q3⟩ := CRoT.at_ (HR.out.below hb hhi) hg
      have hle := sumOf_take_le CRoT.cnt l (j + 1)
      rw [sumOf_snoc (b := CRoT.cnt) hc] at hle
      have q0' : 0 < q := by have := hq.out; omega
      have q1' : q + c.cnt ≤ 1099511627776 := by have := hq.out; omega
      have hc0 : c.cnt = 1 + 1 + 1 + 1 := rfl
      rw [hc0] at q1'
      have HQ := Lib.hid (sumOf_snoc (b := CRoT.cnt) hc)
      clear hle hc hg hmem hrep hc0
      have c0 : wr.cell? ⟨g, off + j * 4, none⟩ = some (.string (mtext (q))) := q0
      have c1 : wr.cell? ⟨g, off + j * 4 + 1, none⟩ = some (.int .i64 ((q : Int) + 1)) := q1
      have c2 : wr.cell? ⟨g, off + j * 4 + 2, none⟩ = some (.int .i64 ((q : Int) + 1 + 1)) := q2
      have c3 : wr.cell? ⟨g, off + j * 4 + 3, none⟩ = some (.int .i64 ((q : Int) + 1 + 1 + 1)) := q3
      clear q0 q1 q2 q3
      have hz := hb.size
      have bt : Below wr.heap.size wr wr := Below.refl _ _
      go_wp2_with fail
      have lg : g < wr.drew.heap.size := Nat.lt_of_lt_of_le hg2 (Nat.le_trans hhi (hb.trans (bt.mono hz)).size)
      have hx0 : 0 < q := by omega
      have hx1 : q ≤ 1099511627776 := by omega
      go_region_held3 (fun w' => (w'.cell? ⟨g, off + j * 4, none⟩ = some (.string (mtext (q))) ∧ w'.cell? ⟨g, off + j * 4 + 1, none⟩ = some (.int .i64 ((q : Int) + 1)) ∧ w'.cell? ⟨g, off + j * 4 + 2, none⟩ = some (.int .i64 ((q : Int) + 1 + 1)) ∧ w'.cell? ⟨g, off + j * 4 + 3, none⟩ = some (.int .i64 ((q : Int) + 1 + 1 + 1))) ∧ Below wr.heap.size wr w') (first | exact ⟨⟨c0, c1, c2, c3⟩, bt⟩ | exact ⟨⟨c0, c1, c2, c3⟩, bt.drew⟩ | exact ⟨⟨(hbA.cell lg).trans c0, (hbA.cell lg).trans c1, (hbA.cell lg).trans c2, (hbA.cell lg).trans c3⟩, bt.drew.trans (hbA.mono bt.size)⟩)
        (first | (go_at_call 56; refine (markText_at _ (q) _ (by push_cast; omega) hx0 hx1).mono ?_; rintro e w1 ⟨rfl, hbA⟩))
      rename_i hheld
      clear bt lg hx0 hx1 c0 c1 c2 c3
      obtain ⟨⟨c0, c1, c2, c3⟩, bt⟩ := hheld
      go_wp2_with fail
      go_roundw
      case rel =>
        refine ⟨j + 1, q + 1 + 1 + 1 + 1, by omega, by go_num, by go_num, ?_, hb.trans (bt.mono hz)⟩
        have := HQ.out; have := hq.out; have hc0 : c.cnt = 1 + 1 + 1 + 1 := rfl; show _ = _; omega
      case measure => simp [intOf]; omega
    · obtain rfl : j = l.length := by omega
      rw [List.take_length] at hq
      go_wp2_with fail
      go_ret
      exact ⟨by rw [hq.out]; rfl, hb⟩
end Go.Proofs.YtekobbeoaalibaaGreatDoor
end

section
namespace Go.Proofs.YtekobbeoaalibaaGreatDoor
open Go.RowKit
set_option linter.unusedVariables false

set_option maxRecDepth 100000 in
set_option maxHeartbeats 1000000 in
theorem heldRecordTypeS_any (l : List RecT) (v : Value) (x : Int) (k : Nat) (w : World) (lo hi : Nat) (hx : x = (k : Int)) (h : LRep w lo hi 3 RecT.dats v (markL RecT.mark RecT.cnt k l)) (hhi : hi ≤ w.heap.size) (hk0 : 0 < k) (hk1 : k + sumOf RecT.cnt l ≤ 1099511627776) :
    Calls Tryz.prog 67 #[v, .int .i64 x] w fun e w' => e = .returned (.int .i64 ((k + sumOf RecT.cnt l : Nat) : Int)) ∧ Below w.heap.size w w' := by
  subst hx
  have hget : ∀ (j : Nat) (c : RecT), l[j]? = some c → (markL RecT.mark RecT.cnt k l)[j]? = some (RecT.mark (k + sumOf RecT.cnt (l.take j)) c) := fun j c hc => markL_get hc
  have hlen := markL_len (mk := RecT.mark) (cnt := RecT.cnt) l k
  obtain ⟨l', hl'⟩ : ∃ l', markL RecT.mark RecT.cnt k l = l' := ⟨_, rfl⟩
  rw [hl'] at h hget hlen
  clear hl'
  obtain ⟨A, cap, rfl, hc1, hc2⟩ := h.shape
  unfold maxLen at hc2
  have HG := Lib.hid hget
  have HR := Lib.hid h
  clear hget h
  rw [hlen] at hc1 ⊢
  clear hlen
  go_enter Tryz.func67, Tryz.ntmps67
  go_wp2_with fail
  go_loopw [1, 5] (fun m i wr => ∃ j q : Nat, j ≤ l.length ∧ i = .int .i64 j ∧ m = .int .i64 q ∧ Hid (q = k + sumOf RecT.cnt (l.take j)) ∧ Below w.heap.size w wr) (fun _ i _ => l.length - (intOf i).toNat)
  case atStart => exact ⟨0, k, Nat.zero_le _, rfl, rfl, by simp [sumOf, Hid], Below.refl _ _⟩
  case round =>
    obtain ⟨j, q, hj, rfl, rfl, hq, hb⟩ := hrel
    by_cases hlt : j < l.length
    · obtain ⟨c, hc⟩ : ∃ c, l[j]? = some c := ⟨_, List.getElem?_eq_getElem hlt⟩
      have hg := HG.out j c hc
      rw [← hq.out] at hg
      obtain ⟨g, off, Afields, nfields, rfl, hg1, hg2, hmem, hrep, q0, q1, q2⟩ := RecT.at_ (HR.out.below hb hhi) hg
      have hr := RecT.rows hrep
      have rfields := hr
      clear hr
      have hle := sumOf_take_le RecT.cnt l (j + 1)
      rw [sumOf_snoc (b := RecT.cnt) hc] at hle
      have q0' : 0 < q := by have := hq.out; omega
      have q1' : q + c.cnt ≤ 1099511627776 := by have := hq.out; omega
      have hc0 : c.cnt = 1 + sumOf strCnt c.fields + 1 := rfl
      rw [hc0] at q1'
      have HQ := Lib.hid (sumOf_snoc (b := RecT.cnt) hc)
      clear hle hc hg hmem hrep hc0
      have c0 : wr.cell? ⟨g, off + j * 3, none⟩ = some (.string (mtext (q))) := q0
      have c1 : wr.cell? ⟨g, off + j * 3 + 1, none⟩ = some (.slice Afields (RecT.mark q c).fields.length nfields) := q1
      have c2 : wr.cell? ⟨g, off + j * 3 + 2, none⟩ = some (.int .i64 (((q + 1 + sumOf strCnt c.fields : Nat) : Int))) := q2
      clear q0 q1 q2
      have hz := hb.size
      have bt : Below wr.heap.size wr wr := Below.refl _ _
      go_wp2_with fail
      have lg : g < wr.drew.heap.size := Nat.lt_of_lt_of_le hg2 (Nat.le_trans hhi (hb.trans (bt.mono hz)).size)
      have hx0 : 0 < q := by omega
      have hx1 : q ≤ 1099511627776 := by omega
      go_region_held3 (fun w' => (w'.cell? ⟨g, off + j * 3, none⟩ = some (.string (mtext (q))) ∧ w'.cell? ⟨g, off + j * 3 + 1, none⟩ = some (.slice Afields (RecT.mark q c).fields.length nfields) ∧ w'.cell? ⟨g, off + j * 3 + 2, none⟩ = some (.int .i64 (((q + 1 + sumOf strCnt c.fields : Nat) : Int)))) ∧ Below wr.heap.size wr w') (first | exact ⟨⟨c0, c1, c2⟩, bt⟩ | exact ⟨⟨c0, c1, c2⟩, bt.drew⟩ | exact ⟨⟨(hbA.cell lg).trans c0, (hbA.cell lg).trans c1, (hbA.cell lg).trans c2⟩, bt.drew.trans (hbA.mono bt.size)⟩)
        (first | (go_at_call 56; refine (markText_at _ (q) _ (by push_cast; omega) hx0 hx1).mono ?_; rintro e w1 ⟨rfl, hbA⟩))
      rename_i hheld
      clear bt lg hx0 hx1 c0 c1 c2
      obtain ⟨⟨c0, c1, c2⟩, bt⟩ := hheld
      go_wp2_with fail
      have bw2 := hb.trans (bt.mono hz)
      have lg : g < w1.heap.size := Nat.lt_of_lt_of_le hg2 (Nat.le_trans hhi bw2.size)
      refine (heldStrs_any c.fields _ _ (q + 1) _ lo hi (by push_cast; omega) (LRep.below rfields bt (Nat.le_trans hhi hz)) (Nat.le_trans hhi bw2.size) (by omega) (by omega)).mono ?_; rintro e w2 ⟨rfl, hbA⟩
      replace c0 := (hbA.cell lg).trans c0
      replace c1 := (hbA.cell lg).trans c1
      replace c2 := (hbA.cell lg).trans c2
      replace bt := bt.trans (hbA.mono bt.size)
      clear hbA lg
      go_wp2_with fail
      go_roundw
      case rel =>
        refine ⟨j + 1, q + 1 + sumOf strCnt c.fields + 1, by omega, by go_num, by go_num, ?_, hb.trans (bt.mono hz)⟩
        have := HQ.out; have := hq.out; have hc0 : c.cnt = 1 + sumOf strCnt c.fields + 1 := rfl; show _ = _; omega
      case measure => simp [intOf]; omega
    · obtain rfl : j = l.length := by omega
      rw [List.take_length] at hq
      go_wp2_with fail
      go_ret
      exact ⟨by rw [hq.out]; rfl, hb⟩
end Go.Proofs.YtekobbeoaalibaaGreatDoor
end

section
namespace Go.Proofs.YtekobbeoaalibaaGreatDoor
open Go.RowKit
set_option linter.unusedVariables false

set_option maxRecDepth 100000 in
set_option maxHeartbeats 1000000 in
theorem heldInstrS_any (l : List InsT) (v : Value) (x : Int) (k : Nat) (w : World) (lo hi : Nat) (hx : x = (k : Int)) (h : LRep w lo hi 5 InsT.dats v (markL InsT.mark InsT.cnt k l)) (hhi : hi ≤ w.heap.size) (hk0 : 0 < k) (hk1 : k + sumOf InsT.cnt l ≤ 1099511627776) :
    Calls Tryz.prog 68 #[v, .int .i64 x] w fun e w' => e = .returned (.int .i64 ((k + sumOf InsT.cnt l : Nat) : Int)) ∧ Below w.heap.size w w' := by
  subst hx
  have hget : ∀ (j : Nat) (c : InsT), l[j]? = some c → (markL InsT.mark InsT.cnt k l)[j]? = some (InsT.mark (k + sumOf InsT.cnt (l.take j)) c) := fun j c hc => markL_get hc
  have hlen := markL_len (mk := InsT.mark) (cnt := InsT.cnt) l k
  obtain ⟨l', hl'⟩ : ∃ l', markL InsT.mark InsT.cnt k l = l' := ⟨_, rfl⟩
  rw [hl'] at h hget hlen
  clear hl'
  obtain ⟨A, cap, rfl, hc1, hc2⟩ := h.shape
  unfold maxLen at hc2
  have HG := Lib.hid hget
  have HR := Lib.hid h
  clear hget h
  rw [hlen] at hc1 ⊢
  clear hlen
  go_enter Tryz.func68, Tryz.ntmps68
  go_wp2_with fail
  go_loopw [1, 5] (fun m i wr => ∃ j q : Nat, j ≤ l.length ∧ i = .int .i64 j ∧ m = .int .i64 q ∧ Hid (q = k + sumOf InsT.cnt (l.take j)) ∧ Below w.heap.size w wr) (fun _ i _ => l.length - (intOf i).toNat)
  case atStart => exact ⟨0, k, Nat.zero_le _, rfl, rfl, by simp [sumOf, Hid], Below.refl _ _⟩
  case round =>
    obtain ⟨j, q, hj, rfl, rfl, hq, hb⟩ := hrel
    by_cases hlt : j < l.length
    · obtain ⟨c, hc⟩ : ∃ c, l[j]? = some c := ⟨_, List.getElem?_eq_getElem hlt⟩
      have hg := HG.out j c hc
      rw [← hq.out] at hg
      obtain ⟨g, off, rfl, hg1, hg2, hmem, hrep, q0, q1, q2, q3, q4⟩ := InsT.at_ (HR.out.below hb hhi) hg
      have hle := sumOf_take_le InsT.cnt l (j + 1)
      rw [sumOf_snoc (b := InsT.cnt) hc] at hle
      have q0' : 0 < q := by have := hq.out; omega
      have q1' : q + c.cnt ≤ 1099511627776 := by have := hq.out; omega
      have hc0 : c.cnt = 1 + 1 + 1 + 1 + 1 := rfl
      rw [hc0] at q1'
      have HQ := Lib.hid (sumOf_snoc (b := InsT.cnt) hc)
      clear hle hc hg hmem hrep hc0
      have c0 : wr.cell? ⟨g, off + j * 5, none⟩ = some (.int .i64 ((q : Int))) := q0
      have c1 : wr.cell? ⟨g, off + j * 5 + 1, none⟩ = some (.int .i64 ((q : Int) + 1)) := q1
      have c2 : wr.cell? ⟨g, off + j * 5 + 2, none⟩ = some (.int .i64 ((q : Int) + 1 + 1)) := q2
      have c3 : wr.cell? ⟨g, off + j * 5 + 3, none⟩ = some (.int .i64 ((q : Int) + 1 + 1 + 1)) := q3
      have c4 : wr.cell? ⟨g, off + j * 5 + 4, none⟩ = some (.string (mtext (q + 1 + 1 + 1 + 1))) := q4
      clear q0 q1 q2 q3 q4
      have hz := hb.size
      have bt : Below wr.heap.size wr wr := Below.refl _ _
      go_wp2_with fail
      have lg : g < wr.drew.heap.size := Nat.lt_of_lt_of_le hg2 (Nat.le_trans hhi (hb.trans (bt.mono hz)).size)
      have hx0 : 0 < q + 1 + 1 + 1 + 1 := by omega
      have hx1 : q + 1 + 1 + 1 + 1 ≤ 1099511627776 := by omega
      go_region_held3 (fun w' => (w'.cell? ⟨g, off + j * 5, none⟩ = some (.int .i64 ((q : Int))) ∧ w'.cell? ⟨g, off + j * 5 + 1, none⟩ = some (.int .i64 ((q : Int) + 1)) ∧ w'.cell? ⟨g, off + j * 5 + 2, none⟩ = some (.int .i64 ((q : Int) + 1 + 1)) ∧ w'.cell? ⟨g, off + j * 5 + 3, none⟩ = some (.int .i64 ((q : Int) + 1 + 1 + 1)) ∧ w'.cell? ⟨g, off + j * 5 + 4, none⟩ = some (.string (mtext (q + 1 + 1 + 1 + 1)))) ∧ Below wr.heap.size wr w') (first | exact ⟨⟨c0, c1, c2, c3, c4⟩, bt⟩ | exact ⟨⟨c0, c1, c2, c3, c4⟩, bt.drew⟩ | exact ⟨⟨(hbA.cell lg).trans c0, (hbA.cell lg).trans c1, (hbA.cell lg).trans c2, (hbA.cell lg).trans c3, (hbA.cell lg).trans c4⟩, bt.drew.trans (hbA.mono bt.size)⟩)
        (first | (go_at_call 56; refine (markText_at _ (q + 1 + 1 + 1 + 1) _ (by push_cast; omega) hx0 hx1).mono ?_; rintro e w1 ⟨rfl, hbA⟩))
      rename_i hheld
      clear bt lg hx0 hx1 c0 c1 c2 c3 c4
      obtain ⟨⟨c0, c1, c2, c3, c4⟩, bt⟩ := hheld
      go_wp2_with fail
      go_roundw
      case rel =>
        refine ⟨j + 1, q + 1 + 1 + 1 + 1 + 1, by omega, by go_num, by go_num, ?_, hb.trans (bt.mono hz)⟩
        have := HQ.out; have := hq.out; have hc0 : c.cnt = 1 + 1 + 1 + 1 + 1 := rfl; show _ = _; omega
      case measure => simp [intOf]; omega
    · obtain rfl : j = l.length := by omega
      rw [List.take_length] at hq
      go_wp2_with fail
      go_ret
      exact ⟨by rw [hq.out]; rfl, hb⟩
end Go.Proofs.YtekobbeoaalibaaGreatDoor
end

section
namespace Go.Proofs.YtekobbeoaalibaaGreatDoor
open Go.RowKit
set_option linter.unusedVariables false

set_option maxRecDepth 100000 in
set_option maxHeartbeats 1000000 in
theorem heldEditS_any (l : List EditT) (v : Value) (x : Int) (k : Nat) (w : World) (lo hi : Nat) (hx : x = (k : Int)) (h : LRep w lo hi 2 EditT.dats v (markL EditT.mark EditT.cnt k l)) (hhi : hi ≤ w.heap.size) (hk0 : 0 < k) (hk1 : k + sumOf EditT.cnt l ≤ 1099511627776) :
    Calls Tryz.prog 27 #[v, .int .i64 x] w fun e w' => e = .returned (.int .i64 ((k + sumOf EditT.cnt l : Nat) : Int)) ∧ Below w.heap.size w w' := by
  subst hx
  have hget : ∀ (j : Nat) (c : EditT), l[j]? = some c → (markL EditT.mark EditT.cnt k l)[j]? = some (EditT.mark (k + sumOf EditT.cnt (l.take j)) c) := fun j c hc => markL_get hc
  have hlen := markL_len (mk := EditT.mark) (cnt := EditT.cnt) l k
  obtain ⟨l', hl'⟩ : ∃ l', markL EditT.mark EditT.cnt k l = l' := ⟨_, rfl⟩
  rw [hl'] at h hget hlen
  clear hl'
  obtain ⟨A, cap, rfl, hc1, hc2⟩ := h.shape
  unfold maxLen at hc2
  have HG := Lib.hid hget
  have HR := Lib.hid h
  clear hget h
  rw [hlen] at hc1 ⊢
  clear hlen
  go_enter Tryz.func27, Tryz.ntmps27
  go_wp2_with fail
  go_loopw [1, 5] (fun m i wr => ∃ j q : Nat, j ≤ l.length ∧ i = .int .i64 j ∧ m = .int .i64 q ∧ Hid (q = k + sumOf EditT.cnt (l.take j)) ∧ Below w.heap.size w wr) (fun _ i _ => l.length - (intOf i).toNat)
  case atStart => exact ⟨0, k, Nat.zero_le _, rfl, rfl, by simp [sumOf, Hid], Below.refl _ _⟩
  case round =>
    obtain ⟨j, q, hj, rfl, rfl, hq, hb⟩ := hrel
    by_cases hlt : j < l.length
    · obtain ⟨c, hc⟩ : ∃ c, l[j]? = some c := ⟨_, List.getElem?_eq_getElem hlt⟩
      have hg := HG.out j c hc
      rw [← hq.out] at hg
      obtain ⟨g, off, rfl, hg1, hg2, hmem, hrep, q0, q1⟩ := EditT.at_ (HR.out.below hb hhi) hg
      have hle := sumOf_take_le EditT.cnt l (j + 1)
      rw [sumOf_snoc (b := EditT.cnt) hc] at hle
      have q0' : 0 < q := by have := hq.out; omega
      have q1' : q + c.cnt ≤ 1099511627776 := by have := hq.out; omega
      have hc0 : c.cnt = 1 + 1 := rfl
      rw [hc0] at q1'
      have HQ := Lib.hid (sumOf_snoc (b := EditT.cnt) hc)
      clear hle hc hg hmem hrep hc0
      have c0 : wr.cell? ⟨g, off + j * 2, none⟩ = some (.int .i64 ((q : Int))) := q0
      have c1 : wr.cell? ⟨g, off + j * 2 + 1, none⟩ = some (.int .i64 ((q : Int) + 1)) := q1
      clear q0 q1
      have hz := hb.size
      have bt : Below wr.heap.size wr wr := Below.refl _ _
      go_wp2_with fail
      go_roundw
      case rel =>
        refine ⟨j + 1, q + 1 + 1, by omega, by go_num, by go_num, ?_, hb.trans (bt.mono hz)⟩
        have := HQ.out; have := hq.out; have hc0 : c.cnt = 1 + 1 := rfl; show _ = _; omega
      case measure => simp [intOf]; omega
    · obtain rfl : j = l.length := by omega
      rw [List.take_length] at hq
      go_wp2_with fail
      go_ret
      exact ⟨by rw [hq.out]; rfl, hb⟩
end Go.Proofs.YtekobbeoaalibaaGreatDoor
end

section
namespace Go.Proofs.YtekobbeoaalibaaGreatDoor
open Go.RowKit
set_option linter.unusedVariables false

set_option maxRecDepth 100000 in
set_option maxHeartbeats 1000000 in
theorem heldCode_any (c : CodeT) (v : Value) (x : Int) (k : Nat) (w : World) (lo hi : Nat) (hx : x = (k : Int)) (h : SRep w lo hi CodeT.dats v (c.mark k)) (hhi : hi ≤ w.heap.size) (hk0 : 0 < k) (hk1 : k + c.cnt ≤ 1099511627776) :
    Calls Tryz.prog 32 #[v, .int .i64 x] w fun e w' => e = .returned (.int .i64 ((k + c.cnt : Nat) : Int)) ∧ Below w.heap.size w w' := by
  subst hx
  unfold CodeT.cnt at hk1 ⊢
  obtain ⟨Aroutines, nroutines, Arecords, nrecords, Aglobals, nglobals, Ainstrs, ninstrs, rfl, hroutines, uroutines, mroutines, hrecords, urecords, mrecords, hglobals, uglobals, mglobals, hinstrs, uinstrs, minstrs⟩ := CodeT.form h
  unfold maxLen at mroutines
  unfold maxLen at mrecords
  unfold maxLen at mglobals
  unfold maxLen at minstrs
  have hw0 : Below w.heap.size w (w.alloc (.cells #[Value.slice Aroutines (c.mark k).routines.length nroutines, .slice Arecords (c.mark k).records.length nrecords, .slice Aglobals (c.mark k).globals.length nglobals, .int .i64 (c.mark k).main, .slice Ainstrs (c.mark k).instrs.length ninstrs] 34)) := (Below.refl _ _).alloc (Nat.le_refl _) _
  have a0 := Blk.new w 34 #[Value.slice Aroutines (c.mark k).routines.length nroutines, .slice Arecords (c.mark k).records.length nrecords, .slice Aglobals (c.mark k).globals.length nglobals, .int .i64 (c.mark k).main, .slice Ainstrs (c.mark k).instrs.length ninstrs]
  have ca := a0.cell
  have la := a0.lt
  go_enter Tryz.func32, Tryz.ntmps32
  go_wp2_with fail
  refine (heldCodeRoutineS_any c.routines _ _ (k) _ lo hi (by push_cast; omega) (hroutines.below hw0 hhi) (Nat.le_trans hhi hw0.size) (by omega) (by omega)).mono ?_; rintro e w1 ⟨rfl, hb⟩
  have a1 := a0.later hb
  have hw1 := hw0.trans (hb.mono hw0.size)
  clear ca la hb a0
  have ca := a1.cell
  have la := a1.lt
  go_wp2_with fail
  refine (heldRecordTypeS_any c.records _ _ (k + sumOf CRoT.cnt c.routines) _ lo hi (by push_cast; omega) (hrecords.below hw1 hhi) (Nat.le_trans hhi hw1.size) (by omega) (by omega)).mono ?_; rintro e w2 ⟨rfl, hb⟩
  have a2 := a1.later hb
  have hw2 := hw1.trans (hb.mono hw1.size)
  clear ca la hb a1
  have ca := a2.cell
  have la := a2.lt
  go_wp2_with fail
  refine (heldStrs_any c.globals _ _ (k + sumOf CRoT.cnt c.routines + sumOf RecT.cnt c.records) _ lo hi (by push_cast; omega) (hglobals.below hw2 hhi) (Nat.le_trans hhi hw2.size) (by omega) (by omega)).mono ?_; rintro e w3 ⟨rfl, hb⟩
  have a3 := a2.later hb
  have hw3 := hw2.trans (hb.mono hw2.size)
  clear ca la hb a2
  have ca := a3.cell
  have la := a3.lt
  go_wp2_with fail
  refine (heldInstrS_any c.instrs _ _ (k + sumOf CRoT.cnt c.routines + sumOf RecT.cnt c.records + sumOf strCnt c.globals) _ lo hi (by push_cast; omega) (hinstrs.below hw3 hhi) (Nat.le_trans hhi hw3.size) (by omega) (by omega)).mono ?_; rintro e w4 ⟨rfl, hb⟩
  have a4 := a3.later hb
  have hw4 := hw3.trans (hb.mono hw3.size)
  clear ca la hb a3
  have ca := a4.cell
  have la := a4.lt
  go_wp2_with fail
  go_ret
  exact ⟨ret_int (by push_cast; omega), hw4⟩
end Go.Proofs.YtekobbeoaalibaaGreatDoor
end
