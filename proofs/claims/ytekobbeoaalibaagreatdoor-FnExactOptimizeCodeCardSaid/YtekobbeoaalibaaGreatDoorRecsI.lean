/- Which record types are valid: validRecords of the program. -/
import Derived.Test.YtekobbeoaalibaaGreatDoorNamesL
import Derived.Test.YtekobbeoaalibaaGreatDoorTyAll
namespace Go.Proofs.YtekobbeoaalibaaGreatDoor
open Go.RowKit
set_option linter.unusedVariables false

noncomputable def recOk (r : RecT) : Bool := isNameB r.name && decide (r.fields.length ≤ 6) && r.fields.all isNameB && !twiceB r.fields && decide (0 ≤ r.line)
noncomputable def recsOk (l : List RecT) : Bool := l.all recOk && decide (l.length ≤ 8)

set_option maxRecDepth 100000 in
set_option maxHeartbeats 2000000 in
theorem impl_validRecords (l : List RecT) (v : Value) (w : World) (lo hi : Nat) (h : LRep w lo hi 3 RecT.dats v l) (hhi : hi ≤ w.heap.size) (hst : SpaceTab w) :
    Calls Tryz.prog 87 #[v] w fun e w' => e = .returned (.bool (recsOk l)) ∧ Below w.heap.size w w' := by
  obtain ⟨A, cap, rfl, hc1, hc2⟩ := h.shape
  unfold maxLen at hc2
  go_enter Tryz.func87, Tryz.ntmps87
  go_wp2_with fail
  go_loopw [7] (fun i wr => ∃ k : Nat, k ≤ l.length ∧ i = .int .i64 k ∧ Hid ((l.take k).all recOk = true) ∧ Below w.heap.size w wr) (fun i _ => l.length - (intOf i).toNat)
  case atStart => exact ⟨0, Nat.zero_le _, rfl, by simp [Hid], Below.refl _ _⟩
  case round =>
    obtain ⟨k, hk, rfl, hgo, hb⟩ := hrel
    obtain ⟨wo, rfl⟩ : ∃ wo : World, wo = wr := ⟨_, rfl⟩
    have hz := hb.size
    by_cases hlt : k < l.length
    · obtain ⟨c, hc⟩ : ∃ c, l[k]? = some c := ⟨_, List.getElem?_eq_getElem hlt⟩
      obtain ⟨g, off, Afields, nfields, rfl, hg1, hg2, hmem, hcr, q0, q1, q2⟩ := RecT.at_ (h.below hb hhi) hc
      have hfl := RecT.rows hcr
      have HB : Hid (recOk c = (isNameB c.name && decide (c.fields.length ≤ 6) && c.fields.all isNameB && !twiceB c.fields && decide (0 ≤ c.line))) := rfl
      have HS := Lib.hid (all_snoc (q := recOk) hc)
      have HM : Hid (recOk c = false → recsOk l = false) := fun e => by rw [recsOk, all_no hmem e]; rfl
      have hwa : Below w.heap.size w (wo.alloc (.cells #[Value.string c.name, .slice Afields c.fields.length nfields, .int .i64 c.line] 110)) := hb.alloc hz _
      have a0 := Blk.new wo 110 #[Value.string c.name, .slice Afields c.fields.length nfields, .int .i64 c.line]
      have hf0 := hfl.alloc (Nat.le_trans hhi hz) (.cells #[Value.string c.name, .slice Afields c.fields.length nfields, .int .i64 c.line] 110)
      clear hc hmem hcr hfl
      cases n1 : isNameB c.name with
      | false =>
        have HV : Hid (recsOk l = false) := HM.out (by rw [HB.out, n1]; simp)
        have N1 := Lib.hid n1
        clear n1 hgo
        go_wp2_with fail
        refine (impl_IsName c.name _ (hst.below hwa hst.2)).mono ?_; rw [N1.out]; rintro e w1 ⟨rfl, hb1⟩
        have hw1 := hwa.trans (hb1.mono (Nat.le_trans hz (by simp)))
        have a1 := a0.later hb1
        have hf1 := hf0.below hb1 (Nat.le_trans (Nat.le_trans hhi hz) (by simp))
        have ca := a1.cell
        have la := a1.lt
        clear hb1 q0 q1 q2
        go_wp2_with fail
        go_ret
        exact ⟨ret_bool HV.out.symm, hw1⟩
      | true =>
      have N1 := Lib.hid n1
      clear n1
      by_cases n2 : c.fields.length ≤ 6
      · have D2 := Lib.hid (decide_eq_true n2)
        cases n3 : c.fields.all isNameB with
        | false =>
          have HV : Hid (recsOk l = false) := HM.out (by rw [HB.out, N1.out, n3]; simp)
          have N3 := Lib.hid n3
          clear n3 hgo
          go_wp2_with fail
          refine (impl_IsName c.name _ (hst.below hwa hst.2)).mono ?_; rw [N1.out]; rintro e w1 ⟨rfl, hb1⟩
          have hw1 := hwa.trans (hb1.mono (Nat.le_trans hz (by simp)))
          have a1 := a0.later hb1
          have hf1 := hf0.below hb1 (Nat.le_trans (Nat.le_trans hhi hz) (by simp))
          have ca := a1.cell
          have la := a1.lt
          clear hb1 q0 q1 q2
          go_wp2_with fail
          refine (impl_allNames c.fields _ _ lo hi hf1 (Nat.le_trans hhi hw1.size) (hst.below hw1 hst.2)).mono ?_; rw [N3.out]; rintro e w2 ⟨rfl, hb2⟩
          have hw2 := hw1.trans (hb2.mono hw1.size)
          have a2 := a1.later hb2
          have hf2 := hf1.below hb2 (Nat.le_trans hhi hw1.size)
          clear ca la hb2
          have ca := a2.cell
          have la := a2.lt
          go_wp2_with fail
          go_ret
          exact ⟨ret_bool HV.out.symm, hw2⟩
        | true =>
        have N3 := Lib.hid n3
        clear n3
        cases n4 : twiceB c.fields with
        | true =>
          have HV : Hid (recsOk l = false) := HM.out (by rw [HB.out, n4]; simp)
          have N4 := Lib.hid n4
          clear n4 hgo
          go_wp2_with fail
          refine (impl_IsName c.name _ (hst.below hwa hst.2)).mono ?_; rw [N1.out]; rintro e w1 ⟨rfl, hb1⟩
          have hw1 := hwa.trans (hb1.mono (Nat.le_trans hz (by simp)))
          have a1 := a0.later hb1
          have hf1 := hf0.below hb1 (Nat.le_trans (Nat.le_trans hhi hz) (by simp))
          have ca := a1.cell
          have la := a1.lt
          clear hb1 q0 q1 q2
          go_wp2_with fail
          refine (impl_allNames c.fields _ _ lo hi hf1 (Nat.le_trans hhi hw1.size) (hst.below hw1 hst.2)).mono ?_; rw [N3.out]; rintro e w2 ⟨rfl, hb2⟩
          have hw2 := hw1.trans (hb2.mono hw1.size)
          have a2 := a1.later hb2
          have hf2 := hf1.below hb2 (Nat.le_trans hhi hw1.size)
          clear ca la hb2
          have ca := a2.cell
          have la := a2.lt
          go_wp2_with fail
          refine (impl_repeated c.fields _ _ lo hi hf2).mono ?_; rw [N4.out]; rintro e w3 ⟨rfl, hs3⟩
          have hw3 := hw2.trans ((hs3.below w2.heap.size).mono hw2.size)
          have a3 := a2.later (hs3.below _)
          clear ca la
          have ca := a3.cell
          have la := a3.lt
          go_wp2_with fail
          go_ret
          exact ⟨ret_bool HV.out.symm, hw3⟩
        | false =>
        have N4 := Lib.hid n4
        clear n4
        by_cases n5 : 0 ≤ c.line
        · have HG : Hid ((l.take (k + 1)).all recOk = true) := by show _ = _; rw [HS.out, hgo.out, HB.out, N1.out, D2.out, N3.out, N4.out, decide_eq_true n5]; rfl
          clear hgo
          go_wp2_with fail
          refine (impl_IsName c.name _ (hst.below hwa hst.2)).mono ?_; rw [N1.out]; rintro e w1 ⟨rfl, hb1⟩
          have hw1 := hwa.trans (hb1.mono (Nat.le_trans hz (by simp)))
          have a1 := a0.later hb1
          have hf1 := hf0.below hb1 (Nat.le_trans (Nat.le_trans hhi hz) (by simp))
          have ca := a1.cell
          have la := a1.lt
          clear hb1 q0 q1 q2
          go_wp2_with fail
          refine (impl_allNames c.fields _ _ lo hi hf1 (Nat.le_trans hhi hw1.size) (hst.below hw1 hst.2)).mono ?_; rw [N3.out]; rintro e w2 ⟨rfl, hb2⟩
          have hw2 := hw1.trans (hb2.mono hw1.size)
          have a2 := a1.later hb2
          have hf2 := hf1.below hb2 (Nat.le_trans hhi hw1.size)
          clear ca la hb2
          have ca := a2.cell
          have la := a2.lt
          go_wp2_with fail
          refine (impl_repeated c.fields _ _ lo hi hf2).mono ?_; rw [N4.out]; rintro e w3 ⟨rfl, hs3⟩
          have hw3 := hw2.trans ((hs3.below w2.heap.size).mono hw2.size)
          have a3 := a2.later (hs3.below _)
          clear ca la
          have ca := a3.cell
          have la := a3.lt
          go_wp2_with fail
          go_roundw
          case rel => exact ⟨k + 1, by omega, by go_num, HG, hw3⟩
          case measure => simp [intOf]; omega
        · have HV : Hid (recsOk l = false) := HM.out (by rw [HB.out, decide_eq_false n5]; simp)
          clear hgo
          go_wp2_with fail
          refine (impl_IsName c.name _ (hst.below hwa hst.2)).mono ?_; rw [N1.out]; rintro e w1 ⟨rfl, hb1⟩
          have hw1 := hwa.trans (hb1.mono (Nat.le_trans hz (by simp)))
          have a1 := a0.later hb1
          have hf1 := hf0.below hb1 (Nat.le_trans (Nat.le_trans hhi hz) (by simp))
          have ca := a1.cell
          have la := a1.lt
          clear hb1 q0 q1 q2
          go_wp2_with fail
          refine (impl_allNames c.fields _ _ lo hi hf1 (Nat.le_trans hhi hw1.size) (hst.below hw1 hst.2)).mono ?_; rw [N3.out]; rintro e w2 ⟨rfl, hb2⟩
          have hw2 := hw1.trans (hb2.mono hw1.size)
          have a2 := a1.later hb2
          have hf2 := hf1.below hb2 (Nat.le_trans hhi hw1.size)
          clear ca la hb2
          have ca := a2.cell
          have la := a2.lt
          go_wp2_with fail
          refine (impl_repeated c.fields _ _ lo hi hf2).mono ?_; rw [N4.out]; rintro e w3 ⟨rfl, hs3⟩
          have hw3 := hw2.trans ((hs3.below w2.heap.size).mono hw2.size)
          have a3 := a2.later (hs3.below _)
          clear ca la
          have ca := a3.cell
          have la := a3.lt
          go_wp2_with fail
          go_ret
          exact ⟨ret_bool HV.out.symm, hw3⟩
      · have HV : Hid (recsOk l = false) := HM.out (by rw [HB.out, decide_eq_false n2]; simp)
        clear hgo
        go_wp2_with fail
        refine (impl_IsName c.name _ (hst.below hwa hst.2)).mono ?_; rw [N1.out]; rintro e w1 ⟨rfl, hb1⟩
        have hw1 := hwa.trans (hb1.mono (Nat.le_trans hz (by simp)))
        have a1 := a0.later hb1
        have hf1 := hf0.below hb1 (Nat.le_trans (Nat.le_trans hhi hz) (by simp))
        have ca := a1.cell
        have la := a1.lt
        clear hb1 q0 q1 q2
        go_wp2_with fail
        go_ret
        exact ⟨ret_bool HV.out.symm, hw1⟩
    · obtain rfl : k = l.length := by omega
      rw [List.take_length] at hgo
      have HR : Hid (recsOk l = decide (l.length ≤ 8)) := by show _ = _; rw [recsOk, hgo.out]; rfl
      clear hgo
      go_wp2_with fail
      go_ret
      exact ⟨ret_bool (by rw [HR.out, Bool.eq_iff_iff]; simp <;> omega), hb⟩
end Go.Proofs.YtekobbeoaalibaaGreatDoor
