/- OutcomeText of the program: it returns outcomeText. -/
import Derived.Test.YtgkgoofapgabhaaDoorOutText
namespace Go.Proofs.YtgkgoofapgabhaaDoor
open Go.RowKit

set_option maxRecDepth 100000 in
set_option maxHeartbeats 4000000 in
theorem impl_OutcomeText (x : Value) (o : Outc) (w : World) {lo hi : Nat} (h : OutRep w lo hi x o) (hhi : hi ≤ w.heap.size) (hb : o.bulk ≤ 1048576) (ht : PowTab w) (i1 : -9223372036854775808 ≤ o.fault) (i2 : o.fault ≤ 9223372036854775807) (i3 : -9223372036854775808 ≤ o.line) (i4 : o.line ≤ 9223372036854775807) :
    Calls Tryd.prog 13 #[x] w fun e w' => e = .returned (.string (outcomeText o)) ∧ Below w.heap.size w w' := by
  obtain ⟨vo, vt, vd, rfl, ho, -, -⟩ := h
  have Ho := ho.rds
  clear ho
  obtain ⟨A, c, rfl, hc1, hc2, -⟩ := Ho.shape
  unfold maxLen at hc2
  have hval : o.value.size ≤ 1048576 := by unfold Outc.bulk at hb; omega
  have hlen : o.output.length ≤ 1048576 := by unfold Outc.bulk bulkTexts at hb; omega
  have HT := Lib.hid (outcTo_bd o hb i1 i2 i3 i4)
  have s1 := formatInt_size o.fault i1 i2
  have s2 := formatInt_size o.line i3 i4
  have s3 := faultText_size o.fault
  unfold Outc.val
  go_enter Tryd.func13, Tryd.ntmps13
  go_upto_block 0 with fail
  have a0 : Blk (w.alloc (.cells #[.int .i64 o.status, .string o.value, .int .i64 o.fault, .int .i64 o.line, .int .i64 o.ticks, .slice A o.output.length c, vt, vd] 30)) w.heap.size 30 #[.int .i64 o.status, .string o.value, .int .i64 o.fault, .int .i64 o.line, .int .i64 o.ticks, .slice A o.output.length c, vt, vd] := Blk.new w _ _
  have hw0 : Below w.heap.size w (w.alloc (.cells #[.int .i64 o.status, .string o.value, .int .i64 o.fault, .int .i64 o.line, .int .i64 o.ticks, .slice A o.output.length c, vt, vd] 30)) := (Below.refl _ _).alloc (Nat.le_refl _) _
  go_cut [3] (fun v wx => v = .string (outcHead o) ∧ Blk wx w.heap.size 30 #[.int .i64 o.status, .string o.value, .int .i64 o.fault, .int .i64 o.line, .int .i64 o.ticks, .slice A o.output.length c, vt, vd] ∧ Below w.heap.size w wx)
  case first =>
    by_cases h1 : o.status = 1
    · have H := Lib.hid (oh1 h1)
      have b1 : (o.status == 1) = true := beq_iff_eq.2 h1
      clear h1
      go_wp2_with fail
      go_meet
      exact ⟨by rw [H.out]; rfl, a0, hw0⟩
    have b1 : (o.status == 1) = false := beq_eq_false_iff_ne.2 h1
    by_cases h2 : o.status = 2
    · have H := Lib.hid (oh2 h2)
      have b2 : (o.status == 2) = true := beq_iff_eq.2 h2
      clear h1 h2
      go_wp2_with fail
      go_meet
      exact ⟨by rw [H.out], a0, hw0⟩
    have b2 : (o.status == 2) = false := beq_eq_false_iff_ne.2 h2
    by_cases h3 : o.status = 3
    · have H := Lib.hid (oh3 h3)
      have b3 : (o.status == 3) = true := beq_iff_eq.2 h3
      clear h1 h2 h3
      have e1 : ¬ (9223372036854775807 < 6 + (formatInt o.fault).size) := by omega
      have e2 : ¬ (9223372036854775807 < 6 + (formatInt o.fault).size + 9) := by omega
      have e3 : ¬ (9223372036854775807 < 6 + (formatInt o.fault).size + 9 + (formatInt o.line).size) := by omega
      have e4 : ¬ (9223372036854775807 < 6 + (formatInt o.fault).size + 9 + (formatInt o.line).size + 2) := by omega
      have e5 : ¬ (9223372036854775807 < 6 + (formatInt o.fault).size + 9 + (formatInt o.line).size + 2 + (faultText o.fault).size) := by omega
      have ca0 := a0.cell
      have hz0 : w.heap.size ≤ (w.alloc (.cells #[.int .i64 o.status, .string o.value, .int .i64 o.fault, .int .i64 o.line, .int .i64 o.ticks, .slice A o.output.length c, vt, vd] 30)).drew.heap.size := hw0.size
      have p0 : PowTab (w.alloc (.cells #[.int .i64 o.status, .string o.value, .int .i64 o.fault, .int .i64 o.line, .int .i64 o.ticks, .slice A o.output.length c, vt, vd] 30)).drew := ht.later hw0.drew
      go_wp2_with fail
      generalize hW : (w.alloc (.cells #[.int .i64 o.status, .string o.value, .int .i64 o.fault, .int .i64 o.line, .int .i64 o.ticks, .slice A o.output.length c, vt, vd] 30)) = W0 at *
      clear hW
      go_region_held3 (fun w' => (∀ i, w'.cell? ⟨w.heap.size, i, none⟩ = #[.int .i64 o.status, .string o.value, .int .i64 o.fault, .int .i64 o.line, .int .i64 o.ticks, .slice A o.output.length c, vt, vd][i]?)) (first | exact ca0 | exact (a0.drew.later hbA).cell | exact ((a0.drew.later hbA).later hbB).cell | exact (((a0.drew.later hbA).later hbB).later hbF).cell)
        (first
        | (go_at_call_of 35 (Value.int IntKind.i64 o.fault); refine (impl_FormatInt _ _ (by assumption) (by assumption) p0).mono ?_; rintro e wA ⟨rfl, hbA⟩)
        | (go_at_call_of 35 (Value.int IntKind.i64 o.line); refine (impl_FormatInt _ _ (by assumption) (by assumption) (p0.later hbA)).mono ?_; rintro e wB ⟨rfl, hbB⟩)
        | (go_at_call 36; refine (impl_FaultText _ _).mono ?_; rintro e wF ⟨rfl, hbF⟩))
      have a1 := ((a0.drew.later hbA).later hbB).later hbF
      have hw1 : Below w.heap.size w _ := ((hw0.drew.trans (hbA.mono hz0)).trans (hbB.mono (Nat.le_trans hz0 hbA.size))).trans (hbF.mono (Nat.le_trans (Nat.le_trans hz0 hbA.size) hbB.size))
      go_wp2_with fail
      go_meet
      exact ⟨by rw [H.out]; rfl, a1, hw1⟩
    have b3 : (o.status == 3) = false := beq_eq_false_iff_ne.2 h3
    by_cases h4 : o.status = 4
    · have H := Lib.hid (oh4 h4)
      have b4 : (o.status == 4) = true := beq_iff_eq.2 h4
      clear h1 h2 h3 h4
      go_wp2_with fail
      go_meet
      exact ⟨by rw [H.out], a0, hw0⟩
    have b4 : (o.status == 4) = false := beq_eq_false_iff_ne.2 h4
    have H := Lib.hid (oh5 h1 h2 h3 h4)
    clear h1 h2 h3 h4
    go_wp2_with fail
    go_meet
    exact ⟨by rw [H.out], a0, hw0⟩
  case rest =>
    obtain ⟨rfl, a1, hw1⟩ := hcut
    clear a0 hw0
    have ca1 := a1.cell
    go_wp2_with fail
    go_loopw [3, 36] (fun v i wr => ∃ k : Nat, k ≤ o.output.length ∧ i = .int .i64 k ∧ v = .string (outcTo o k) ∧ Blk wr w.heap.size 30 #[.int .i64 o.status, .string o.value, .int .i64 o.fault, .int .i64 o.line, .int .i64 o.ticks, .slice A o.output.length c, vt, vd] ∧ Below w.heap.size w wr) (fun _ i _ => o.output.length - (intOf i).toNat)
    case atStart => exact ⟨0, Nat.zero_le _, rfl, rfl, a1, hw1⟩
    case round =>
      clear ca1 a1 hw1
      obtain ⟨k, hk, rfl, rfl, a1, hw1⟩ := hrel
      obtain ⟨wo, rfl⟩ : ∃ wo : World, wo = wr := ⟨_, rfl⟩
      have ca1 := a1.cell
      by_cases hkl : k < o.output.length
      · have hr := Ho.below hw1 hhi
        obtain ⟨g, off, t, rfl, hg1, hg2, hq, hcell⟩ := hr.atMap hkl
        have hts : t.size ≤ 1048576 := by
          have l1 := letters_snoc hq
          have l2 := letters_take_le o.output (k + 1)
          unfold Outc.bulk bulkTexts at hb; omega
        have T1 := HT.out k
        have T2 := HT.out (k + 1)
        have H := Lib.hid (outcTo_succ hq)
        rw [outcTo_succ hq, ByteArray.size_append, ByteArray.size_append] at T2
        have hsz : tSemi.size = 2 := rfl
        rw [hsz] at T2
        clear hq hr
        have e0 : (0 : Int) ≤ (k : Int) := by omega
        have e8 : (k : Int) < (o.output.length : Int) := by omega
        have e6 : ¬ (9223372036854775807 < (outcTo o k).size + 2) := by omega
        have e7 : ¬ (9223372036854775807 < (outcTo o k).size + 2 + (quoted 34 t).size) := by omega
        have hlo : w.heap.size ≤ wo.heap.size := hw1.size
        go_wp2_with fail
        go_at_call 30
        refine (impl_QuoteText _ _ (by assumption)).mono ?_
        rintro e wQ ⟨rfl, hbQ⟩
        have a2 := a1.later hbQ
        have hw2 : Below w.heap.size w _ := hw1.trans (hbQ.mono hlo)
        go_wp2_with fail
        go_roundw
        case rel => exact ⟨k + 1, by omega, by go_num, by rw [H.out]; rfl, a2, hw2⟩
        case measure => simp [intOf]; omega
      · obtain rfl : k = o.output.length := by omega
        go_wp2_with fail
        go_ret
        exact ⟨rfl, hw1⟩
end Go.Proofs.YtgkgoofapgabhaaDoor
