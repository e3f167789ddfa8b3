/- OutcomeText of the reference and of the program: both return outcomeText. -/
import Derived.Test.YtgkgoofapgabhaaDoorProg
import Derived.Test.YtgkgoofapgabhaaDoorFormatB
import Derived.Test.YtgkgoofapgabhaaDoorFault
import Derived.Test.YtgkgoofapgabhaaDoorOutcEq
import Derived.Deep.DeepCutAuto
import Derived.Deep.CutBlock
namespace Go.Proofs.YtgkgoofapgabhaaDoor
open Go.RowKit

def tReturned : ByteArray := ⟨#[114, 101, 116, 117, 114, 110, 101, 100, 32]⟩
def tError : ByteArray := ⟨#[101, 114, 114, 111, 114, 32]⟩
def tLine : ByteArray := ⟨#[32, 105, 110, 32, 108, 105, 110, 101, 32]⟩
def tColon : ByteArray := ⟨#[58, 32]⟩
def tSemi : ByteArray := ⟨#[59, 32]⟩
def outcHead (o : Outc) : ByteArray :=
  if o.status = 1 then tReturned ++ o.value else if o.status = 2 then ⟨#[102, 97, 105, 108, 101, 100]⟩
  else if o.status = 3 then ((((tError ++ formatInt o.fault) ++ tLine) ++ formatInt o.line) ++ tColon) ++ faultText o.fault
  else if o.status = 4 then ⟨#[111, 117, 116, 32, 111, 102, 32, 98, 117, 100, 103, 101, 116]⟩ else ⟨#[105, 110, 118, 97, 108, 105, 100]⟩
def outcTo (o : Outc) (k : Nat) : ByteArray := (o.output.take k).foldl (fun a t => a ++ (tSemi ++ quoted 34 t)) (outcHead o)
def outcomeText (o : Outc) : ByteArray := outcTo o o.output.length
theorem outcTo_succ {o : Outc} {k : Nat} {t : ByteArray} (h : o.output[k]? = some t) : outcTo o (k + 1) = outcTo o k ++ (tSemi ++ quoted 34 t) := by
  rw [outcTo, take_snoc_of h, List.foldl_append]; rfl

theorem outcHead_size (o : Outc) (h1 : -9223372036854775808 ≤ o.fault) (h2 : o.fault ≤ 9223372036854775807) (h3 : -9223372036854775808 ≤ o.line) (h4 : o.line ≤ 9223372036854775807) : (outcHead o).size ≤ 1000 + o.value.size := by
  have a := formatInt_size o.fault h1 h2
  have b := formatInt_size o.line h3 h4
  have c := faultText_size o.fault
  have t1 : tReturned.size = 9 := rfl
  have t2 : tError.size = 6 := rfl
  have t3 : tLine.size = 9 := rfl
  have t4 : tColon.size = 2 := rfl
  unfold outcHead
  split
  · rw [ByteArray.size_append]; omega
  split
  · show 6 ≤ _; omega
  split
  · simp only [ByteArray.size_append]; omega
  split
  · show 13 ≤ _; omega
  · show 7 ≤ _; omega
theorem outcTo_size (o : Outc) (h : (outcHead o).size ≤ 1000 + o.value.size) (k : Nat) : (outcTo o k).size ≤ 1000 + o.value.size + 4 * (o.output.take k).length + 4 * letters (o.output.take k) := by
  unfold outcTo
  generalize o.output.take k = l
  have : ∀ (l : List ByteArray) (a : ByteArray), (l.foldl (fun a t => a ++ (tSemi ++ quoted 34 t)) a).size ≤ a.size + 4 * l.length + 4 * letters l := by
    intro l
    induction l with
    | nil => intro a; simp [letters]
    | cons t l ih =>
      intro a
      rw [List.foldl_cons]
      have := ih (a ++ (tSemi ++ quoted 34 t))
      have hq := quoted_size 34 t
      have hs : tSemi.size = 2 := rfl
      simp only [ByteArray.size_append, letters, List.map_cons, List.sum_cons, List.length_cons] at this ⊢
      omega
  have := this l (outcHead o)
  omega
theorem outcTo_bd (o : Outc) (hb : o.bulk ≤ 1048576) (h1 : -9223372036854775808 ≤ o.fault) (h2 : o.fault ≤ 9223372036854775807) (h3 : -9223372036854775808 ≤ o.line) (h4 : o.line ≤ 9223372036854775807) (k : Nat) : (outcTo o k).size ≤ 10000000 := by
  have := outcTo_size o (outcHead_size o h1 h2 h3 h4) k
  have h5 := letters_take_le o.output k
  have h6 : (o.output.take k).length ≤ o.output.length := by rw [List.length_take]; omega
  unfold Outc.bulk bulkTexts at hb
  omega
theorem oh1 {o : Outc} (h : o.status = 1) : outcHead o = tReturned ++ o.value := by rw [outcHead, if_pos h]
theorem oh2 {o : Outc} (h : o.status = 2) : outcHead o = ⟨#[102, 97, 105, 108, 101, 100]⟩ := by rw [outcHead, if_neg (by omega), if_pos h]
theorem oh3 {o : Outc} (h : o.status = 3) : outcHead o = ((((tError ++ formatInt o.fault) ++ tLine) ++ formatInt o.line) ++ tColon) ++ faultText o.fault := by rw [outcHead, if_neg (by omega), if_neg (by omega), if_pos h]
theorem oh4 {o : Outc} (h : o.status = 4) : outcHead o = ⟨#[111, 117, 116, 32, 111, 102, 32, 98, 117, 100, 103, 101, 116]⟩ := by rw [outcHead, if_neg (by omega), if_neg (by omega), if_neg (by omega), if_pos h]
theorem oh5 {o : Outc} (h1 : ¬ o.status = 1) (h2 : ¬ o.status = 2) (h3 : ¬ o.status = 3) (h4 : ¬ o.status = 4) : outcHead o = ⟨#[105, 110, 118, 97, 108, 105, 100]⟩ := by rw [outcHead, if_neg h1, if_neg h2, if_neg h3, if_neg h4]

set_option maxRecDepth 100000 in
set_option maxHeartbeats 4000000 in
theorem spec_OutcomeText (x : Value) (o : Outc) (w : World) {lo hi : Nat} (h : OutRep w lo hi x o) (hhi : hi ≤ w.heap.size) (hb : o.bulk ≤ 1048576) (i1 : -9223372036854775808 ≤ o.fault) (i2 : o.fault ≤ 9223372036854775807) (i3 : -9223372036854775808 ≤ o.line) (i4 : o.line ≤ 9223372036854775807) :
    Calls Tryd.prog 11 #[x] w fun e w' => e = .returned (.string (outcomeText o)) ∧ Below w.heap.size w w' := by
  obtain ⟨vo, vt, vd, rfl, ho, -, -⟩ := h
  have Ho := ho.rds
  clear ho
  obtain ⟨A, c, rfl, hc1, hc2, -⟩ := Ho.shape
  unfold maxLen at hc2
  have hval : o.value.size ≤ 1048576 := by unfold Outc.bulk at hb; omega
  have hlen : o.output.length ≤ 1048576 := by unfold Outc.bulk bulkTexts at hb; omega
  have HT := Lib.hid (outcTo_bd o hb i1 i2 i3 i4)
  have s1 := formatInt_size o.fault i1 i2
  have s2 := formatInt_size o.line i3 i4
  have s3 := faultText_size o.fault
  unfold Outc.val
  go_enter Tryd.func11, Tryd.ntmps11
  go_upto_block 0 with fail
  have a0 : Blk (w.alloc (.cells #[.int .i64 o.status, .string o.value, .int .i64 o.fault, .int .i64 o.line, .int .i64 o.ticks, .slice A o.output.length c, vt, vd] 30)) w.heap.size 30 #[.int .i64 o.status, .string o.value, .int .i64 o.fault, .int .i64 o.line, .int .i64 o.ticks, .slice A o.output.length c, vt, vd] := Blk.new w _ _
  have hw0 : Below w.heap.size w (w.alloc (.cells #[.int .i64 o.status, .string o.value, .int .i64 o.fault, .int .i64 o.line, .int .i64 o.ticks, .slice A o.output.length c, vt, vd] 30)) := (Below.refl _ _).alloc (Nat.le_refl _) _
  go_cut [3] (fun v wx => v = .string (outcHead o) ∧ Blk wx w.heap.size 30 #[.int .i64 o.status, .string o.value, .int .i64 o.fault, .int .i64 o.line, .int .i64 o.ticks, .slice A o.output.length c, vt, vd] ∧ Below w.heap.size w wx)
  case first =>
    by_cases h1 : o.status = 1
    · have H := Lib.hid (oh1 h1)
      have b1 : (o.status == 1) = true := beq_iff_eq.2 h1
      clear h1
      go_wp2_with fail
      go_meet
      exact ⟨by rw [H.out]; rfl, a0, hw0⟩
    have b1 : (o.status == 1) = false := beq_eq_false_iff_ne.2 h1
    by_cases h2 : o.status = 2
    · have H := Lib.hid (oh2 h2)
      have b2 : (o.status == 2) = true := beq_iff_eq.2 h2
      clear h1 h2
      go_wp2_with fail
      go_meet
      exact ⟨by rw [H.out], a0, hw0⟩
    have b2 : (o.status == 2) = false := beq_eq_false_iff_ne.2 h2
    by_cases h3 : o.status = 3
    · have H := Lib.hid (oh3 h3)
      have b3 : (o.status == 3) = true := beq_iff_eq.2 h3
      clear h1 h2 h3
      have e1 : ¬ (9223372036854775807 < 6 + (formatInt o.fault).size) := by omega
      have e2 : ¬ (9223372036854775807 < 6 + (formatInt o.fault).size + 9) := by omega
      have e3 : ¬ (9223372036854775807 < 6 + (formatInt o.fault).size + 9 + (formatInt o.line).size) := by omega
      have e4 : ¬ (9223372036854775807 < 6 + (formatInt o.fault).size + 9 + (formatInt o.line).size + 2) := by omega
      have e5 : ¬ (9223372036854775807 < 6 + (formatInt o.fault).size + 9 + (formatInt o.line).size + 2 + (faultText o.fault).size) := by omega
      have ca0 := a0.cell
      have hz0 : w.heap.size ≤ (w.alloc (.cells #[.int .i64 o.status, .string o.value, .int .i64 o.fault, .int .i64 o.line, .int .i64 o.ticks, .slice A o.output.length c, vt, vd] 30)).drew.heap.size := hw0.size
      go_wp2_with fail
      generalize hW : (w.alloc (.cells #[.int .i64 o.status, .string o.value, .int .i64 o.fault, .int .i64 o.line, .int .i64 o.ticks, .slice A o.output.length c, vt, vd] 30)) = W0 at *
      clear hW
      go_region_held3 (fun w' => (∀ i, w'.cell? ⟨w.heap.size, i, none⟩ = #[.int .i64 o.status, .string o.value, .int .i64 o.fault, .int .i64 o.line, .int .i64 o.ticks, .slice A o.output.length c, vt, vd][i]?)) (first | exact ca0 | exact (a0.drew.later hbA).cell | exact ((a0.drew.later hbA).later hbB).cell)
        (first
        | (go_at_call_of 32 (Value.int IntKind.i64 o.fault); refine (spec_FormatInt _ _ (by assumption) (by assumption)).mono ?_; rintro e wA ⟨rfl, hbA⟩)
        | (go_at_call_of 32 (Value.int IntKind.i64 o.line); refine (spec_FormatInt _ _ (by assumption) (by assumption)).mono ?_; rintro e wB ⟨rfl, hbB⟩)
        | (go_at_call 33; refine (spec_FaultText _ _).mono ?_; rintro e wF ⟨rfl, rfl⟩))
      have a1 := (a0.drew.later hbA).later hbB
      have hw1 : Below w.heap.size w _ := (hw0.drew.trans (hbA.mono hz0)).trans (hbB.mono (Nat.le_trans hz0 hbA.size))
      go_wp2_with fail
      go_meet
      exact ⟨by rw [H.out]; rfl, a1, hw1⟩
    have b3 : (o.status == 3) = false := beq_eq_false_iff_ne.2 h3
    by_cases h4 : o.status = 4
    · have H := Lib.hid (oh4 h4)
      have b4 : (o.status == 4) = true := beq_iff_eq.2 h4
      clear h1 h2 h3 h4
      go_wp2_with fail
      go_meet
      exact ⟨by rw [H.out], a0, hw0⟩
    have b4 : (o.status == 4) = false := beq_eq_false_iff_ne.2 h4
    have H := Lib.hid (oh5 h1 h2 h3 h4)
    clear h1 h2 h3 h4
    go_wp2_with fail
    go_meet
    exact ⟨by rw [H.out], a0, hw0⟩
  case rest =>
    obtain ⟨rfl, a1, hw1⟩ := hcut
    clear a0 hw0
    have ca1 := a1.cell
    go_wp2_with fail
    go_loopw [3, 4] (fun v i wr => ∃ k : Nat, k ≤ o.output.length ∧ i = .int .i64 k ∧ v = .string (outcTo o k) ∧ Blk wr w.heap.size 30 #[.int .i64 o.status, .string o.value, .int .i64 o.fault, .int .i64 o.line, .int .i64 o.ticks, .slice A o.output.length c, vt, vd] ∧ Below w.heap.size w wr) (fun _ i _ => o.output.length - (intOf i).toNat)
    case atStart => exact ⟨0, Nat.zero_le _, rfl, rfl, a1, hw1⟩
    case round =>
      clear ca1 a1 hw1
      obtain ⟨k, hk, rfl, rfl, a1, hw1⟩ := hrel
      obtain ⟨wo, rfl⟩ : ∃ wo : World, wo = wr := ⟨_, rfl⟩
      have ca1 := a1.cell
      by_cases hkl : k < o.output.length
      · have hr := Ho.below hw1 hhi
        obtain ⟨g, off, t, rfl, hg1, hg2, hq, hcell⟩ := hr.atMap hkl
        have hts : t.size ≤ 1048576 := by
          have l1 := letters_snoc hq
          have l2 := letters_take_le o.output (k + 1)
          unfold Outc.bulk bulkTexts at hb; omega
        have T1 := HT.out k
        have T2 := HT.out (k + 1)
        have H := Lib.hid (outcTo_succ hq)
        rw [outcTo_succ hq, ByteArray.size_append, ByteArray.size_append] at T2
        have hsz : tSemi.size = 2 := rfl
        rw [hsz] at T2
        clear hq hr
        have e0 : (0 : Int) ≤ (k : Int) := by omega
        have e8 : (k : Int) < (o.output.length : Int) := by omega
        have e6 : ¬ (9223372036854775807 < (outcTo o k).size + 2) := by omega
        have e7 : ¬ (9223372036854775807 < (outcTo o k).size + 2 + (quoted 34 t).size) := by omega
        have hlo : w.heap.size ≤ wo.heap.size := hw1.size
        go_wp2_with fail
        go_at_call 27
        refine (spec_QuoteText _ _ (by assumption)).mono ?_
        rintro e wQ ⟨rfl, hbQ⟩
        have a2 := a1.later hbQ
        have hw2 : Below w.heap.size w _ := hw1.trans (hbQ.mono hlo)
        go_wp2_with fail
        go_roundw
        case rel => exact ⟨k + 1, by omega, by go_num, by rw [H.out, ← ByteArray.append_assoc]; rfl, a2, hw2⟩
        case measure => simp [intOf]; omega
      · obtain rfl : k = o.output.length := by omega
        go_wp2_with fail
        go_ret
        exact ⟨rfl, hw1⟩
end Go.Proofs.YtgkgoofapgabhaaDoor
