/- Outcomes: szOutcome, toOutcome, eqOutcome of the laws; EqualOutcomes of the reference and of the program. -/
import Derived.Test.YtgkgoofapgabhaaDoorProg
import Derived.Test.YtgkgoofapgabhaaDoorTextsB
namespace Go.Proofs.YtgkgoofapgabhaaDoor
open Go.RowKit

structure Outc where
  status : Int
  value : ByteArray
  fault : Int
  line : Int
  ticks : Int
  output : List ByteArray
  trace : List ByteArray
  dump : List ByteArray

def Outc.bulk (o : Outc) : Nat := o.value.size + bulkTexts o.output + bulkTexts o.trace + bulkTexts o.dump
/-- its five plain fields and the three slices as the value has them -/
def Outc.val (o : Outc) (vo vt vd : Value) : Value := .agg #[.int .i64 o.status, .string o.value, .int .i64 o.fault, .int .i64 o.line, .int .i64 o.ticks, vo, vt, vd]
def RdTexts (w : World) (lo hi : Nat) (v : Value) (l : List ByteArray) : Prop := Rds w lo hi 1 v l.length (l.map .string)
/-- the value x reads as the outcome o -/
def OutRep (w : World) (lo hi : Nat) (x : Value) (o : Outc) : Prop :=
  ∃ vo vt vd, x = o.val vo vt vd ∧ RdTexts w lo hi vo o.output ∧ RdTexts w lo hi vt o.trace ∧ RdTexts w lo hi vd o.dump
theorem OutRep.below {w w' : World} {lo hi B : Nat} {x : Value} {o : Outc} (h : OutRep w lo hi x o) (hb : Below B w w') (hB : hi ≤ B) : OutRep w' lo hi x o := by
  obtain ⟨vo, vt, vd, hx, h1, h2, h3⟩ := h
  exact ⟨vo, vt, vd, hx, Rds.below h1 hb hB, Rds.below h2 hb hB, Rds.below h3 hb hB⟩
theorem OutRep.wide {w : World} {lo hi lo' hi' : Nat} {x : Value} {o : Outc} (h : OutRep w lo hi x o) (h1 : lo' ≤ lo) (h2 : hi ≤ hi') : OutRep w lo' hi' x o := by
  obtain ⟨vo, vt, vd, hx, g1, g2, g3⟩ := h
  exact ⟨vo, vt, vd, hx, Rds.wide g1 h1 h2, Rds.wide g2 h1 h2, Rds.wide g3 h1 h2⟩
theorem RdTexts.rds {w : World} {lo hi : Nat} {v : Value} {l : List ByteArray} (h : RdTexts w lo hi v l) : Rds w lo hi 1 v l.length (l.map .string) := h

/-- every text of the outcome is of a length that an int holds -/
def Outc.fits (o : Outc) : Prop := o.value.size ≤ 9223372036854775807 ∧ (∀ x ∈ o.output, x.size ≤ 9223372036854775807) ∧ (∀ x ∈ o.trace, x.size ≤ 9223372036854775807) ∧ (∀ x ∈ o.dump, x.size ≤ 9223372036854775807)

set_option maxRecDepth 100000 in
set_option maxHeartbeats 1000000 in
theorem szOutcome_any (x : Value) (o : Outc) (left : Int) (w : World) {lo hi : Nat} (h : OutRep w lo hi x o) (hhi : hi ≤ w.heap.size) (hl0 : 0 ≤ left) (hl1 : left ≤ 1048576) (hwf : o.fits) :
    Calls Tryd.prog 10 #[x, .int .i64 left] w fun e w' => e = .returned (.int .i64 (leftOf left o.bulk)) ∧ Below w.heap.size w w' := by
  obtain ⟨vo, vt, vd, rfl, ho, ht, hd⟩ := h
  obtain ⟨hv, f1, f2, f3⟩ := hwf
  have F1 := Lib.hid f1
  have F2 := Lib.hid f2
  have F3 := Lib.hid f3
  clear f1 f2 f3
  have HB : Hid (o.bulk = o.value.size + bulkTexts o.output + bulkTexts o.trace + bulkTexts o.dump) := rfl
  unfold Outc.val
  by_cases h1 : left < o.value.size
  · go_enter Tryd.func10, Tryd.ntmps10
    go_wp2_with fail
    go_ret
    exact ⟨ret_int (leftOf_no (by have := HB.out; omega)).symm, (Below.refl _ _).alloc (Nat.le_refl _) _⟩
  · go_enter Tryd.func10, Tryd.ntmps10
    go_wp2_with fail
    refine (szStringS_any _ o.output _ _ (ho.rds.alloc hhi _) (by omega) (by omega) F1.out).mono ?_; rintro e w' ⟨rfl, rfl⟩
    by_cases h2 : left - o.value.size < bulkTexts o.output
    · rw [leftOf_no h2]
      go_wp2_with fail
      go_ret
      exact ⟨ret_int (leftOf_no (by have := HB.out; omega)).symm, (Below.refl _ _).alloc (Nat.le_refl _) _⟩
    · rw [leftOf_yes h2]
      go_wp2_with fail
      refine (szStringS_any _ o.trace _ _ (ht.rds.alloc hhi _) (by omega) (by omega) F2.out).mono ?_; rintro e w' ⟨rfl, rfl⟩
      by_cases h3 : left - o.value.size - bulkTexts o.output < bulkTexts o.trace
      · rw [leftOf_no h3]
        go_wp2_with fail
        go_ret
        exact ⟨ret_int (leftOf_no (by have := HB.out; omega)).symm, (Below.refl _ _).alloc (Nat.le_refl _) _⟩
      · rw [leftOf_yes h3]
        go_wp2_with fail
        refine (szStringS_any _ o.dump _ _ (hd.rds.alloc hhi _) (by omega) (by omega) F3.out).mono ?_; rintro e w' ⟨rfl, rfl⟩
        by_cases h4 : left - o.value.size - bulkTexts o.output - bulkTexts o.trace < bulkTexts o.dump
        · rw [leftOf_no h4]
          go_wp2_with fail
          go_ret
          exact ⟨ret_int (leftOf_no (by have := HB.out; omega)).symm, (Below.refl _ _).alloc (Nat.le_refl _) _⟩
        · rw [leftOf_yes h4]
          go_wp2_with fail
          go_ret
          exact ⟨ret_int (by rw [leftOf_yes (by have := HB.out; omega)]; have := HB.out; omega), (Below.refl _ _).alloc (Nat.le_refl _) _⟩

/-- the call hands back the outcome o, its slices in memory of its own -/
def OwnOutc (o : Outc) (w : World) (e : Ending) (w' : World) : Prop :=
  ∃ x, e = .returned x ∧ OutRep w' w.heap.size w'.heap.size x o ∧ Below w.heap.size w w'

set_option maxRecDepth 100000 in
set_option maxHeartbeats 1000000 in
theorem toOutcome_any (x : Value) (o : Outc) (w : World) {lo hi : Nat} (h : OutRep w lo hi x o) (hhi : hi ≤ w.heap.size) (hb : o.bulk ≤ 1048576) :
    Calls Tryd.prog 12 #[x] w (OwnOutc o w) := by
  obtain ⟨vo, vt, vd, rfl, ho, ht, hd⟩ := h
  have l1 : o.output.length ≤ 1048576 := by unfold Outc.bulk bulkTexts at hb; omega
  have l2 : o.trace.length ≤ 1048576 := by unfold Outc.bulk bulkTexts at hb; omega
  have l3 : o.dump.length ≤ 1048576 := by unfold Outc.bulk bulkTexts at hb; omega
  clear hb
  unfold Outc.val
  go_enter Tryd.func12, Tryd.ntmps12
  go_wp2_with fail
  refine (toStringS_any _ o.output _ (((ho.rds.alloc hhi _).alloc (by simp; omega) _).alloc (by simp; omega) _) (by simp; omega) l1).mono ?_; rintro e w1 ⟨v1, rfl, ho1, hb1⟩
  obtain ⟨A1, c1, rfl, -, -, -⟩ := (Rds.of_own ho1).shape
  have hz1 : w.heap.size + 3 ≤ w1.heap.size := by have := hb1.size; simp at this; omega
  have hw1 : Below w.heap.size w w1 := ((((Below.refl _ _).alloc (Nat.le_refl _) _).alloc (by simp) _).alloc (by simp; omega) _).trans (hb1.mono (by simp; omega))
  have hr1 : RdTexts w1 (w.heap.size + 3) w1.heap.size (.slice A1 o.output.length c1) o.output := (Rds.of_own ho1).wide (by simp) (Nat.le_refl _)
  have a1 : Blk w1 w.heap.size 27 #[.int .i64 o.status, .string o.value, .int .i64 o.fault, .int .i64 o.line, .int .i64 o.ticks, vo, vt, vd] := (((Blk.new w _ _).alloc _).alloc _).later hb1
  have r1 : Blk w1 (w.heap.size + 1) 30 #[.int .i64 0, .string ⟨#[]⟩, .int .i64 0, .int .i64 0, .int .i64 0, .slice none 0 0, .slice none 0 0, .slice none 0 0] := ((Blk.newAt _ _ _ _ (by simp)).alloc _).later hb1
  have o1 : Blk w1 (w.heap.size + 1 + 1) 30 #[.int .i64 o.status, .string o.value, .int .i64 o.fault, .int .i64 o.line, .int .i64 o.ticks, .slice none 0 0, .slice none 0 0, .slice none 0 0] := (Blk.newAt _ _ _ _ (by simp)).later hb1
  clear ho1 hb1
  have ca1 := a1.cell
  have co1 := o1.cell
  have fo1 := o1.frozen
  go_wp2_with fail
  have hht2 : RdTexts (w1.setCell ⟨w.heap.size + 1 + 1, 5, none⟩ (.slice A1 o.output.length c1)) lo hi vt o.trace := Rds.below ht (hw1.setCell (p := ⟨w.heap.size + 1 + 1, 5, none⟩) (by simp; omega) _) hhi
  refine (toStringS_any _ o.trace _ hht2.rds (by simp [World.setCell]; omega) l2).mono ?_; rintro e w2 ⟨v2, rfl, ho2, hb2⟩
  obtain ⟨A2, c2, rfl, -, -, -⟩ := (Rds.of_own ho2).shape
  have hz2 : w.heap.size + 3 ≤ w2.heap.size := by have := hb2.size; simp [World.setCell] at this; omega
  have hs2 : w1.heap.size ≤ w2.heap.size := by have := hb2.size; simp [World.setCell] at this; omega
  have hw2 : Below w.heap.size w w2 := (hw1.setCell (p := ⟨w.heap.size + 1 + 1, 5, none⟩) (by simp; omega) _).trans (hb2.mono (by simp [World.setCell]; omega))
  have hr2 : RdTexts w2 (w.heap.size + 3) w2.heap.size (.slice A2 o.trace.length c2) o.trace := (Rds.of_own ho2).wide (by simp [World.setCell]; omega) (Nat.le_refl _)
  have a2 : Blk w2 w.heap.size 27 #[.int .i64 o.status, .string o.value, .int .i64 o.fault, .int .i64 o.line, .int .i64 o.ticks, vo, vt, vd] := (a1.far (p := ⟨w.heap.size + 1 + 1, 5, none⟩) (by simp; omega) _).later hb2
  have r2 : Blk w2 (w.heap.size + 1) 30 #[.int .i64 0, .string ⟨#[]⟩, .int .i64 0, .int .i64 0, .int .i64 0, .slice none 0 0, .slice none 0 0, .slice none 0 0] := (r1.far (p := ⟨w.heap.size + 1 + 1, 5, none⟩) (by simp) _).later hb2
  have o2 : Blk w2 (w.heap.size + 1 + 1) 30 #[.int .i64 o.status, .string o.value, .int .i64 o.fault, .int .i64 o.line, .int .i64 o.ticks, .slice A1 o.output.length c1, .slice none 0 0, .slice none 0 0] := (o1.set_ 5 _).later hb2
  replace hr1 : RdTexts w2 (w.heap.size + 3) w2.heap.size (.slice A1 o.output.length c1) o.output := Rds.wide (Rds.below (Rds.setFar hr1 (p := ⟨w.heap.size + 1 + 1, 5, none⟩) (.inl (by simp)) _) hb2 (by simp [World.setCell])) (Nat.le_refl _) hs2
  clear ho2 hb2 ca1 co1 fo1 a1 r1 o1 hht2 hw1 hz1 hs2
  have ca2 := a2.cell
  have co2 := o2.cell
  have fo2 := o2.frozen
  go_wp2_with fail
  have hhd3 : RdTexts (w2.setCell ⟨w.heap.size + 1 + 1, 6, none⟩ (.slice A2 o.trace.length c2)) lo hi vd o.dump := Rds.below hd (hw2.setCell (p := ⟨w.heap.size + 1 + 1, 6, none⟩) (by simp; omega) _) hhi
  refine (toStringS_any _ o.dump _ hhd3.rds (by simp [World.setCell]; omega) l3).mono ?_; rintro e w3 ⟨v3, rfl, ho3, hb3⟩
  obtain ⟨A3, c3, rfl, -, -, -⟩ := (Rds.of_own ho3).shape
  have hz3 : w.heap.size + 3 ≤ w3.heap.size := by have := hb3.size; simp [World.setCell] at this; omega
  have hs3 : w2.heap.size ≤ w3.heap.size := by have := hb3.size; simp [World.setCell] at this; omega
  have hw3 : Below w.heap.size w w3 := (hw2.setCell (p := ⟨w.heap.size + 1 + 1, 6, none⟩) (by simp; omega) _).trans (hb3.mono (by simp [World.setCell]; omega))
  have hr3 : RdTexts w3 (w.heap.size + 3) w3.heap.size (.slice A3 o.dump.length c3) o.dump := (Rds.of_own ho3).wide (by simp [World.setCell]; omega) (Nat.le_refl _)
  have a3 : Blk w3 w.heap.size 27 #[.int .i64 o.status, .string o.value, .int .i64 o.fault, .int .i64 o.line, .int .i64 o.ticks, vo, vt, vd] := (a2.far (p := ⟨w.heap.size + 1 + 1, 6, none⟩) (by simp; omega) _).later hb3
  have r3 : Blk w3 (w.heap.size + 1) 30 #[.int .i64 0, .string ⟨#[]⟩, .int .i64 0, .int .i64 0, .int .i64 0, .slice none 0 0, .slice none 0 0, .slice none 0 0] := (r2.far (p := ⟨w.heap.size + 1 + 1, 6, none⟩) (by simp) _).later hb3
  have o3 : Blk w3 (w.heap.size + 1 + 1) 30 #[.int .i64 o.status, .string o.value, .int .i64 o.fault, .int .i64 o.line, .int .i64 o.ticks, .slice A1 o.output.length c1, .slice A2 o.trace.length c2, .slice none 0 0] := (o2.set_ 6 _).later hb3
  replace hr1 : RdTexts w3 (w.heap.size + 3) w3.heap.size (.slice A1 o.output.length c1) o.output := Rds.wide (Rds.below (Rds.setFar hr1 (p := ⟨w.heap.size + 1 + 1, 6, none⟩) (.inl (by simp)) _) hb3 (by simp [World.setCell])) (Nat.le_refl _) hs3
  replace hr2 : RdTexts w3 (w.heap.size + 3) w3.heap.size (.slice A2 o.trace.length c2) o.trace := Rds.wide (Rds.below (Rds.setFar hr2 (p := ⟨w.heap.size + 1 + 1, 6, none⟩) (.inl (by simp)) _) hb3 (by simp [World.setCell])) (Nat.le_refl _) hs3
  clear ho3 hb3 ca2 co2 fo2 a2 r2 o2 hhd3 hw2 hz2 hs3
  have ca3 := a3.cell
  have co3 := o3.cell
  have fo3 := o3.frozen
  have cr3 := r3.cell
  have fr3 := r3.frozen
  clear ca3
  go_wp2_with fail
  have far : ∀ {v : Value} {l : List ByteArray}, RdTexts w3 (w.heap.size + 3) w3.heap.size v l → RdTexts (((((((((w3.setCell ⟨w.heap.size + 1 + 1, 7, none⟩ (.slice A3 o.dump.length c3)).setCell ⟨w.heap.size + 1, 0, none⟩ (.int .i64 o.status)).setCell ⟨w.heap.size + 1, 1, none⟩ (.string o.value)).setCell ⟨w.heap.size + 1, 2, none⟩ (.int .i64 o.fault)).setCell ⟨w.heap.size + 1, 3, none⟩ (.int .i64 o.line)).setCell ⟨w.heap.size + 1, 4, none⟩ (.int .i64 o.ticks)).setCell ⟨w.heap.size + 1, 5, none⟩ (.slice A1 o.output.length c1)).setCell ⟨w.heap.size + 1, 6, none⟩ (.slice A2 o.trace.length c2)).setCell ⟨w.heap.size + 1, 7, none⟩ (.slice A3 o.dump.length c3)) (w.heap.size + 3) w3.heap.size v l := by
    intro v l h
    unfold RdTexts at h ⊢
    iterate 8 refine Rds.setFar ?_ (.inl (by simp)) _
    exact Rds.setFar h (.inl (by simp)) _
  refine bodyPost_ret (v := o.val (.slice A1 o.output.length c1) (.slice A2 o.trace.length c2) (.slice A3 o.dump.length c3)) ?_ rfl ⟨_, rfl, ⟨_, _, _, rfl, ?_, ?_, ?_⟩, ?_⟩
  · simp [results, Tryd.results12, go_sem, cr3, Outc.val]
  · exact (far hr1).wide (by omega) (by simp [World.setCell])
  · exact (far hr2).wide (by omega) (by simp [World.setCell])
  · exact (far hr3).wide (by omega) (by simp [World.setCell])
  · iterate 8 refine Below.setCell ?_ (by simp) _
    exact Below.setCell hw3 (by simp; omega) _
end Go.Proofs.YtgkgoofapgabhaaDoor
