/- Arguments opened: a slice of strings, a struct of eight one-cell fields (turned from the guide's page on structs). -/
import Derived.Test.YtgkgoofapgabhaaDoorRowKit
import Derived.Test.YtgkgoofapgabhaaDoorOutc
import Derived.SliceStrings
import Derived.Lib.SmallJoins
import Derived.Carry
import Derived.Deep.Fields
namespace Go.Proofs.YtgkgoofapgabhaaDoor
open Go.Joins Go.ChangeShapes Go.WideShapes Go.RowKit Go.Deep

theorem laidOut : laidOutB Tryd.prog = true := by kernel_rfl

section
variable {H : Type} {enc : TypeId × Value → H} {w : World} {spare : Nat → Bool} {held : Bool}
theorem open_texts {fuel : Nat} {v : Value} {x : DataW H × List MemPlace} (h : DataW.trod enc Tryd.prog w 0 spare held fuel 25 [v] = some x) :
    ∃ l : List ByteArray, RdTexts w 0 w.heap.size v l ∧ ∀ s ∈ l, s.size ≤ 9223372036854775807 := by
  rcases open_strings Tryd.underlying25 Tryd.underlying9 (by kernel_rfl) h with ⟨hcs, -⟩ | ⟨a, len, cap, ss, hcs, -, hl, hm, hz, -, hcell, hws⟩
  · simp at hcs
    subst hcs
    exact ⟨[], Rds.none_, by simp⟩
  · simp at hcs
    subst hcs
    have hle : len ≤ ss.length := by rw [hz]; split <;> omega
    refine ⟨ss.take len, ?_, fun s hs => by have := hws s (List.mem_of_mem_take hs); unfold maxLen at this; omega⟩
    have hlen : (ss.take len).length = len := by rw [List.length_take]; omega
    unfold RdTexts
    rw [hlen]
    refine ⟨some a, cap, rfl, hl, hm, by rw [List.length_map, hlen]; omega, (fun h => by cases h), fun hn => ?_⟩
    obtain ⟨b, off, spot⟩ := a
    have h0 := hcell 0 (by omega)
    have hspot : spot = none := by simpa [Addr.add] using World.cell?_spot h0
    subst hspot
    refine ⟨b, off, rfl, Nat.zero_le _, ?_, fun j u hu => ?_⟩
    · have := World.block_lt_of_cell? w _ h0
      simpa [Addr.add] using this
    · rw [List.getElem?_map, Option.map_eq_some_iff] at hu
      obtain ⟨s, hs, rfl⟩ := hu
      rw [List.getElem?_take] at hs
      split at hs
      · have hj : j < ss.length := by omega
        have := hcell j hj
        rw [Addr.add_lit] at this
        rw [this, List.getD, hs]
        rfl
      · cases hs

theorem open_agg8 {r : Reach} {b0 base : Nat} {t : TypeId} {P : Program} {f0 f1 f2 f3 f4 f5 f6 f7 : Field} {v : Value} {d : DataW H} {p : List MemPlace} (hs : P.underlying t = some (.struct #[f0, f1, f2, f3, f4, f5, f6, f7])) (hone : oneCellFields P #[f0, f1, f2, f3, f4, f5, f6, f7] = true) (hC : P.cellsOf t = 8)
    (hv : Value.okWide P w r b0 t v) (h : DataW.Trod enc P w base spare held t v d p) :
    ∃ (v0 v1 v2 v3 v4 v5 v6 v7 : Value) (y0 y1 y2 y3 y4 y5 y6 y7 : DataW H × List MemPlace) (n : Nat), v = .agg #[v0, v1, v2, v3, v4, v5, v6, v7] ∧
      DataW.trod enc P w base spare held n f0.type [v0] = some y0 ∧ DataW.trod enc P w base spare held n f1.type [v1] = some y1 ∧ DataW.trod enc P w base spare held n f2.type [v2] = some y2 ∧ DataW.trod enc P w base spare held n f3.type [v3] = some y3 ∧
      DataW.trod enc P w base spare held n f4.type [v4] = some y4 ∧ DataW.trod enc P w base spare held n f5.type [v5] = some y5 ∧ DataW.trod enc P w base spare held n f6.type [v6] = some y6 ∧ DataW.trod enc P w base spare held n f7.type [v7] = some y7 := by
  obtain ⟨cs, rfl, hsz⟩ := okWide_struct hs hv
  obtain ⟨l⟩ := cs
  match l, hsz.trans hC with
  | [c0, c1, c2, c3, c4, c5, c6, c7], _ =>
    obtain ⟨fuel, hf⟩ := h
    obtain ⟨xs, n, _, hx, _, hlen, hg⟩ := DataW.trod_struct hs hf
    obtain ⟨o0, k0⟩ := hone_of hone 0 f0 rfl
    obtain ⟨o1, k1⟩ := hone_of hone 1 f1 rfl
    obtain ⟨o2, k2⟩ := hone_of hone 2 f2 rfl
    obtain ⟨o3, k3⟩ := hone_of hone 3 f3 rfl
    obtain ⟨o4, k4⟩ := hone_of hone 4 f4 rfl
    obtain ⟨o5, k5⟩ := hone_of hone 5 f5 rfl
    obtain ⟨o6, k6⟩ := hone_of hone 6 f6 rfl
    obtain ⟨o7, k7⟩ := hone_of hone 7 f7 rfl
    match xs, hlen with
    | [y0, y1, y2, y3, y4, y5, y6, y7], _ =>
      exact ⟨c0, c1, c2, c3, c4, c5, c6, c7, y0, y1, y2, y3, y4, y5, y6, y7, n, rfl, by simpa [Value.cells, o0, k0] using hg 0 f0 rfl, by simpa [Value.cells, o1, k1] using hg 1 f1 rfl, by simpa [Value.cells, o2, k2] using hg 2 f2 rfl, by simpa [Value.cells, o3, k3] using hg 3 f3 rfl, by simpa [Value.cells, o4, k4] using hg 4 f4 rfl, by simpa [Value.cells, o5, k5] using hg 5 f5 rfl, by simpa [Value.cells, o6, k6] using hg 6 f6 rfl, by simpa [Value.cells, o7, k7] using hg 7 f7 rfl⟩

set_option maxRecDepth 100000 in
theorem open_outc {r : Reach} {b0 : Nat} {v : Value} {d : DataW H} {p : List MemPlace} (hv : Value.okWide Tryd.prog w r b0 27 v) (h : DataW.Trod enc Tryd.prog w 0 spare held 27 v d p) :
    ∃ o : Outc, OutRep w 0 w.heap.size v o ∧ o.fits := by
  obtain ⟨v0, v1, v2, v3, v4, v5, v6, v7, y0, y1, y2, y3, y4, y5, y6, y7, n, rfl, h0, h1, h2, h3, h4, h5, h6, h7⟩ := open_agg8 Tryd.underlying27 (by kernel_rfl) (by kernel_rfl) hv h
  obtain ⟨z0, e0, -, -⟩ := DataW.trod_int Tryd.underlying3 h0
  obtain ⟨z1, e1, -, w1⟩ := DataW.trod_string Tryd.underlying9 h1
  obtain ⟨z2, e2, -, -⟩ := DataW.trod_int Tryd.underlying3 h2
  obtain ⟨z3, e3, -, -⟩ := DataW.trod_int Tryd.underlying3 h3
  obtain ⟨z4, e4, -, -⟩ := DataW.trod_int Tryd.underlying3 h4
  obtain ⟨l5, r5, f5⟩ := open_texts h5
  obtain ⟨l6, r6, f6⟩ := open_texts h6
  obtain ⟨l7, r7, f7⟩ := open_texts h7
  simp at e0 e1 e2 e3 e4
  subst e0 e1 e2 e3 e4
  exact ⟨⟨z0, z1, z2, z3, z4, l5, l6, l7⟩, ⟨v5, v6, v7, rfl, r5, r6, r7⟩, by unfold maxLen at w1; dsimp; omega, f5, f6, f7⟩
set_option maxRecDepth 100000 in
theorem open_outcB {r : Reach} {b0 : Nat} {v : Value} {d : DataW H} {p : List MemPlace} (hv : Value.okWide Tryd.prog w r b0 27 v) (h : DataW.Trod enc Tryd.prog w 0 spare held 27 v d p) :
    ∃ o : Outc, OutRep w 0 w.heap.size v o ∧ o.fits ∧ (-9223372036854775808 ≤ o.fault ∧ o.fault ≤ 9223372036854775807) ∧ (-9223372036854775808 ≤ o.line ∧ o.line ≤ 9223372036854775807) := by
  obtain ⟨v0, v1, v2, v3, v4, v5, v6, v7, y0, y1, y2, y3, y4, y5, y6, y7, n, rfl, h0, h1, h2, h3, h4, h5, h6, h7⟩ := open_agg8 Tryd.underlying27 (by kernel_rfl) (by kernel_rfl) hv h
  obtain ⟨z0, e0, -, -⟩ := DataW.trod_int Tryd.underlying3 h0
  obtain ⟨z1, e1, -, w1⟩ := DataW.trod_string Tryd.underlying9 h1
  obtain ⟨z2, e2, -, q2⟩ := DataW.trod_int Tryd.underlying3 h2
  obtain ⟨z3, e3, -, q3⟩ := DataW.trod_int Tryd.underlying3 h3
  obtain ⟨z4, e4, -, -⟩ := DataW.trod_int Tryd.underlying3 h4
  obtain ⟨l5, r5, f5⟩ := open_texts h5
  obtain ⟨l6, r6, f6⟩ := open_texts h6
  obtain ⟨l7, r7, f7⟩ := open_texts h7
  simp at e0 e1 e2 e3 e4
  subst e0 e1 e2 e3 e4
  exact ⟨⟨z0, z1, z2, z3, z4, l5, l6, l7⟩, ⟨v5, v6, v7, rfl, r5, r6, r7⟩, ⟨by unfold maxLen at w1; dsimp; omega, f5, f6, f7⟩, bounds_i64 q2, bounds_i64 q3⟩
end
end Go.Proofs.YtgkgoofapgabhaaDoor
