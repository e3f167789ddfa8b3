/- An argument of the laws' type Code, opened: it reads as a CodeT. -/
import Derived.Test.YtekobbeoaalibaaGreatDoorRowKit
import Derived.Test.YtekobbeoaalibaaGreatDoorTyAll
import Derived.Deep.Slices
import Derived.Deep.Fields
import Derived.ChangeSame
namespace Go.Proofs.YtekobbeoaalibaaGreatDoor
open Go.ChangeShapes Go.WideShapes Go.RowKit Go.Deep
set_option linter.unusedVariables false

section
variable {H : Type} {enc : TypeId × Value → H} {w : World} {spare : Nat → Bool} {held : Bool}
/-- the first k elements of a slice whose elements read so -/
theorem open_rows {α : Type} {f : α → List Dat} {z : Nat} {P : α → Prop} (a : Addr) (len : Nat) (He : ∀ i, i < len → ∃ (cs : List Value) (c : α), cs.length = z ∧ (∀ j u, cs[j]? = some u → w.cell? (a.add (i * z + j)) = some u) ∧ RepL w 0 w.heap.size (f c) cs ∧ P c) :
    ∀ k, k ≤ len → ∃ (l : List α) (vs : List Value), l.length = k ∧ vs.length = k * z ∧ RepL w 0 w.heap.size (flat f l) vs ∧ (∀ j u, vs[j]? = some u → w.cell? (a.add j) = some u) ∧ ∀ c ∈ l, P c := by
  intro k
  induction k with
  | zero => intro _; exact ⟨[], [], rfl, by simp, by rw [flat_nil]; exact .nil_, by simp, by simp⟩
  | succ k ih =>
    intro hk
    obtain ⟨l, vs, h1, h2, h3, h4, h5⟩ := ih (by omega)
    obtain ⟨cs, c, g1, g2, g3, g4⟩ := He k (by omega)
    refine ⟨l ++ [c], vs ++ cs, by simp [h1], by rw [List.length_append, h2, g1, Nat.succ_mul], ?_, fun j u hj => ?_, ?_⟩
    · rw [flat_app, flat_cons, flat_nil, List.append_nil]; exact h3.app g3
    · by_cases hlt : j < vs.length
      · rw [List.getElem?_append_left hlt] at hj; exact h4 j u hj
      · rw [List.getElem?_append_right (by omega)] at hj
        have := g2 _ u hj
        rw [← h2, show vs.length + (j - vs.length) = j by omega] at this
        exact this
    · intro x hx
      rcases List.mem_append.1 hx with hx | hx
      · exact h5 x hx
      · rw [List.mem_singleton.1 hx]; exact g4
theorem open_slice {α : Type} {f : α → List Dat} {z : Nat} {P : α → Prop} {tS tE : TypeId} (hz : 0 < z) (hu : Tryz.prog.underlying tS = some (.slice tE)) (hk : Tryz.prog.cellsOf tE = z)
    (He : ∀ (fuel : Nat) (cs : List Value) (x : DataW H × List MemPlace), DataW.trod enc Tryz.prog w 0 spare held fuel tE cs = some x → ∃ c : α, RepL w 0 w.heap.size (f c) cs ∧ P c)
    {n : Nat} {v : Value} {y : DataW H × List MemPlace} (h : DataW.trod enc Tryz.prog w 0 spare held n tS [v] = some y) : ∃ l : List α, LRep w 0 w.heap.size z f v l ∧ ∀ c ∈ l, P c := by
  rcases DataW.trod_slice hu h with ⟨hcs, -⟩ | ⟨a, len, cap, elems, rest, m, hm, hcs, -, -, hl, hcap, hel, hi, -, -⟩
  · simp at hcs
    subst hcs
    exact ⟨[], Rep.mkRow Rds.none_ (by rw [flat_nil]; exact .nil_), by simp⟩
  · simp at hcs
    subst hcs
    obtain ⟨l, vs, g1, g2, g3, g4, g5⟩ := open_rows (w := w) (f := f) (z := z) (P := P) a len (fun i hlt => by
      have hi' := hi i hlt
      rw [List.getElem?_eq_getElem (by omega), hk] at hi'
      obtain ⟨cs', hc, ht⟩ := Option.bind_eq_some_iff.1 hi'
      obtain ⟨-, hcl', hat⟩ := World.cells?_some hc
      obtain ⟨c, hr, hf⟩ := He m cs' _ ht
      refine ⟨cs', c, hcl', fun j u hu => ?_, hr, hf⟩
      have hj : j < cs'.length := (List.getElem?_eq_some_iff.1 hu).1
      rw [← Go.Deep.add_add, hat j (by omega), hu]) len (Nat.le_refl _)
    subst g1
    refine ⟨l, Rep.mkRow (vs := vs) ⟨some a, cap, rfl, hl, hcap, g2, (fun h => by cases h), fun hn => ?_⟩ g3, g5⟩
    obtain ⟨b, off, spot⟩ := a
    have hv0 : 0 < vs.length := by rw [g2]; exact Nat.mul_pos hn hz
    have hc0 := g4 0 _ (List.getElem?_eq_getElem hv0)
    have hspot : spot = none := by simpa [Addr.add] using World.cell?_spot hc0
    subst hspot
    refine ⟨b, off, rfl, Nat.zero_le _, ?_, fun j u hu => ?_⟩
    · have := World.block_lt_of_cell? w _ hc0
      simpa [Addr.add] using this
    · have := g4 j u hu
      rwa [Addr.add_lit] at this
theorem open_text (fuel : Nat) (cs : List Value) (x : DataW H × List MemPlace) (h : DataW.trod enc Tryz.prog w 0 spare held fuel 9 cs = some x) : ∃ s : ByteArray, RepL w 0 w.heap.size (strDats s) cs ∧ s.size ≤ 9223372036854775807 := by
  obtain ⟨z, rfl, -, hz⟩ := DataW.trod_string Tryz.underlying9 h
  exact ⟨z, .cons_ .mkStr .nil_, by unfold maxLen at hz; omega⟩
set_option maxRecDepth 100000 in
theorem open_InstrL (fuel : Nat) (cs : List Value) (x : DataW H × List MemPlace) (h : DataW.trod enc Tryz.prog w 0 spare held fuel 108 cs = some x) : ∃ c : InsT, RepL w 0 w.heap.size c.dats cs ∧ c.Fits := by
  obtain ⟨xs, n, hn, hx, hcl, hlen, hg⟩ := DataW.trod_struct Tryz.underlying108 h
  rw [show Tryz.prog.cellsOf 108 = 5 by kernel_rfl] at hcl
  match cs, hcl with
  | [c0, c1, c2, c3, c4], _ =>
    have k_0 : Tryz.prog.cellsOf 3 = 1 := by kernel_rfl
    have k_1 : Tryz.prog.cellsOf 9 = 1 := by kernel_rfl
    have hxs : ∀ i, i < 5 → ∃ y, xs[i]? = some y := fun i hi => ⟨_, List.getElem?_eq_getElem (by rw [hlen]; exact hi)⟩
    obtain ⟨y0, e0⟩ := hxs 0 (by omega)
    have h0 : DataW.trod enc Tryz.prog w 0 spare held n 3 [c0] = some y0 := by simpa [k_0, k_1] using (hg 0 _ rfl).trans e0
    obtain ⟨z0, f0, -, -⟩ := DataW.trod_int Tryz.underlying3 h0
    simp at f0
    subst f0
    obtain ⟨y1, e1⟩ := hxs 1 (by omega)
    have h1 : DataW.trod enc Tryz.prog w 0 spare held n 3 [c1] = some y1 := by simpa [k_0, k_1] using (hg 1 _ rfl).trans e1
    obtain ⟨z1, f1, -, -⟩ := DataW.trod_int Tryz.underlying3 h1
    simp at f1
    subst f1
    obtain ⟨y2, e2⟩ := hxs 2 (by omega)
    have h2 : DataW.trod enc Tryz.prog w 0 spare held n 3 [c2] = some y2 := by simpa [k_0, k_1] using (hg 2 _ rfl).trans e2
    obtain ⟨z2, f2, -, -⟩ := DataW.trod_int Tryz.underlying3 h2
    simp at f2
    subst f2
    obtain ⟨y3, e3⟩ := hxs 3 (by omega)
    have h3 : DataW.trod enc Tryz.prog w 0 spare held n 3 [c3] = some y3 := by simpa [k_0, k_1] using (hg 3 _ rfl).trans e3
    obtain ⟨z3, f3, -, -⟩ := DataW.trod_int Tryz.underlying3 h3
    simp at f3
    subst f3
    obtain ⟨y4, e4⟩ := hxs 4 (by omega)
    have h4 : DataW.trod enc Tryz.prog w 0 spare held n 9 [c4] = some y4 := by simpa [k_0, k_1] using (hg 4 _ rfl).trans e4
    obtain ⟨z4, f4, -, w4⟩ := DataW.trod_string Tryz.underlying9 h4
    simp at f4
    subst f4
    exact ⟨⟨z0, z1, z2, z3, z4⟩, .cons_ .mkInt (.cons_ .mkInt (.cons_ .mkInt (.cons_ .mkInt (.cons_ .mkStr .nil_)))), (show z4.size ≤ 9223372036854775807 by unfold maxLen at w4; omega)⟩
set_option maxRecDepth 100000 in
theorem open_CodeRoutineL (fuel : Nat) (cs : List Value) (x : DataW H × List MemPlace) (h : DataW.trod enc Tryz.prog w 0 spare held fuel 103 cs = some x) : ∃ c : CRoT, RepL w 0 w.heap.size c.dats cs ∧ c.Fits := by
  obtain ⟨xs, n, hn, hx, hcl, hlen, hg⟩ := DataW.trod_struct Tryz.underlying103 h
  rw [show Tryz.prog.cellsOf 103 = 4 by kernel_rfl] at hcl
  match cs, hcl with
  | [c0, c1, c2, c3], _ =>
    have k_0 : Tryz.prog.cellsOf 9 = 1 := by kernel_rfl
    have k_1 : Tryz.prog.cellsOf 3 = 1 := by kernel_rfl
    have hxs : ∀ i, i < 4 → ∃ y, xs[i]? = some y := fun i hi => ⟨_, List.getElem?_eq_getElem (by rw [hlen]; exact hi)⟩
    obtain ⟨y0, e0⟩ := hxs 0 (by omega)
    have h0 : DataW.trod enc Tryz.prog w 0 spare held n 9 [c0] = some y0 := by simpa [k_0, k_1] using (hg 0 _ rfl).trans e0
    obtain ⟨z0, f0, -, w0⟩ := DataW.trod_string Tryz.underlying9 h0
    simp at f0
    subst f0
    obtain ⟨y1, e1⟩ := hxs 1 (by omega)
    have h1 : DataW.trod enc Tryz.prog w 0 spare held n 3 [c1] = some y1 := by simpa [k_0, k_1] using (hg 1 _ rfl).trans e1
    obtain ⟨z1, f1, -, -⟩ := DataW.trod_int Tryz.underlying3 h1
    simp at f1
    subst f1
    obtain ⟨y2, e2⟩ := hxs 2 (by omega)
    have h2 : DataW.trod enc Tryz.prog w 0 spare held n 3 [c2] = some y2 := by simpa [k_0, k_1] using (hg 2 _ rfl).trans e2
    obtain ⟨z2, f2, -, -⟩ := DataW.trod_int Tryz.underlying3 h2
    simp at f2
    subst f2
    obtain ⟨y3, e3⟩ := hxs 3 (by omega)
    have h3 : DataW.trod enc Tryz.prog w 0 spare held n 3 [c3] = some y3 := by simpa [k_0, k_1] using (hg 3 _ rfl).trans e3
    obtain ⟨z3, f3, -, -⟩ := DataW.trod_int Tryz.underlying3 h3
    simp at f3
    subst f3
    exact ⟨⟨z0, z1, z2, z3⟩, .cons_ .mkStr (.cons_ .mkInt (.cons_ .mkInt (.cons_ .mkInt .nil_))), (show z0.size ≤ 9223372036854775807 by unfold maxLen at w0; omega)⟩
set_option maxRecDepth 100000 in
theorem open_RecordTypeL (fuel : Nat) (cs : List Value) (x : DataW H × List MemPlace) (h : DataW.trod enc Tryz.prog w 0 spare held fuel 106 cs = some x) : ∃ c : RecT, RepL w 0 w.heap.size c.dats cs ∧ c.Fits := by
  obtain ⟨xs, n, hn, hx, hcl, hlen, hg⟩ := DataW.trod_struct Tryz.underlying106 h
  rw [show Tryz.prog.cellsOf 106 = 3 by kernel_rfl] at hcl
  match cs, hcl with
  | [c0, c1, c2], _ =>
    have k_0 : Tryz.prog.cellsOf 9 = 1 := by kernel_rfl
    have k_1 : Tryz.prog.cellsOf 24 = 1 := by kernel_rfl
    have k_2 : Tryz.prog.cellsOf 3 = 1 := by kernel_rfl
    have hxs : ∀ i, i < 3 → ∃ y, xs[i]? = some y := fun i hi => ⟨_, List.getElem?_eq_getElem (by rw [hlen]; exact hi)⟩
    obtain ⟨y0, e0⟩ := hxs 0 (by omega)
    have h0 : DataW.trod enc Tryz.prog w 0 spare held n 9 [c0] = some y0 := by simpa [k_0, k_1, k_2] using (hg 0 _ rfl).trans e0
    obtain ⟨z0, f0, -, w0⟩ := DataW.trod_string Tryz.underlying9 h0
    simp at f0
    subst f0
    obtain ⟨y1, e1⟩ := hxs 1 (by omega)
    have h1 : DataW.trod enc Tryz.prog w 0 spare held n 24 [c1] = some y1 := by simpa [k_0, k_1, k_2] using (hg 1 _ rfl).trans e1
    obtain ⟨z1, r1, w1⟩ := open_slice (f := strDats) (z := 1) (by decide) Tryz.underlying24 (by kernel_rfl) open_text h1
    obtain ⟨y2, e2⟩ := hxs 2 (by omega)
    have h2 : DataW.trod enc Tryz.prog w 0 spare held n 3 [c2] = some y2 := by simpa [k_0, k_1, k_2] using (hg 2 _ rfl).trans e2
    obtain ⟨z2, f2, -, -⟩ := DataW.trod_int Tryz.underlying3 h2
    simp at f2
    subst f2
    exact ⟨⟨z0, z1, z2⟩, .cons_ .mkStr (.cons_ r1 (.cons_ .mkInt .nil_)), ⟨(show z0.size ≤ 9223372036854775807 by unfold maxLen at w0; omega), w1⟩⟩
set_option maxRecDepth 100000 in
theorem open_CodeL (fuel : Nat) (cs : List Value) (x : DataW H × List MemPlace) (h : DataW.trod enc Tryz.prog w 0 spare held fuel 27 cs = some x) : ∃ c : CodeT, RepL w 0 w.heap.size c.dats cs ∧ c.Fits := by
  obtain ⟨xs, n, hn, hx, hcl, hlen, hg⟩ := DataW.trod_struct Tryz.underlying27 h
  rw [show Tryz.prog.cellsOf 27 = 5 by kernel_rfl] at hcl
  match cs, hcl with
  | [c0, c1, c2, c3, c4], _ =>
    have k_0 : Tryz.prog.cellsOf 22 = 1 := by kernel_rfl
    have k_1 : Tryz.prog.cellsOf 23 = 1 := by kernel_rfl
    have k_2 : Tryz.prog.cellsOf 24 = 1 := by kernel_rfl
    have k_3 : Tryz.prog.cellsOf 3 = 1 := by kernel_rfl
    have k_4 : Tryz.prog.cellsOf 25 = 1 := by kernel_rfl
    have hxs : ∀ i, i < 5 → ∃ y, xs[i]? = some y := fun i hi => ⟨_, List.getElem?_eq_getElem (by rw [hlen]; exact hi)⟩
    obtain ⟨y0, e0⟩ := hxs 0 (by omega)
    have h0 : DataW.trod enc Tryz.prog w 0 spare held n 22 [c0] = some y0 := by simpa [k_0, k_1, k_2, k_3, k_4] using (hg 0 _ rfl).trans e0
    obtain ⟨z0, r0, w0⟩ := open_slice (f := CRoT.dats) (z := 4) (by decide) Tryz.underlying22 (by kernel_rfl) open_CodeRoutineL h0
    obtain ⟨y1, e1⟩ := hxs 1 (by omega)
    have h1 : DataW.trod enc Tryz.prog w 0 spare held n 23 [c1] = some y1 := by simpa [k_0, k_1, k_2, k_3, k_4] using (hg 1 _ rfl).trans e1
    obtain ⟨z1, r1, w1⟩ := open_slice (f := RecT.dats) (z := 3) (by decide) Tryz.underlying23 (by kernel_rfl) open_RecordTypeL h1
    obtain ⟨y2, e2⟩ := hxs 2 (by omega)
    have h2 : DataW.trod enc Tryz.prog w 0 spare held n 24 [c2] = some y2 := by simpa [k_0, k_1, k_2, k_3, k_4] using (hg 2 _ rfl).trans e2
    obtain ⟨z2, r2, w2⟩ := open_slice (f := strDats) (z := 1) (by decide) Tryz.underlying24 (by kernel_rfl) open_text h2
    obtain ⟨y3, e3⟩ := hxs 3 (by omega)
    have h3 : DataW.trod enc Tryz.prog w 0 spare held n 3 [c3] = some y3 := by simpa [k_0, k_1, k_2, k_3, k_4] using (hg 3 _ rfl).trans e3
    obtain ⟨z3, f3, -, -⟩ := DataW.trod_int Tryz.underlying3 h3
    simp at f3
    subst f3
    obtain ⟨y4, e4⟩ := hxs 4 (by omega)
    have h4 : DataW.trod enc Tryz.prog w 0 spare held n 25 [c4] = some y4 := by simpa [k_0, k_1, k_2, k_3, k_4] using (hg 4 _ rfl).trans e4
    obtain ⟨z4, r4, w4⟩ := open_slice (f := InsT.dats) (z := 5) (by decide) Tryz.underlying25 (by kernel_rfl) open_InstrL h4
    exact ⟨⟨z0, z1, z2, z3, z4⟩, .cons_ r0 (.cons_ r1 (.cons_ r2 (.cons_ .mkInt (.cons_ r4 .nil_)))), ⟨w0, w1, w2, w4⟩⟩
set_option maxRecDepth 100000 in
theorem open_code {r : Reach} {b0 : Nat} {v : Value} {d : DataW H} {p : List MemPlace} (hv : Value.okWide Tryz.prog w r b0 27 v) (h : DataW.Trod enc Tryz.prog w 0 spare held 27 v d p) : ∃ c : CodeT, SRep w 0 w.heap.size CodeT.dats v c ∧ c.Fits := by
  obtain ⟨cs, rfl, hsz⟩ := okWide_struct Tryz.underlying27 hv
  obtain ⟨fuel, hf⟩ := h
  obtain ⟨c, hr, hft⟩ := open_CodeL fuel _ _ hf
  exact ⟨c, ⟨cs.toList, by simp, by simpa [Value.cells] using hr⟩, hft⟩
end
end Go.Proofs.YtekobbeoaalibaaGreatDoor
