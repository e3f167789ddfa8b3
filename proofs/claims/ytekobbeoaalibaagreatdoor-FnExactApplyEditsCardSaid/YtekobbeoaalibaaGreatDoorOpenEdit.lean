/- An argument of the laws' type Edit, or a row of such, opened. -/
import Derived.Test.YtekobbeoaalibaaGreatDoorOpenCode
import Derived.Test.YtekobbeoaalibaaGreatDoorTyEdit
namespace Go.Proofs.YtekobbeoaalibaaGreatDoor
open Go.ChangeShapes Go.WideShapes Go.RowKit Go.Deep
set_option linter.unusedVariables false

section
variable {H : Type} {enc : TypeId × Value → H} {w : World} {spare : Nat → Bool} {held : Bool}
set_option maxRecDepth 100000 in
theorem open_EditL (fuel : Nat) (cs : List Value) (x : DataW H × List MemPlace) (h : DataW.trod enc Tryz.prog w 0 spare held fuel 44 cs = some x) : ∃ c : EditT, RepL w 0 w.heap.size c.dats cs ∧ c.Fits := by
  obtain ⟨xs, n, hn, hx, hcl, hlen, hg⟩ := DataW.trod_struct Tryz.underlying44 h
  rw [show Tryz.prog.cellsOf 44 = 2 by kernel_rfl] at hcl
  match cs, hcl with
  | [c0, c1], _ =>
    have k_0 : Tryz.prog.cellsOf 3 = 1 := by kernel_rfl
    have hxs : ∀ i, i < 2 → ∃ y, xs[i]? = some y := fun i hi => ⟨_, List.getElem?_eq_getElem (by rw [hlen]; exact hi)⟩
    obtain ⟨y0, e0⟩ := hxs 0 (by omega)
    have h0 : DataW.trod enc Tryz.prog w 0 spare held n 3 [c0] = some y0 := by simpa [k_0] using (hg 0 _ rfl).trans e0
    obtain ⟨z0, f0, -, -⟩ := DataW.trod_int Tryz.underlying3 h0
    simp at f0
    subst f0
    obtain ⟨y1, e1⟩ := hxs 1 (by omega)
    have h1 : DataW.trod enc Tryz.prog w 0 spare held n 3 [c1] = some y1 := by simpa [k_0] using (hg 1 _ rfl).trans e1
    obtain ⟨z1, f1, -, -⟩ := DataW.trod_int Tryz.underlying3 h1
    simp at f1
    subst f1
    exact ⟨⟨z0, z1⟩, .cons_ .mkInt (.cons_ .mkInt .nil_), trivial⟩
set_option maxRecDepth 100000 in
theorem open_edit {r : Reach} {b0 : Nat} {v : Value} {d : DataW H} {p : List MemPlace} (hv : Value.okWide Tryz.prog w r b0 44 v) (h : DataW.Trod enc Tryz.prog w 0 spare held 44 v d p) : ∃ c : EditT, SRep w 0 w.heap.size EditT.dats v c := by
  obtain ⟨cs, rfl, hsz⟩ := okWide_struct Tryz.underlying44 hv
  obtain ⟨fuel, hf⟩ := h
  obtain ⟨c, hr, -⟩ := open_EditL fuel _ _ hf
  exact ⟨c, ⟨cs.toList, by simp, by simpa [Value.cells] using hr⟩⟩
set_option maxRecDepth 100000 in
theorem open_edits {r : Reach} {b0 : Nat} {v : Value} {d : DataW H} {p : List MemPlace} (hv : Value.okWide Tryz.prog w r b0 54 v) (h : DataW.Trod enc Tryz.prog w 0 spare held 54 v d p) : ∃ l : List EditT, LRep w 0 w.heap.size 2 EditT.dats v l := by
  obtain ⟨A, n, cap, rfl⟩ := okWide_slice Tryz.underlying54 hv
  obtain ⟨fuel, hf⟩ := h
  obtain ⟨l, hl, -⟩ := open_slice (f := EditT.dats) (z := 2) (P := fun _ => True) (by decide) Tryz.underlying54 (by kernel_rfl) (fun fuel cs x hx => by obtain ⟨c, hr, _⟩ := open_EditL fuel cs x hx; exact ⟨c, hr, trivial⟩) hf
  exact ⟨l, hl⟩
end
end Go.Proofs.YtekobbeoaalibaaGreatDoor
