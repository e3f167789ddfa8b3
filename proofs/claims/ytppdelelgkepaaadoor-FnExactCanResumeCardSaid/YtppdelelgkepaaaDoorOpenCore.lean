/- An argument of the laws' type Core, opened: it reads as a tree. -/
import Derived.Test.YtppdelelgkepaaaDoorRowKit
import Derived.Test.YtppdelelgkepaaaDoorCoreTo
import Derived.Deep.Slices
import Derived.Deep.Fields
import Derived.ChangeSame
namespace Go.Proofs.YtppdelelgkepaaaDoor
open Go.ChangeShapes Go.WideShapes Go.RowKit Go.Deep

section
variable {H : Type} {enc : TypeId × Value → H} {w : World} {spare : Nat → Bool} {held : Bool}
theorem fits_mk (k o n l : Int) (t : ByteArray) (kids : List CoreT) (h : t.size ≤ 9223372036854775807) (hk : ∀ x ∈ kids, x.Fits) : (CoreT.mk k o n l t kids).Fits := .mk h hk
/-- the first k elements of a slice whose elements read as trees -/
theorem open_cores (a : Addr) (len : Nat) (He : ∀ i, i < len → ∃ (cs : List Value) (c : CoreT), cs.length = 6 ∧ (∀ j u, cs[j]? = some u → w.cell? (a.add (i * 6 + j)) = some u) ∧ RepL w 0 w.heap.size c.dats cs ∧ c.Fits) :
    ∀ k, k ≤ len → ∃ (l : List CoreT) (vs : List Value), l.length = k ∧ vs.length = k * 6 ∧ RepL w 0 w.heap.size (coreDats l) vs ∧ (∀ j u, vs[j]? = some u → w.cell? (a.add j) = some u) ∧ ∀ c ∈ l, c.Fits := by
  intro k
  induction k with
  | zero => intro _; exact ⟨[], [], rfl, rfl, by simp only [coreDats]; exact .nil_, by simp, by simp⟩
  | succ k ih =>
    intro hk
    obtain ⟨l, vs, h1, h2, h3, h4, h5⟩ := ih (by omega)
    obtain ⟨cs, c, g1, g2, g3, g4⟩ := He k (by omega)
    refine ⟨l ++ [c], vs ++ cs, by simp [h1], by simp [h2, g1]; omega, ?_, fun j u hj => ?_, ?_⟩
    · rw [coreDats_app]; simp only [coreDats, List.append_nil]; exact h3.app g3
    · by_cases hlt : j < vs.length
      · rw [List.getElem?_append_left hlt] at hj; exact h4 j u hj
      · rw [List.getElem?_append_right (by omega)] at hj
        have := g2 _ u hj
        rw [show k * 6 + (j - vs.length) = j by omega] at this
        exact this
    · intro x hx
      rcases List.mem_append.1 hx with hx | hx
      · exact h5 x hx
      · rw [List.mem_singleton.1 hx]; exact g4

set_option maxRecDepth 100000 in
theorem open_coreL : ∀ (fuel : Nat) (cs : List Value) (x : DataW H × List MemPlace), DataW.trod enc Tryd.prog w 0 spare held fuel 24 cs = some x → ∃ c : CoreT, RepL w 0 w.heap.size c.dats cs ∧ c.Fits := by
  intro fuel
  induction fuel using Nat.strongRecOn with
  | ind fuel ih =>
    intro cs x h
    obtain ⟨xs, n, hn, hx, hcl, hlen, hg⟩ := DataW.trod_struct Tryd.underlying24 h
    rw [show Tryd.prog.cellsOf 24 = 6 by kernel_rfl] at hcl
    match cs, hcl with
    | [c0, c1, c2, c3, c4, c5], _ =>
      have k0 : Tryd.prog.cellsOf 3 = 1 := by kernel_rfl
      have k4 : Tryd.prog.cellsOf 9 = 1 := by kernel_rfl
      have k5 : Tryd.prog.cellsOf 22 = 1 := by kernel_rfl
      have hxs : ∀ i, i < 6 → ∃ y, xs[i]? = some y := fun i hi => ⟨_, List.getElem?_eq_getElem (by rw [hlen]; exact hi)⟩
      obtain ⟨y0, e0⟩ := hxs 0 (by omega)
      obtain ⟨y1, e1⟩ := hxs 1 (by omega)
      obtain ⟨y2, e2⟩ := hxs 2 (by omega)
      obtain ⟨y3, e3⟩ := hxs 3 (by omega)
      obtain ⟨y4, e4⟩ := hxs 4 (by omega)
      obtain ⟨y5, e5⟩ := hxs 5 (by omega)
      have h0 : DataW.trod enc Tryd.prog w 0 spare held n 3 [c0] = some y0 := by simpa [k0, k4, k5] using (hg 0 _ rfl).trans e0
      have h1 : DataW.trod enc Tryd.prog w 0 spare held n 3 [c1] = some y1 := by simpa [k0, k4, k5] using (hg 1 _ rfl).trans e1
      have h2 : DataW.trod enc Tryd.prog w 0 spare held n 3 [c2] = some y2 := by simpa [k0, k4, k5] using (hg 2 _ rfl).trans e2
      have h3 : DataW.trod enc Tryd.prog w 0 spare held n 3 [c3] = some y3 := by simpa [k0, k4, k5] using (hg 3 _ rfl).trans e3
      have h4 : DataW.trod enc Tryd.prog w 0 spare held n 9 [c4] = some y4 := by simpa [k0, k4, k5] using (hg 4 _ rfl).trans e4
      have h5 : DataW.trod enc Tryd.prog w 0 spare held n 22 [c5] = some y5 := by simpa [k0, k4, k5] using (hg 5 _ rfl).trans e5
      obtain ⟨z0, f0, -, -⟩ := DataW.trod_int Tryd.underlying3 h0
      obtain ⟨z1, f1, -, -⟩ := DataW.trod_int Tryd.underlying3 h1
      obtain ⟨z2, f2, -, -⟩ := DataW.trod_int Tryd.underlying3 h2
      obtain ⟨z3, f3, -, -⟩ := DataW.trod_int Tryd.underlying3 h3
      obtain ⟨z4, f4, -, w4⟩ := DataW.trod_string Tryd.underlying9 h4
      simp at f0 f1 f2 f3 f4
      subst f0 f1 f2 f3 f4
      rcases DataW.trod_slice Tryd.underlying22 h5 with ⟨hcs, -⟩ | ⟨a, len, cap, elems, rest, m, hm, hcs, -, -, hl, hcap, hel, hi, -, -⟩
      · simp at hcs
        subst hcs
        refine ⟨.mk z0 z1 z2 z3 z4 [], ?_, fits_mk _ _ _ _ _ _ (by unfold maxLen at w4; omega) (by simp)⟩
        rw [CoreT.dats_eq]
        exact .cons_ .mkInt (.cons_ .mkInt (.cons_ .mkInt (.cons_ .mkInt (.cons_ .mkStr (.cons_ (Rep.mkRow Rds.none_ (by simp only [CoreT.kids, coreDats]; exact .nil_)) .nil_)))))
      · simp at hcs
        subst hcs
        have k6 : Tryd.prog.cellsOf 24 = 6 := by kernel_rfl
        obtain ⟨l, vs, g1, g2, g3, g4, g5⟩ := open_cores (w := w) a len (fun i hlt => by
          have hi' := hi i hlt
          rw [List.getElem?_eq_getElem (by omega), k6] at hi'
          obtain ⟨cs', hc, ht⟩ := Option.bind_eq_some_iff.1 hi'
          obtain ⟨-, hcl', hat⟩ := World.cells?_some hc
          obtain ⟨c, hr, hf⟩ := ih m (by omega) cs' _ ht
          refine ⟨cs', c, hcl', fun j u hu => ?_, hr, hf⟩
          have hj : j < cs'.length := (List.getElem?_eq_some_iff.1 hu).1
          rw [← Go.Deep.add_add, hat j (by omega), hu]) len (Nat.le_refl _)
        refine ⟨.mk z0 z1 z2 z3 z4 l, ?_, fits_mk _ _ _ _ _ _ (by unfold maxLen at w4; omega) g5⟩
        rw [CoreT.dats_eq]
        subst g1
        refine .cons_ .mkInt (.cons_ .mkInt (.cons_ .mkInt (.cons_ .mkInt (.cons_ .mkStr (.cons_ (Rep.mkRow (vs := vs) ⟨some a, cap, rfl, hl, hcap, g2, (fun h => by cases h), fun hn => ?_⟩ g3) .nil_)))))
        obtain ⟨b, off, spot⟩ := a
        have hv0 : 0 < vs.length := by rw [g2]; simp only [CoreT.kids] at hn; omega
        have hc0 := g4 0 _ (List.getElem?_eq_getElem hv0)
        have hspot : spot = none := by simpa [Addr.add] using World.cell?_spot hc0
        subst hspot
        refine ⟨b, off, rfl, Nat.zero_le _, ?_, fun j u hu => ?_⟩
        · have := World.block_lt_of_cell? w _ hc0
          simpa [Addr.add] using this
        · have := g4 j u hu
          rwa [Addr.add_lit] at this
set_option maxRecDepth 100000 in
theorem open_core {r : Reach} {b0 : Nat} {v : Value} {d : DataW H} {p : List MemPlace} (hv : Value.okWide Tryd.prog w r b0 24 v) (h : DataW.Trod enc Tryd.prog w 0 spare held 24 v d p) : ∃ c : CoreT, CRep w 0 w.heap.size v c ∧ c.Fits := by
  obtain ⟨cs, rfl, hsz⟩ := okWide_struct Tryd.underlying24 hv
  obtain ⟨fuel, hf⟩ := h
  obtain ⟨c, hr, hft⟩ := open_coreL fuel _ _ hf
  exact ⟨c, ⟨cs.toList, by simp, by simpa [Value.cells] using hr⟩, hft⟩
end
end Go.Proofs.YtppdelelgkepaaaDoor
