/- A row of the call's own that grows by elements with data of their own. Plain lemmas, no program. Data of the call's own beside a box that calls write (the parse -/
import Derived.Test.YthbcamfejgghhaaGreatDoorQ08
import Derived.Test.YthbcamfejgghhaaGreatDoorQ12
set_option maxRecDepth 100000
set_option maxHeartbeats 8000000
set_option linter.unusedVariables false
set_option linter.unusedSimpArgs false
namespace Go.Proofs.YthbcamfejgghhaaGreatDoor
open Go.IntKind (i64)
section
open Go.RowKit
section
variable {α : Type} {f : α → List Dat} {K : Nat} {w w' w1 w2 : World} {B : Nat} {e : TypeId} {l : List α} {c : α} {v v' : Value} {vs us : List Value} {G : List Nat}
def Grow (B : Nat) (e : TypeId) (K : Nat) (f : α → List Dat) (w : World) (l : List α) (v : Value) (vs : List Value) : Prop :=
 ∃ F : List Nat, w.ownsRow B e K v l.length vs ∧ aO w (flat f l) F vs ∧ F.Nodup ∧ (∀ g ∈ F, B ≤ g) ∧ (∀ g, v.ownBlock = some g → g ∉ F)
theorem Grow.own (h : Grow B e K f w l v vs) : w.ownsRow B e K v l.length vs := by obtain ⟨F, h, -⟩ := h; exact h
theorem Grow.len (h : Grow B e K f w l v vs) : vs.length = (flat f l).length := by obtain ⟨F, -, h, -⟩ := h; exact h.len
theorem Grow.start (h : w.ownsRow B e K v 0 []) : Grow B e K f w ([] : List α) v [] := ⟨[], h, by simp only [fC]; exact .eO, List.nodup_nil, av, av⟩
theorem Grow.kept (h : Grow B e K f w l v vs) (hb : ∀ g, g < w.heap.size → w'.heap[g]? = w.heap[g]?) : Grow B e K f w' l v vs := by
 obtain ⟨F, h1, h2, h3, h4, h5⟩ := h
 exact ⟨F, dR h1 fun g hg => hb g (h1.lt g hg).2, h2.kept fun g hg => hb g (h2.lt g hg), h3, h4, h5⟩
theorem Grow.later (h : Grow B e K f w l v vs) (hb : Below w.heap.size w w') : Grow B e K f w' l v vs := h.kept fun g hg => hb.block g hg
theorem Grow.same (h : Grow B e K f w l v vs) (hs : Same w w') : Grow B e K f w' l v vs := h.kept fun g _ => by rw [hs.heap]
theorem Grow.alloc (h : Grow B e K f w l v vs) (o : Obj) : Grow B e K f (w.alloc o) l v vs := h.later ((bR w.heap.size w).alloc (nR _) o)
theorem Grow.gQ (h : Grow B e K f w l v vs) {p : Addr} (hp : p.block < B) (u : Value) : Grow B e K f (w.setCell p u) l v vs := by
 obtain ⟨F, h1, h2, h3, h4, h5⟩ := h
 refine ⟨F, dR h1 fun g hg => Below.heap_setCell w p u g (fun e => ?_), h2.kept fun g hg => Below.heap_setCell w p u g (fun e => ?_), h3, h4, h5⟩
 ·have := (h1.lt g hg).1; omega
 have := h4 g hg; omega
theorem Grow.rep (h : Grow B e K f w l v vs) : aW w B w.heap.size K f v l := by
 obtain ⟨F, h1, h2, h3, h4, h5⟩ := h
 exact .iV (Rds.MK h1 fun g hg => h1.lt g hg) (h2.rep fun g hg => ⟨h4 g hg, h2.lt g hg⟩)
theorem Grow.Xh (h : Grow B e K f w l v vs) : ∃ F, dK w (.row K l.length (flat f l)) F v ∧ F.Nodup ∧ ∀ g ∈ F, B ≤ g := by
 obtain ⟨F, h1, h2, h3, h4, h5⟩ := h
 refine ⟨_, dK.iV h1 h2, List.nodup_append.2 ⟨?_, h3, fun a ha b hb e => ?_⟩, fun g hg => ?_⟩
 ·cases v.ownBlock <;> simp
 ·subst e; exact h5 a (by simpa using ha) hb
 rcases mA hg with hg | hg
 ·exact (h1.lt g jK).1
 exact h4 g hg
theorem Grow.made (h : Grow B e K f w l v vs) : gD w B w.heap.size K f v l := by
 obtain ⟨F, h1, h2, h3⟩ := h.Xh
 exact ⟨F, h1, h2, fun g hg => ⟨h3 g hg, h1.lt g hg⟩⟩
theorem Grow.push (h : Grow B e K f w l v vs) (hb : Below w.heap.size w w1) (hB : B ≤ w.heap.size) (hc : aO w1 (f c) G us) (hG : G.Nodup) (hg : ∀ g ∈ G, w.heap.size ≤ g)
 (ho : w2.ownsRow B e K v' (l.length + 1) (vs ++ us)) (hgr : w1.grownBy w2 v.ownBlock) (hat : v'.ownBlock = v.ownBlock ∨ v'.ownBlock = some (w1.heap.size + 1)) : Grow B e K f w2 (l ++ [c]) v' (vs ++ us) := by
 obtain ⟨F, h1, h2, h3, h4, h5⟩ := h
 have hF := h2.lt
 have hG1 := hc.lt
 have hv : ∀ g, v.ownBlock = some g → g < w.heap.size := fun g hg => (h1.lt g hg).2
 have h2' : aO w2 (flat f l) F vs := h2.kept fun g hgF => (hgr.block g (nL (hF g hgF) hb.size) (fun e => h5 g e.symm hgF)).trans (hb.block g (hF g hgF))
 have hc' : aO w2 (f c) G us := hc.kept fun g hgG => hgr.block g (hG1 g hgG) (fun e => by have := hv g e.symm; have := hg g hgG; omega)
 refine ⟨F ++ G, by rw [List.length_append]; exact ho, by rw [jH, cK, fC, List.append_nil]; exact h2'.app hc', List.nodup_append.2 ⟨h3, hG, fun a ha b hb' e => ?_⟩, fun g hm => ?_, fun g hvg hm => ?_⟩
 ·subst e; have := hF a ha; have := hg a hb'; omega
 ·rcases mA hm with hm | hm
  ·exact h4 g hm
  have := hg g hm; omega
 rcases hat with e | e
 ·exact Jc
 rw [e] at hvg; injection hvg with hvg
 rcases mA hm with hm | hm
 ·have := hF g hm; have := hb.size; omega
 have := hG1 g hm; omega
end
end
section
open Go Go.RowKit
section
variable {α : Type} {f : α → List Dat} {K : Nat} {w w' w1 w2 : World} {B p lo mid hi : Nat} {e : TypeId} {l : List α} {c : α} {v v' : Value} {vs us : List Value} {ds : List Dat}
theorem eu.box (h : eu w lo hi ds vs) (hg : w.grownBy w' (some p)) (hhi : hi ≤ w.heap.size) (hp : p < lo ∨ hi ≤ p) : eu w' lo hi ds vs := h.kept fun g h1 h2 => hg.block g ah aK
theorem Grow.at_ (h : Grow B e K f w l v vs) (hk : ∀ g, B ≤ g → g < w.heap.size → w'.heap[g]? = w.heap[g]?) : Grow B e K f w' l v vs := by
 obtain ⟨F, h1, h2, h3, h4, h5⟩ := h
 exact ⟨F, dR h1 fun g hg => hk g (h1.lt g hg).1 (h1.lt g hg).2, h2.kept fun g hg => hk g (h4 g hg) (h2.lt g hg), h3, h4, h5⟩
theorem Grow.box (h : Grow B e K f w l v vs) (hg : w.grownBy w' (some p)) (hp : p < B) : Grow B e K f w' l v vs := h.at_ fun g h1 h2 => hg.block g h2 aK
theorem Grow.pushP (h : Grow B e K f w l v vs) (hb : w.grownBy w1 (some p)) (hp : p < B) (hB : B ≤ w.heap.size) (hc : eu w1 w.heap.size w1.heap.size (f c) us)
 (ho : w2.ownsRow B e K v' (l.length + 1) (vs ++ us)) (hgr : w1.grownBy w2 v.ownBlock) (hat : v'.ownBlock = v.ownBlock ∨ v'.ownBlock = some (w1.heap.size + 1)) : Grow B e K f w2 (l ++ [c]) v' (vs ++ us) := by
 obtain ⟨F, h1, h2, h3, h4, h5⟩ := h
 obtain ⟨G, hc, hG, hg⟩ := hc
 have hF := h2.lt
 have hv : ∀ g, v.ownBlock = some g → g < w.heap.size := fun g hg => (h1.lt g hg).2
 have hw1 : ∀ g, B ≤ g → g < w.heap.size → w1.heap[g]? = w.heap[g]? := fun g a b => hb.block g b aK
 have h2' : aO w2 (flat f l) F vs := h2.kept fun g hgF => (hgr.block g (nL (hF g hgF) hb.size) (fun e => h5 g e.symm hgF)).trans (hw1 g (h4 g hgF) (hF g hgF))
 have hc' : aO w2 (f c) G us := hc.kept fun g hgG => hgr.block g (hg g hgG).2 (fun e => by have := hv g e.symm; have := (hg g hgG).1; omega)
 refine ⟨F ++ G, by rw [List.length_append]; exact ho, by rw [jH, cK, fC, List.append_nil]; exact h2'.app hc', List.nodup_append.2 ⟨h3, hG, fun a ha b hb' e => ?_⟩, fun g hm => ?_, fun g hvg hm => ?_⟩
 ·subst e; have := hF a ha; have := (hg a hb').1; omega
 ·rcases mA hm with hm | hm
  ·exact h4 g hm
  have := (hg g hm).1; omega
 rcases hat with e | e
 ·rcases mA hm with hm | hm
  ·exact h5 g vQ hm
  have := hv g vQ; have := (hg g hm).1; omega
 rw [e] at hvg; injection hvg with hvg
 rcases mA hm with hm | hm
 ·have := hF g hm; have := hb.size; omega
 have := (hg g hm).2; omega
theorem Grow.lit (h : eu w B w.heap.size (flat f l) vs) (hv : vs.length = l.length * K) (hB : B ≤ w.heap.size) (hl : l.length ≤ maxLen) : Grow B e K f (w.alloc (.cells vs.toArray e)) l (.slice (some (aj w.heap.size 0)) l.length l.length) vs := by
 obtain ⟨F, h1, h2, h3⟩ := h
 refine ⟨F, ⟨hv, .inr ⟨w.heap.size, l.length, vs.toArray, rfl, hB, heap_alloc_new w _, nR _, hl, by simp [hv], by simp [← hv]⟩⟩, h1.kept fun g hg => Below.heap_alloc w _ g (h3 g hg).2, h2, fun g hg => (h3 g hg).1, fun g hg hm => ?_⟩
 have hg : some w.heap.size = some g := hg
 injection hg with hg
 have := (h3 g hm).2; omega
end
def aH.cells (c : aH) (A : Option Addr) (n : Nat) : List Value := [.int i64 c.kind, .string c.text, .int i64 c.number, .int i64 c.line, .slice A c.kids.length n]
def zV (w : World) (lo hi : Nat) (c : aH) (A : Option Addr) (n : Nat) : Prop := eu w lo hi c.aG (c.cells A n)
theorem eu.single {w : World} {lo hi size n : Nat} {ds : List Dat} {F : List Nat} {v : Value} (h : dK w (.row size n ds) F v) (hF : F.Nodup) (hb : ∀ g ∈ F, lo ≤ g ∧ g < hi) : eu w lo hi [.row size n ds] [v] := ⟨F ++ [], .aN h .eO, by simpa using hF, by simpa using hb⟩
theorem zV.leaf {w : World} {lo hi : Nat} (k : Int) (t : ByteArray) (m line : Int) : zV w lo hi (.mk k t m line []) none 0 := by
 unfold zV
 rw [aH.mX]
 exact eu.iF (eu.oq (eu.iF (eu.iF (eu.single (F := []) dK.rH List.nodup_nil av))))
theorem zV.out {w : World} {lo hi : Nat} {c : aH} {cs : List Value} (h : eu w lo hi c.aG cs) : ∃ A n, cs = c.cells A n ∧ c.kids.length ≤ n ∧ n ≤ maxLen := by
 obtain ⟨A, n, h1, -, h2, h3⟩ := aH.form (x := .agg cs.toArray) (c := c) ⟨cs, rfl, h.rep⟩
 injection h1 with h1
 exact ⟨A, n, congrArg Array.toList h1, h2, h3⟩
inductive aH.Ok : aH → Prop
 | mk {c : aH} (h1 : c.text.size ≤ 100000) (h2 : 0 ≤ c.line ∧ c.line ≤ 100000) (h3 : -999999999999 ≤ c.number ∧ c.number ≤ 999999999999) (h4 : c.kind = 20 → 0 < c.kids.length ∧ (c.number = 1 → 1 < c.kids.length)) (h5 : c.kids.length ≤ 100000) (h6 : 0 ≤ c.kind ∧ c.kind ≤ 100) (h : ∀ x, x ∈ c.kids → aH.Ok x) : aH.Ok c
namespace aH.Ok
variable {c : aH}
theorem text (h : c.Ok) : c.text.size ≤ 100000 := by cases h; assumption
theorem line (h : c.Ok) : 0 ≤ c.line ∧ c.line ≤ 100000 := by cases h; assumption
theorem number (h : c.Ok) : -999999999999 ≤ c.number ∧ c.number ≤ 999999999999 := by cases h; assumption
theorem case_ (h : c.Ok) : c.kind = 20 → 0 < c.kids.length ∧ (c.number = 1 → 1 < c.kids.length) := by cases h; assumption
theorem len (h : c.Ok) : c.kids.length ≤ 100000 := by cases h; assumption
theorem kind (h : c.Ok) : 0 ≤ c.kind ∧ c.kind ≤ 100 := by cases h; assumption
theorem kids (h : c.Ok) : ∀ x ∈ c.kids, aH.Ok x := by cases h; assumption
end aH.Ok
end
end Go.Proofs.YthbcamfejgghhaaGreatDoor
