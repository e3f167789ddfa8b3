/- Three rows that grow beside each other: a unit in the making. Plain lemmas. Is an expression VH What is returned is not told, but that a valid one has at mo -/
import Derived.Test.YthbcamfejgghhaaGreatDoorQ15
import Derived.Test.YthbcamfejgghhaaGreatDoorQ19
import Derived.Test.YthbcamfejgghhaaGreatDoorQ20
set_option maxRecDepth 100000
set_option maxHeartbeats 8000000
set_option linter.unusedVariables false
set_option linter.unusedSimpArgs false
namespace Go.Proofs.YthbcamfejgghhaaGreatDoor
open Go.IntKind (i64)
section
open Go Go.RowKit
theorem qD {w : World} {B K n : Nat} {e : TypeId} {v : Value} {xs ys : List Value} (h : w.ownsRow B e K v n xs) (h' : w.ownsRow B e K v n ys) : xs = ys := by
 rcases h.2 with ⟨-, rfl⟩ | ⟨g, cap, cur, rfl, _, hg, _, _, _, ht⟩
 ·have hx : xs = [] := List.eq_nil_of_length_eq_zero (by simpa using h.1)
  have hy : ys = [] := List.eq_nil_of_length_eq_zero (by simpa using h'.1)
  rw [hx, hy]
 rcases h'.2 with ⟨hv, _⟩ | ⟨g', cap', cur', hv, _, hg', _, _, _, ht'⟩
 ·cases hv
 injection hv with e1 _ e2
 injection e1 with e1
 injection e1 with e1
 subst e1
 rw [hg] at hg'
 injection hg' with hg'
 injection hg' with hg'
 subst hg'
 rw [← ht, ← ht']
def nQ (B : Nat) (X : List Nat) (w w1 : World) : Prop := (∀ g, B ≤ g → g ∉ X → g < w.heap.size → w1.heap[g]? = w.heap[g]?) ∧ w.heap.size ≤ w1.heap.size
section
variable {B p : Nat} {X : List Nat} {w w1 w2 : World} {row : Option Nat}
theorem nQ.refl (B : Nat) (X : List Nat) (w : World) : nQ B X w w := ⟨fun _ _ _ _ => rfl, nR _⟩
theorem nQ.size (h : nQ B X w w1) : w.heap.size ≤ w1.heap.size := h.2
theorem nQ.box (h : nQ B X w w1) (hg : w1.grownBy w2 (some p)) (hp : p < B) : nQ B X w w2 := ⟨fun g a b c => (hg.block g (nL c h.2) aK).trans (h.1 g a b c), nT h.2 hg.size⟩
theorem nQ.later (h : nQ B X w w1) (hb : Below w1.heap.size w1 w2) : nQ B X w w2 := ⟨fun g a b c => (hb.block g (nL c h.2)).trans (h.1 g a b c), nT h.2 hb.size⟩
theorem nQ.alloc (h : nQ B X w w1) (o : Obj) : nQ B X w (w1.alloc o) := h.later (bA _ _)
theorem nQ.set (h : nQ B X w w1) {q : Addr} (hq : q.block ∈ X ∨ q.block < B) (x : Value) : nQ B X w (w1.setCell q x) :=
 ⟨fun g a b c => (Below.heap_setCell w1 q x g (fun e => by subst e; rcases hq with hq | hq; exact b hq; omega)).trans (h.1 g a b c), nT h.2 kr⟩
theorem nQ.fresh (h : nQ B X w w1) (hg : w1.grownBy w2 row) (hr : ∀ g, row = some g → w.heap.size ≤ g) : nQ B X w w2 := ⟨fun g a b c => (hg.block g (nL c h.2) Gr).trans (h.1 g a b c), nT h.2 hg.size⟩
end
def sj {α : Type} (G : List Nat) (B : Nat) (e : TypeId) (K : Nat) (f : α → List Dat) (w : World) (l : List α) (v : Value) (vs : List Value) : Prop :=
 ∃ F : List Nat, w.ownsRow B e K v l.length vs ∧ aO w (flat f l) F vs ∧ F.Nodup ∧ (∀ g ∈ F, g ∈ G) ∧ ∀ g, v.ownBlock = some g → g ∈ G ∧ g ∉ F
section
variable {α : Type} {f : α → List Dat} {K B p hi : Nat} {G O X : List Nat} {e : TypeId} {w w' w1 w2 : World} {l l' : List α} {c : α} {v v' : Value} {vs us : List Value}
theorem sj.own (h : sj G B e K f w l v vs) : w.ownsRow B e K v l.length vs := by obtain ⟨F, h, -⟩ := h; exact h
theorem sj.blk (h : sj G B e K f w l v vs) : ∀ g, v.ownBlock = some g → g ∈ G := by obtain ⟨F, -, -, -, -, h⟩ := h; exact fun g hg => (h g hg).1
theorem sj.kept (h : sj G B e K f w l v vs) (hk : ∀ g ∈ G, g < w.heap.size → w'.heap[g]? = w.heap[g]?) : sj G B e K f w' l v vs := by
 exact OD
theorem sj.none_ : sj [] B e K f w ([] : List α) (.slice none 0 0) [] := ⟨[], World.ownsRow_nil w B e K, by simp only [fC]; exact .eO, List.nodup_nil, av, fun g hg => by cases hg⟩
theorem sj.push (h : sj G B e K f w l v vs) (hG : ∀ g ∈ G, g < w.heap.size) (hk1 : ∀ g ∈ G, w1.heap[g]? = w.heap[g]?) (hs : w.heap.size ≤ w1.heap.size) (hm : eu w1 w.heap.size hi (flat f l') us)
 (ho : w2.ownsRow B e K v' (l.length + l'.length) (vs ++ us)) (hgr : w1.grownBy w2 v.ownBlock) (hat : v'.ownBlock = v.ownBlock ∨ ∃ k, v'.ownBlock = some k ∧ w1.heap.size ≤ k) :
 ∃ N : List Nat, sj (G ++ N) B e K f w2 (l ++ l') v' (vs ++ us) ∧ ∀ g ∈ N, w.heap.size ≤ g ∧ g < w2.heap.size := by
 obtain ⟨F, h1, h2, h3, h4, h5⟩ := h
 obtain ⟨F', b1, b2, b3⟩ := hm
 have hl := b1.lt
 have hs2 := hgr.size
 have hv : ∀ g, v.ownBlock = some g → g < w.heap.size := fun g hg => (h1.lt g hg).2
 have hlo := fun g hg => ho.lt g hg
 have key : ∀ g ∈ F, w2.heap[g]? = w.heap[g]? := fun g hg => (hgr.block g (by have := hG g (h4 g hg); omega) (fun q => (h5 g q.symm).2 hg)).trans (hk1 g (h4 g hg))
 rcases hat with q | ⟨k, q, hk⟩
 ·refine ⟨F', ⟨F ++ F', by rw [List.length_append]; exact ho, by rw [jH]; exact (h2.kept key).app (b1.kept fun g hg => hgr.block g (hl g hg) (fun q => by have := hv g q.symm; have := (b3 g hg).1; omega)), List.nodup_append.2 ⟨h3, b2, fun a ha b hb q => ?_⟩, fun g hg => ?_, fun g hg => ?_⟩, fun g hg => ⟨(b3 g hg).1, by have := hl g hg; omega⟩⟩
  ·subst q; have := hG a (h4 a ha); have := (b3 a hb).1; omega
  ·rcases mA hg with hg | hg
   ·exact List.mem_append_left _ (h4 g hg)
   exact List.mem_append_right _ hg
  have hg' : v.ownBlock = some g := by rw [← q]; exact hg
  refine ⟨List.mem_append_left _ (h5 g hg').1, fun hm => ?_⟩
  rcases mA hm with hm | hm
  ·exact (h5 g hg').2 hm
  have := hv g hg'; have := (b3 g hm).1; omega
 refine ⟨F' ++ [k], ⟨F ++ F', by rw [List.length_append]; exact ho, by rw [jH]; exact (h2.kept key).app (b1.kept fun g hg => hgr.block g (hl g hg) (fun q => by have := hv g q.symm; have := (b3 g hg).1; omega)), List.nodup_append.2 ⟨h3, b2, fun a ha b hb q => ?_⟩, fun g hg => ?_, fun g hg => ?_⟩, fun g hg => ?_⟩
 ·subst q; have := hG a (h4 a ha); have := (b3 a hb).1; omega
 ·rcases mA hg with hg | hg
  ·exact List.mem_append_left _ (h4 g hg)
  exact List.mem_append_right _ (List.mem_append_left _ hg)
 ·rw [q] at hg; injection hg with hg; subst hg
  refine ⟨av, fun hm => ?_⟩
  rcases mA hm with hm | hm
  ·have := hG _ (h4 _ hm); omega
  have := hl _ hm; omega
 rcases mA hg with hg | hg
 ·exact ⟨(b3 g hg).1, by have := hl g hg; omega⟩
 rw [mS hg]; exact ⟨ah, (hlo k q).2⟩
end
def Tri (B : Nat) (X : List Nat) (e1 e2 e3 : TypeId) (w : World) (u : fE) (v1 v2 v3 : Value) : Prop :=
 ∃ (G1 G2 G3 : List Nat) (vs1 vs2 vs3 : List Value), sj G1 B e1 3 ep.aG w u.records v1 vs1 ∧ sj G2 B e2 1 aR w u.globals v2 vs2 ∧ sj G3 B e3 9 iU.aG w u.procedures v3 vs3 ∧
  (∀ g, g ∈ G1 ∨ g ∈ G2 ∨ g ∈ G3 → B ≤ g ∧ g ∉ X ∧ g < w.heap.size) ∧ (∀ g ∈ G1, g ∉ G2 ∧ g ∉ G3) ∧ ∀ g ∈ G2, g ∉ G3
section
variable {B p hi : Nat} {X : List Nat} {e1 e2 e3 : TypeId} {w w' w1 w2 : World} {u : fE} {v1 v2 v3 v' : Value} {us : List Value}
theorem Tri.kept (h : Tri B X e1 e2 e3 w u v1 v2 v3) (hk : ∀ g, B ≤ g → g ∉ X → g < w.heap.size → w'.heap[g]? = w.heap[g]?) (hs : w.heap.size ≤ w'.heap.size) : Tri B X e1 e2 e3 w' u v1 v2 v3 := by
 obtain ⟨G1, G2, G3, vs1, vs2, vs3, h1, h2, h3, h4, h5⟩ := h
 have K : ∀ g, g ∈ G1 ∨ g ∈ G2 ∨ g ∈ G3 → w'.heap[g]? = w.heap[g]? := fun g hg => hk g (h4 g hg).1 (h4 g hg).2.1 (h4 g hg).2.2
 exact ⟨G1, G2, G3, vs1, vs2, vs3, h1.kept fun g hg _ => K g (.inl hg), h2.kept fun g hg _ => K g (.inr (.inl hg)), h3.kept fun g hg _ => K g (.inr (.inr hg)), fun g hg => ⟨(h4 g hg).1, (h4 g hg).2.1, nL (h4 g hg).2.2 hs⟩, h5⟩
theorem Tri.later (h : Tri B X e1 e2 e3 w u v1 v2 v3) (hb : Below w.heap.size w w') : Tri B X e1 e2 e3 w' u v1 v2 v3 := h.kept (fun g _ _ hg => hb.block g hg) hb.size
theorem Tri.alloc (h : Tri B X e1 e2 e3 w u v1 v2 v3) (o : Obj) : Tri B X e1 e2 e3 (w.alloc o) u v1 v2 v3 := h.later (bA _ _)
theorem Tri.box (h : Tri B X e1 e2 e3 w u v1 v2 v3) (hg : w.grownBy w' (some p)) (hp : p < B) : Tri B X e1 e2 e3 w' u v1 v2 v3 := h.kept (fun g h1 _ h2 => hg.block g h2 aK) hg.size
theorem Tri.set (h : Tri B X e1 e2 e3 w u v1 v2 v3) {q : Addr} (hq : q.block ∈ X ∨ q.block < B) (x : Value) : Tri B X e1 e2 e3 (w.setCell q x) u v1 v2 v3 :=
 h.kept (fun g h1 h2 _ => Below.heap_setCell w q x g Cc) kr
theorem Tri.more (h : Tri B X e1 e2 e3 w u v1 v2 v3) {Y : List Nat} (hY : ∀ x ∈ Y, x ∈ X ∨ w.heap.size ≤ x) : Tri B Y e1 e2 e3 w u v1 v2 v3 := by
 obtain ⟨G1, G2, G3, vs1, vs2, vs3, h1, h2, h3, h4, h5⟩ := h
 exact ⟨G1, G2, G3, vs1, vs2, vs3, h1, h2, h3, fun g hg => ⟨(h4 g hg).1, fun hy => by rcases hY g hy with hx | hx; exact (h4 g hg).2.1 hx; have := (h4 g hg).2.2; omega, (h4 g hg).2.2⟩, h5⟩
theorem Tri.zl (h : Tri B X e1 e2 e3 w u v1 v2 v3) : ∃ vs, w.ownsRow B e1 3 v1 u.records.length vs := by obtain ⟨_, _, _, vs, _, _, h1, _⟩ := h; exact ⟨vs, h1.own⟩
theorem Tri.away (h : Tri B X e1 e2 e3 w u v1 v2 v3) : ∀ g, v1.ownBlock = some g ∨ v2.ownBlock = some g ∨ v3.ownBlock = some g → B ≤ g ∧ g ∉ X ∧ g < w.heap.size := by
 obtain ⟨G1, G2, G3, vs1, vs2, vs3, h1, h2, h3, h4, h5⟩ := h
 rintro g (hg | hg | hg)
 ·exact h4 g (.inl (h1.blk g hg))
 ·exact h4 g (.inr (.inl (h2.blk g hg)))
 exact h4 g (.inr (.inr (h3.blk g hg)))
theorem Tri.start (B : Nat) (X : List Nat) (e1 e2 e3 : TypeId) (w : World) : Tri B X e1 e2 e3 w ⟨[], [], []⟩ (.slice none 0 0) (.slice none 0 0) (.slice none 0 0) :=
 ⟨[], [], [], [], [], [], sj.none_, sj.none_, sj.none_, av, av, av⟩
theorem others (hs : w.heap.size ≤ w1.heap.size) (hgr : w1.grownBy w2 v1.ownBlock) {G G1 : List Nat} (hk : ∀ g ∈ G, w1.heap[g]? = w.heap[g]?) (hb : ∀ g, v1.ownBlock = some g → g ∈ G1) (hd : ∀ g ∈ G, g ∉ G1) : ∀ g ∈ G, g < w.heap.size → w2.heap[g]? = w.heap[g]? := fun g hg hl =>
 (hgr.block g (nL hl hs) (fun q => hd g hg (hb g q.symm))).trans (hk g hg)
theorem Tri.RQ {vs1 : List Value} {r : ep} (h : Tri B X e1 e2 e3 w u v1 v2 v3) (hc : nQ B X w w1) (hB : B ≤ w.heap.size) (hX : ∀ x ∈ X, x < w.heap.size) (hm : eu w1 w.heap.size hi r.aG us)
 (how : w.ownsRow B e1 3 v1 u.records.length vs1) (ho : w2.ownsRow B e1 3 v' (u.records.length + 1) (vs1 ++ us)) (hgr : w1.grownBy w2 v1.ownBlock) (hat : v'.ownBlock = v1.ownBlock ∨ ∃ k, v'.ownBlock = some k ∧ w1.heap.size ≤ k) : Tri B X e1 e2 e3 w2 { u with records := u.records ++ [r] } v' v2 v3 := by
 obtain ⟨G1, G2, G3, ws1, vs2, vs3, h1, h2, h3, h4, h5, h6⟩ := h
 obtain rfl : ws1 = vs1 := qD h1.own how
 have L : ∀ g, g ∈ G1 ∨ g ∈ G2 ∨ g ∈ G3 → g < w.heap.size ∧ w1.heap[g]? = w.heap[g]? := fun g hg => ⟨(h4 g hg).2.2, hc.1 g (h4 g hg).1 (h4 g hg).2.1 (h4 g hg).2.2⟩
 obtain ⟨N, n1, n2⟩ := h1.push (l' := [r]) (fun g hg => (L g (.inl hg)).1) (fun g hg => (L g (.inl hg)).2) hc.2 Gt ho hgr hat
 have K2 := others hc.2 hgr (fun g hg => (L g (.inr (.inl hg))).2) h1.blk (fun g hg hg1 => (h5 g hg1).1 hg)
 have K3 := others hc.2 hgr (fun g hg => (L g (.inr (.inr hg))).2) h1.blk (fun g hg hg1 => (h5 g hg1).2 hg)
 have hs : w.heap.size ≤ w2.heap.size := nT hc.size hgr.size
 refine ⟨G1 ++ N, G2, G3, _, vs2, vs3, n1, h2.kept K2, h3.kept K3, fun g hg => ?_, fun g hg => ?_, h6⟩
 ·have old : g ∈ G1 ∨ g ∈ G2 ∨ g ∈ G3 → B ≤ g ∧ g ∉ X ∧ g < w2.heap.size := fun hg => ⟨(h4 g hg).1, (h4 g hg).2.1, nL (h4 g hg).2.2 hs⟩
  rcases hg with hg | hg
  ·rcases mA hg with hg | hg
   ·exact old (.inl hg)
   exact Gn
  exact old (.inr hg)
 rcases mA hg with hg | hg
 ·exact h5 g hg
 exact ⟨fun h' => by have := (L g (.inr (.inl h'))).1; have := (n2 g hg).1; omega, fun h' => by have := (L g (.inr (.inr h'))).1; have := (n2 g hg).1; omega⟩
theorem Tri.XF {VI : List Value} {l' : List ByteArray} (h : Tri B X e1 e2 e3 w u v1 v2 v3) (hc : nQ B X w w1) (hB : B ≤ w.heap.size) (hX : ∀ x ∈ X, x < w.heap.size) (hm : eu w1 w.heap.size hi (flat aR l') us)
 (how : w.ownsRow B e2 1 v2 u.globals.length VI) (ho : w2.ownsRow B e2 1 v' (u.globals.length + l'.length) (VI ++ us)) (hgr : w1.grownBy w2 v2.ownBlock) (hat : v'.ownBlock = v2.ownBlock ∨ ∃ k, v'.ownBlock = some k ∧ w1.heap.size ≤ k) : Tri B X e1 e2 e3 w2 { u with globals := u.globals ++ l' } v1 v' v3 := by
 obtain ⟨G1, G2, G3, vs1, ws2, vs3, h1, h2, h3, h4, h5, h6⟩ := h
 obtain rfl : ws2 = VI := qD h2.own how
 have L : ∀ g, g ∈ G1 ∨ g ∈ G2 ∨ g ∈ G3 → g < w.heap.size ∧ w1.heap[g]? = w.heap[g]? := fun g hg => ⟨(h4 g hg).2.2, hc.1 g (h4 g hg).1 (h4 g hg).2.1 (h4 g hg).2.2⟩
 obtain ⟨N, n1, n2⟩ := h2.push (fun g hg => (L g (.inr (.inl hg))).1) (fun g hg => (L g (.inr (.inl hg))).2) hc.2 hm ho hgr hat
 have K1 := others hc.2 hgr (fun g hg => (L g (.inl hg)).2) h2.blk (fun g hg hg1 => (h5 g hg).1 hg1)
 have K3 := others hc.2 hgr (fun g hg => (L g (.inr (.inr hg))).2) h2.blk (fun g hg hg1 => h6 g hg1 hg)
 have hs : w.heap.size ≤ w2.heap.size := nT hc.size hgr.size
 have old : ∀ g, g ∈ G1 ∨ g ∈ G2 ∨ g ∈ G3 → B ≤ g ∧ g ∉ X ∧ g < w2.heap.size := fun g hg => ⟨(h4 g hg).1, (h4 g hg).2.1, nL (h4 g hg).2.2 hs⟩
 refine ⟨G1, G2 ++ N, G3, vs1, _, vs3, h1.kept K1, n1, h3.kept K3, fun g hg => ?_, fun g hg => ⟨fun h' => ?_, (h5 g hg).2⟩, fun g hg => ?_⟩
 ·rcases hg with hg | hg | hg
  ·exact old g (.inl hg)
  ·rcases mA hg with hg | hg
   ·exact old g (.inr (.inl hg))
   exact Gn
  exact old g (.inr (.inr hg))
 ·rcases mA h' with h' | h'
  ·exact (h5 g hg).1 h'
  have := (L g (.inl hg)).1; have := (n2 g h').1; omega
 rcases mA hg with hg | hg
 ·exact h6 g hg
 exact fun h' => by have := (L g (.inr (.inr h'))).1; have := (n2 g hg).1; omega
theorem Tri.XG {VJ : List Value} {r : iU} (h : Tri B X e1 e2 e3 w u v1 v2 v3) (hc : nQ B X w w1) (hB : B ≤ w.heap.size) (hX : ∀ x ∈ X, x < w.heap.size) (hm : eu w1 w.heap.size hi r.aG us)
 (how : w.ownsRow B e3 9 v3 u.procedures.length VJ) (ho : w2.ownsRow B e3 9 v' (u.procedures.length + 1) (VJ ++ us)) (hgr : w1.grownBy w2 v3.ownBlock) (hat : v'.ownBlock = v3.ownBlock ∨ ∃ k, v'.ownBlock = some k ∧ w1.heap.size ≤ k) : Tri B X e1 e2 e3 w2 { u with procedures := u.procedures ++ [r] } v1 v2 v' := by
 obtain ⟨G1, G2, G3, vs1, vs2, ws3, h1, h2, h3, h4, h5, h6⟩ := h
 obtain rfl : ws3 = VJ := qD h3.own how
 have L : ∀ g, g ∈ G1 ∨ g ∈ G2 ∨ g ∈ G3 → g < w.heap.size ∧ w1.heap[g]? = w.heap[g]? := fun g hg => ⟨(h4 g hg).2.2, hc.1 g (h4 g hg).1 (h4 g hg).2.1 (h4 g hg).2.2⟩
 obtain ⟨N, n1, n2⟩ := h3.push (l' := [r]) (fun g hg => (L g (.inr (.inr hg))).1) (fun g hg => (L g (.inr (.inr hg))).2) hc.2 Gt ho hgr hat
 have K1 := others hc.2 hgr (fun g hg => (L g (.inl hg)).2) h3.blk (fun g hg hg1 => (h5 g hg).2 hg1)
 have K2 := others hc.2 hgr (fun g hg => (L g (.inr (.inl hg))).2) h3.blk (fun g hg hg1 => h6 g hg hg1)
 have hs : w.heap.size ≤ w2.heap.size := nT hc.size hgr.size
 have old : ∀ g, g ∈ G1 ∨ g ∈ G2 ∨ g ∈ G3 → B ≤ g ∧ g ∉ X ∧ g < w2.heap.size := fun g hg => ⟨(h4 g hg).1, (h4 g hg).2.1, nL (h4 g hg).2.2 hs⟩
 refine ⟨G1, G2, G3 ++ N, vs1, vs2, _, h1.kept K1, h2.kept K2, n1, fun g hg => ?_, fun g hg => ⟨(h5 g hg).1, fun h' => ?_⟩, fun g hg h' => ?_⟩
 ·rcases hg with hg | hg | hg
  ·exact old g (.inl hg)
  ·exact old g (.inr (.inl hg))
  rcases mA hg with hg | hg
  ·exact old g (.inr (.inr hg))
  exact Gn
 ·rcases mA h' with h' | h'
  ·exact (h5 g hg).2 h'
  have := (L g (.inl hg)).1; have := (n2 g h').1; omega
 rcases mA h' with h' | h'
 ·exact h6 g hg h'
 have := (L g (.inr (.inl hg))).1; have := (n2 g h').1; omega
theorem Tri.data (h : Tri B X e1 e2 e3 w u v1 v2 v3) : gJ w B X u.aG [v1, v2, v3] := by
 obtain ⟨G1, G2, G3, vs1, vs2, vs3, ⟨F1, a1, a2, a3, a4, a5⟩, ⟨F2, b1, b2, b3, b4, b5⟩, ⟨F3, c1, c2, c3, c4, c5⟩, h4, h5, h6⟩ := h
 have r1 := dK.iV a1 a2
 have r2 := dK.iV b1 b2
 have r3 := dK.iV c1 c2
 have m1 : ∀ g ∈ v1.ownBlock.toList ++ F1, g ∈ G1 := fun g hg => by
  rcases mA hg with hg | hg
  ·exact (a5 g jK).1
  exact a4 g hg
 have m2 : ∀ g ∈ v2.ownBlock.toList ++ F2, g ∈ G2 := fun g hg => by
  rcases mA hg with hg | hg
  ·exact (b5 g jK).1
  exact b4 g hg
 have m3 : ∀ g ∈ v3.ownBlock.toList ++ F3, g ∈ G3 := fun g hg => by
  rcases mA hg with hg | hg
  ·exact (c5 g jK).1
  exact c4 g hg
 have nd : ∀ {v : Value} {F : List Nat}, F.Nodup → (∀ g, v.ownBlock = some g → g ∉ F) → (v.ownBlock.toList ++ F).Nodup := fun {v F} hF hv => by
  refine List.nodup_append.2 ⟨?_, hF, fun a ha b hb e => ?_⟩
  ·cases v.ownBlock <;> simp
  subst e; exact hv a (by simpa using ha) hb
 refine ⟨_, .aN r1 (.aN r2 (.aN r3 .eO)), ?_, fun g hg => ?_⟩
 ·rw [List.append_nil]
  refine List.nodup_append.2 ⟨nd a3 fun g hg => (a5 g hg).2, List.nodup_append.2 ⟨nd b3 fun g hg => (b5 g hg).2, nd c3 fun g hg => (c5 g hg).2, fun a ha b hb e => ?_⟩, fun a ha b hb e => ?_⟩
  ·subst e; exact h6 a (m2 a ha) (m3 a hb)
  subst e
  rcases mA hb with hb | hb
  ·exact (h5 a (m1 a ha)).1 (m2 a hb)
  exact (h5 a (m1 a ha)).2 (m3 a hb)
 rw [List.append_nil] at hg
 have hg : g ∈ G1 ∨ g ∈ G2 ∨ g ∈ G3 := by
  rcases mA hg with hg | hg
  ·exact .inl (m1 g hg)
  rcases mA hg with hg | hg
  ·exact .inr (.inl (m2 g hg))
  exact .inr (.inr (m3 g hg))
 exact ⟨(h4 g hg).1, (h4 g hg).2.1⟩
theorem Tri.jD (h : Tri B X e1 e2 e3 w u v1 v2 v3) : ∃ vs, w.ownsRow B e2 1 v2 u.globals.length vs := by obtain ⟨_, _, _, _, vs, _, _, h1, _⟩ := h; exact ⟨vs, h1.own⟩
theorem Tri.mP (h : Tri B X e1 e2 e3 w u v1 v2 v3) : ∃ vs, w.ownsRow B e3 9 v3 u.procedures.length vs := by obtain ⟨_, _, _, _, _, vs, _, _, h1, _⟩ := h; exact ⟨vs, h1.own⟩
end
end
section
open Go Go.RowKit
def TM (w : World) (e : Ending) (w' : World) : Prop := (∃ x y : Int, e = .returned (.tuple (aL x y)) ∧ 0 ≤ x ∧ x ≤ 100 ∧ 0 ≤ y ∧ y ≤ 100) ∧ Below w.heap.size w w'
def aeQ (k : Int) (t : ByteArray) (n l : Int) (A : Option Addr) (m cap : Nat) : Value := .agg (ay k t n l A m cap)
theorem EB (k n l : Int) (t : ByteArray) (A : Option Addr) (m cap : Nat) (w : World) : Calls Tryz.prog 225 #[.agg (ay k t n l A m cap)] w (TM w) := by
 have hb0 : Below w.heap.size w (w.alloc (.cells (ay k t n l A m cap) 179)) := bA _ _
 go_in
 go_wp2_with fail
 all_goals go_ret2
 all_goals exact ⟨⟨_, _, rfl, aA, aA, aA, aA⟩, hb0⟩
theorem Lh (c : aH) : ∀ (A : Option Addr) (n : Nat) (w : World) (lo hi : Nat) (left : Int), aW w lo hi 5 aH.aG (.slice A c.kids.length n) c.kids → hi ≤ w.heap.size → 0 ≤ left → left ≤ 600 →
 Calls Tryz.prog 209 #[.agg (ay c.kind c.text c.number c.line A c.kids.length n), left] w fun e w' => (∃ r : Int, e = .returned (.int i64 r) ∧ -1 ≤ r ∧ r ≤ 600 ∧ (0 ≤ r → (c.nodes : Int) + r ≤ left)) ∧ Below w.heap.size w w' := by
 refine aH.ind (P := fun c => ∀ (A : Option Addr) (n : Nat) (w : World) (lo hi : Nat) (left : Int), aW w lo hi 5 aH.aG (.slice A c.kids.length n) c.kids → hi ≤ w.heap.size → 0 ≤ left → left ≤ 600 →
  Calls Tryz.prog 209 #[.agg (ay c.kind c.text c.number c.line A c.kids.length n), left] w fun e w' => (∃ r : Int, e = .returned (.int i64 r) ∧ -1 ≤ r ∧ r ≤ 600 ∧ (0 ≤ r → (c.nodes : Int) + r ≤ left)) ∧ Below w.heap.size w w') ?_ c
 intro c ih A n w lo hi left h hhi h0 h6
 have HIH := lH ih
 have HR := lH h
 have hN := c.eG
 have HN := lH hN
 obtain ⟨A', n', hv, hc1, hc2⟩ := h.shape
 injection hv with hv1 hv2 hv3
 subst hv1 hv3
 unfold maxLen at hc2
 have hw1 : IntKind.i64.wrap (left - 1) = left - 1 := IntWalk.i64_in _ ah
 obtain ⟨b0, hb0⟩ := dQ w 179 (ay c.kind c.text c.number c.line A c.kids.length n)
 clear ih h hN hv2
 go_in
 go_wp2_with fail
 go_loopw [1, 5] (fun lf k wx => ∃ (j : Nat) (x : Int), j ≤ c.kids.length ∧ k = .int i64 j ∧ lf = .int i64 x ∧ -1 ≤ x ∧ x ≤ 600 ∧ Hid (0 ≤ x → (1 + gL (c.kids.take j) : Nat) + x ≤ left) ∧ Blk wx w.heap.size 179 (ay c.kind c.text c.number c.line A c.kids.length n) ∧ Below w.heap.size w wx) (fun _ k _ => c.kids.length - (intOf k).toNat)
 case atStart => exact ⟨0, left - 1, nZ _, rfl, by first | rfl | rw [hw1], ah, ah, lH (fun _ => by simp [gL]; omega), b0, hb0⟩
 clear b0 hb0
 obtain ⟨j, x, hj, rfl, rfl, hx1, hx2, hX, bx, hbx⟩ := hrel
 have cx := bx.cell
 by_cases hlt : j < c.kids.length
 ·by_cases hx0 : 0 ≤ x
  ·obtain ⟨y, hy⟩ : ∃ y, c.kids[j]? = some y := ⟨_, gE hlt⟩
   obtain ⟨g, off, B, d, rfl, -, hg2, hm, hkr, -, -, t0, t1, t2, t3, t4⟩ := aH.at_ (HR.out.below hbx hhi) hy
   have HC := lH (HIH.out y hm B d wr lo hi x hkr (nT hhi hbx.size) hx0 hx2)
   have HNX := lH (uP hy)
   clear hy hm hkr
   go_wp2_with fail
   refine HC.out.mono ?_
   rintro e w2 ⟨⟨r, rfl, hr1, hr2, hr3⟩, hb2⟩
   have HR3 := lH hr3
   have bx2 := bx.later hb2
   have Qh := hbx.trans (hb2.mono hbx.size)
   have hX' := hX.out hx0
   clear hr3 hb2 cx HC t0 t1 t2 t3 t4
   go_wp2_with fail
   go_roundw
   case rel => exact ⟨j + 1, r, hlt, by go_num, rfl, hr1, hr2, lH (fun h => by have := HR3.out h; rw [HNX.out]; omega), bx2, Qh⟩
   simp [intOf]; omega
  go_wp2_with fail
  go_ret
  exact ⟨⟨x, rfl, hx1, hx2, fun h => ah⟩, hbx⟩
 obtain rfl : j = c.kids.length := by omega
 go_wp2_with fail
 go_ret
 exact ⟨⟨x, rfl, hx1, hx2, fun h => by have := hX.out h; rw [List.take_length] at this; rw [HN.out]; omega⟩, hbx⟩
theorem VK (k n l : Int) (t : ByteArray) (A : Option Addr) (m cap : Nat) (w : World) (ht : t.size ≤ 100000) (h : k = 2) : Calls Tryz.prog 226 #[.agg (ay k t n l A m cap)] w (nU w) := by
 have hb0 : Below w.heap.size w (w.alloc (.cells (ay k t n l A m cap) 179)) := bA _ _
 subst h
 go_in
 exact CU
theorem VL (k n l : Int) (t : ByteArray) (A : Option Addr) (m cap : Nat) (w : World) (ht : t.size ≤ 100000) (h : k = 4) : Calls Tryz.prog 226 #[.agg (ay k t n l A m cap)] w (nU w) := by
 exact Gg
theorem TN (k n l : Int) (t : ByteArray) (A : Option Addr) (m cap : Nat) (w : World) (ht : t.size ≤ 100000) (h : k = 13) : Calls Tryz.prog 226 #[.agg (ay k t n l A m cap)] w (nU w) := by
 exact Gg
theorem TP (k n l : Int) (t : ByteArray) (A : Option Addr) (m cap : Nat) (w : World) (ht : t.size ≤ 100000) (h : k = 28) : Calls Tryz.prog 226 #[.agg (ay k t n l A m cap)] w (nU w) := by
 exact Gg
theorem VM (k n l : Int) (t : ByteArray) (A : Option Addr) (m cap : Nat) (w : World) (ht : t.size ≤ 100000) (h : k = 5) : Calls Tryz.prog 226 #[.agg (ay k t n l A m cap)] w (nU w) := by
 have hb0 : Below w.heap.size w (w.alloc (.cells (ay k t n l A m cap) 179)) := bA _ _
 subst h
 go_in
 go_wp2_with fail
 refine (qw _ _).mono ?_
 exact Jr
theorem VN (k n l : Int) (t : ByteArray) (A : Option Addr) (m cap : Nat) (w : World) (ht : t.size ≤ 100000) (h : k = 7) : Calls Tryz.prog 226 #[.agg (ay k t n l A m cap)] w (nU w) := by
 have hb0 : Below w.heap.size w (w.alloc (.cells (ay k t n l A m cap) 179)) := bA _ _
 subst h
 go_in
 go_wp2_with fail
 refine (o8 _ _).mono ?_
 exact Jr
theorem VO (k n l : Int) (t : ByteArray) (A : Option Addr) (m cap : Nat) (w : World) (ht : t.size ≤ 100000) (h : k = 8) : Calls Tryz.prog 226 #[.agg (ay k t n l A m cap)] w (nU w) := by
 have hb0 : Below w.heap.size w (w.alloc (.cells (ay k t n l A m cap) 179)) := bA _ _
 subst h
 go_in
 go_wp2_with fail
 refine (lC _ _).mono ?_
 rintro e w1 ⟨b, rfl, rfl, -, -⟩
 exact CU
theorem VP (k n l : Int) (t : ByteArray) (A : Option Addr) (m cap : Nat) (w : World) (ht : t.size ≤ 100000) (h2 : ¬ k = 2) (h3 : ¬ k = 3) (h4 : ¬ k = 4) (h13 : ¬ k = 13) (h28 : ¬ k = 28) (h5 : ¬ k = 5) (h7 : ¬ k = 7) (h8 : ¬ k = 8) : Calls Tryz.prog 226 #[.agg (ay k t n l A m cap)] w (nU w) := by
 have hb0 : Below w.heap.size w (w.alloc (.cells (ay k t n l A m cap) 179)) := bA _ _
 have c2 : (k == 2) = false := by simp [h2]
 have c3 : (k == 3) = false := by simp [h3]
 have c4 : (k == 4) = false := by simp [h4]
 have c13 : (k == 13) = false := by simp [h13]
 have c28 : (k == 28) = false := by simp [h28]
 have c5 : (k == 5) = false := by simp [h5]
 have c7 : (k == 7) = false := by simp [h7]
 have c8 : (k == 8) = false := by simp [h8]
 clear h2 h3 h4 h13 h28 h5 h7 h8
 go_in
 exact CU
theorem VQ (k n l : Int) (t : ByteArray) (A : Option Addr) (m cap : Nat) (w : World) (ht : t.size ≤ 100000) (h : k = 3) : Calls Tryz.prog 226 #[.agg (ay k t n l A m cap)] w (nU w) := by
 have hb0 : Below w.heap.size w (w.alloc (.cells (ay k t n l A m cap) 179)) := bA _ _
 subst h
 have b0 := Blk.new w 179 (ay 3 t n l A m cap)
 go_in
 go_wp2_with fail
 refine (sZ t _ ah).mono ?_
 rintro e w1 ⟨rfl, hb⟩
 have hbw := hb0.trans (hb.mono hb0.size)
 have lw1 : w.heap.size + 1 ≤ w1.heap.size := by have := hb.size; simpa using this
 have b1 := (b0.later hb).alloc (.cells (aL ((bH t).lo.toInt) ((bH t).hi.toInt)) 110)
 have bc := Blk.new w1 110 (aL ((bH t).lo.toInt) ((bH t).hi.toInt))
 have hb2 : Below w.heap.size w (w1.alloc (.cells (aL ((bH t).lo.toInt) ((bH t).hi.toInt)) 110)) := hbw.alloc hbw.size _
 have HC := lH (oU (bH t))
 unfold cB.val at HC ⊢
 go_upto_region 6 with fail
 generalize w1.alloc (.cells (aL ((bH t).lo.toInt) ((bH t).hi.toInt)) 110) = W at *
 generalize dN (bH t) = z at *
 generalize (bH t).lo.toInt = c1 at *
 generalize (bH t).hi.toInt = c2 at *
 clear b0 hb0 hb hbw
 cases ha : jl t
 ·have cx := b1.cell
  have cc := bc.cell
  go_wp2_with fail
  go_quiet (fail)
  go_wp2_with fail
  go_ret
  exact ⟨_, rfl, hb2.trans ((Same.refl W).drewN _ |>.below _ |>.mono hb2.size)⟩
 have x0 : W.drew.cell? (aj w1.heap.size 0) = some (.int i64 c1) := bc.cell 0
 have x1 : W.drew.cell? (aj w1.heap.size 1) = some (.int i64 c2) := bc.cell 1
 have x2 : W.drew.cell? (aj w.heap.size 1) = some (.string t) := b1.cell 1
 have lc := bc.lt
 have lb := b1.lt
 have lc' : w1.heap.size < W.drew.heap.size := bc.lt
 have lb' : w.heap.size < W.drew.heap.size := b1.lt
 go_region_held3 (fun w' => w'.cell? (aj w1.heap.size 0) = some (.int i64 c1) ∧ w'.cell? (aj w1.heap.size 1) = some (.int i64 c2) ∧ w'.cell? (aj w.heap.size 1) = some (.string t)) (first | with_reducible exact ⟨x0, x1, x2⟩ | with_reducible exact ⟨y0, y1, y2⟩) (first | (go_at_call 75; refine (HC.out _).mono ?_; rintro e w3 ⟨rfl, hb3⟩; have y0 := (hb3.cell (p := ⟨w1.heap.size, 0, none⟩) lc').trans x0; have y1 := (hb3.cell (p := ⟨w1.heap.size, 1, none⟩) lc').trans x1; have y2 := (hb3.cell (p := ⟨w.heap.size, 1, none⟩) lb').trans x2))
 go_wp2_with fail
 go_ret
 exact ⟨_, rfl, (hb2.trans ((Same.refl W).drew.below _ |>.mono hb2.size)).trans (hb3.mono hb2.size)⟩
theorem Hf (k n l : Int) (t : ByteArray) (A : Option Addr) (m cap : Nat) (w : World) (ht : t.size ≤ 100000) : Calls Tryz.prog 226 #[.agg (ay k t n l A m cap)] w (nU w) := by
 by_cases h2 : k = 2
 ·exact VK k n l t A m cap w ht h2
 by_cases h3 : k = 3
 ·exact VQ k n l t A m cap w ht h3
 by_cases h4 : k = 4
 ·exact VL k n l t A m cap w ht h4
 by_cases h13 : k = 13
 ·exact TN k n l t A m cap w ht h13
 by_cases h28 : k = 28
 ·exact TP k n l t A m cap w ht h28
 by_cases h5 : k = 5
 ·exact VM k n l t A m cap w ht h5
 by_cases h7 : k = 7
 ·exact VN k n l t A m cap w ht h7
 by_cases h8 : k = 8
 ·exact VO k n l t A m cap w ht h8
 exact VP k n l t A m cap w ht h2 h3 h4 h13 h28 h5 h7 h8
theorem Hg (c : aH) : ∀ (A : Option Addr) (n : Nat) (w : World) (lo hi : Nat) (deep : Int), aW w lo hi 5 aH.aG (.slice A c.kids.length n) c.kids → hi ≤ w.heap.size → c.Ok → 0 ≤ deep → deep ≤ 41 →
 Calls Tryz.prog 210 #[.agg (ay c.kind c.text c.number c.line A c.kids.length n), deep] w (nU w) := by
 refine aH.ind (P := fun c => ∀ (A : Option Addr) (n : Nat) (w : World) (lo hi : Nat) (deep : Int), aW w lo hi 5 aH.aG (.slice A c.kids.length n) c.kids → hi ≤ w.heap.size → c.Ok → 0 ≤ deep → deep ≤ 41 →
  Calls Tryz.prog 210 #[.agg (ay c.kind c.text c.number c.line A c.kids.length n), deep] w (nU w)) ?_ c
 intro c ih A n w lo hi deep h hhi hok h0 h4
 have HIH := lH ih
 have HR := lH h
 have HOK := lH hok
 have hkl := hok.len
 have htx := hok.text
 obtain ⟨hn1, hn2⟩ := hok.number
 clear ih h hok
 obtain ⟨b0, hb0⟩ := dQ w 179 (ay c.kind c.text c.number c.line A c.kids.length n)
 have e1 : IntKind.i64.wrap ((c.kids.length : Int) - 1) = (c.kids.length : Int) - 1 := IntWalk.i64_in _ ah
 have e2 : IntKind.i64.wrap ((c.kids.length : Int) - 1 - c.number) = (c.kids.length : Int) - 1 - c.number := IntWalk.i64_in _ ah
 have e3 : IntKind.i64.wrap (1 + c.number) = 1 + c.number := IntWalk.i64_in _ ah
 have e4 : IntKind.i64.wrap (deep + 1) = deep + 1 := IntWalk.i64_in _ ah
 go_in
 go_wp2_with fail
 refine (EB _ _ _ _ _ _ _ _).mono ?_
 rintro e w1 ⟨⟨x, y, rfl, hx0, hx1, hy0, hy1⟩, hb⟩
 have b1 := b0.later hb
 have hb1 := hb0.trans (hb.mono hb0.size)
 clear b0 hb0 hb
 have c1 := b1.cell
 go_upto_region 2 with fail
 go_cut [48] (fun v wx => ∃ b : Bool, v = .bool b ∧ Below w1.heap.size w1 wx ∧ Hid (b = false → deep ≤ 40))
 case first =>
  by_cases hd : 40 < deep
  ·have HD := lH hd
   exact Cz
  have hd' : ¬ 40 < deep := hd
  have HD : Hid (deep ≤ 40) := (by omega : deep ≤ 40)
  go_wp2_with (first | (go_at_call 226; refine (Hf _ _ _ _ _ _ _ _ htx).mono ?_; rintro e w2 ⟨b, rfl, hb2⟩) | fail)
  all_goals go_meet
  all_goals first | exact ⟨_, rfl, bR _ _, lH (fun _ => HD.out)⟩ | exact ⟨_, rfl, hb2, lH (fun _ => HD.out)⟩
 obtain ⟨b, rfl, hbx, HD⟩ := hcut
 have bx := b1.later hbx
 have hbX := hb1.trans (hbx.mono hb1.size)
 clear c1 b1 hbx
 have cx := bx.cell
 cases b with
 | true =>
   go_wp2_with fail
   go_ret
   exact ⟨false, rfl, hbX⟩
 | false =>
   have hd4 := HD.out rfl
   go_upto_if 51 with fail
   go_cut [7] (fun v wx => wx = wc)
   case first =>
    go_wp2_with fail
    all_goals first | (go_meet; exact rfl) | (go_ret; exact ⟨false, rfl, hbX⟩)
   subst hcut
   clear cx e1 e2 e3
   go_wp2_with fail
   go_loopw [7] (fun k wx => ∃ (j : Nat), j ≤ c.kids.length ∧ k = .int i64 j ∧ Blk wx w.heap.size 179 (ay c.kind c.text c.number c.line A c.kids.length n) ∧ Below w.heap.size w wx) (fun k _ => c.kids.length - (intOf k).toNat)
   case atStart => exact ⟨0, nZ _, rfl, bx, hbX⟩
   clear bx hbX
   obtain ⟨j, hj, rfl, bx, hbx⟩ := hrel
   have cx := bx.cell
   by_cases hlt : j < c.kids.length
   ·obtain ⟨y, hy⟩ : ∃ y, c.kids[j]? = some y := ⟨_, gE hlt⟩
    obtain ⟨g, off, B, d, rfl, -, hg2, hm, hkr, -, -, t0, t1, t2, t3, t4⟩ := aH.at_ (HR.out.below hbx hhi) hy
    have HC := lH (HIH.out y hm B d wr lo hi (deep + 1) hkr (nT hhi hbx.size) (HOK.out.kids y hm) ah ah)
    clear hy hm hkr
    go_wp2_with fail
    refine HC.out.mono ?_
    rintro e w2 ⟨b, rfl, hb2⟩
    have bx2 := bx.later hb2
    have Qh := hbx.trans (hb2.mono hbx.size)
    clear hb2 cx HC t0 t1 t2 t3 t4
    cases b with
    | true =>
      go_wp2_with fail
      go_roundw
      case rel => exact ⟨j + 1, hlt, by go_num, bx2, Qh⟩
      simp [intOf]; omega
    | false =>
      go_wp2_with fail
      go_ret
      exact ⟨false, rfl, Qh⟩
   obtain rfl : j = c.kids.length := by omega
   go_wp2_with fail
   go_ret
   exact ⟨true, rfl, hbx⟩
def VR (c : aH) (w : World) (e : Ending) (w' : World) : Prop := ∃ b : Bool, e = .returned (.bool b) ∧ Below w.heap.size w w' ∧ (b = true → c.nodes ≤ 600)
theorem Ah (c : aH) (A : Option Addr) (n : Nat) (w : World) (lo hi : Nat) (h : aW w lo hi 5 aH.aG (.slice A c.kids.length n) c.kids) (hhi : hi ≤ w.heap.size) (hok : c.Ok) :
 Calls Tryz.prog 162 #[.agg (ay c.kind c.text c.number c.line A c.kids.length n)] w (VR c w) := by
 have HR := lH h
 have HOK := lH hok
 obtain ⟨b0, hb0⟩ := dQ w 179 (ay c.kind c.text c.number c.line A c.kids.length n)
 clear h hok
 go_in
 go_wp2_with fail
 refine (Lh c A n _ lo hi 600 (HR.out.below hb0 hhi) (nT hhi hb0.size) aA aA).mono ?_
 rintro e w1 ⟨⟨r, rfl, hr1, hr2, hr3⟩, hb⟩
 have hb1 := hb0.trans (hb.mono hb0.size)
 have b1 := b0.later hb
 have HR3 := lH hr3
 clear hr3 hb0 hb b0
 have cx := b1.cell
 by_cases hr : 0 ≤ r
 ·go_wp2_with fail
  refine (Hg c A n _ lo hi 1 (HR.out.below hb1 hhi) (nT hhi hb1.size) HOK.out aA aA).mono ?_
  rintro e w2 ⟨b, rfl, hb2⟩
  go_wp2_with fail
  go_ret
  exact ⟨_, rfl, hb1.trans (hb2.mono hb1.size), fun _ => by have := HR3.out hr; omega⟩
 go_wp2_with fail
 go_ret
 exact ⟨false, rfl, hb1, fun h => by cases h⟩
end
end Go.Proofs.YthbcamfejgghhaaGreatDoor
