/- A program in the making: its rows apart from each other. Plain lemmas, no program. WT of the program. Rw of elements without rows of their own. Plain l -/
import Derived.Test.YthbcamfejgghhaaGreatDoorQ17
import Derived.Test.YthbcamfejgghhaaGreatDoorQ24
import Derived.Test.YthbcamfejgghhaaGreatDoorQ26
set_option maxRecDepth 100000
set_option maxHeartbeats 8000000
set_option linter.unusedVariables false
set_option linter.unusedSimpArgs false
namespace Go.Proofs.YthbcamfejgghhaaGreatDoor
open Go.IntKind (i64)
section
open Go Go.RowKit
def bO.cells (r : bO) (v : Value) (A : Option Addr) (n : Nat) : List Value := .string r.name :: .int i64 r.params :: v :: r.body.cells A n
def lJ (w : World) : List bO → List Value → List Nat → List Nat → Prop
 | [], vs, S, K => vs = [] ∧ S = [] ∧ K = []
 | r :: l, vs, S, K => ∃ (v : Value) (A : Option Addr) (n : Nat) (e : TypeId) (Kr : List Nat) (vs' : List Value) (S' K' : List Nat),
  vs = r.cells v A n ++ vs' ∧ S = v.ownBlock.toList ++ S' ∧ K = Kr ++ K' ∧ w.ownsRow 0 e 1 v r.slots.length (r.slots.map .string) ∧ aO w r.body.aG Kr (r.body.cells A n) ∧ lJ w l vs' S' K'
section
variable {w w' w1 w2 : World}
theorem lJ.kept : ∀ {l : List bO} {vs : List Value} {S K : List Nat}, lJ w l vs S K → (∀ g, g ∈ S ∨ g ∈ K → w'.heap[g]? = w.heap[g]?) → lJ w' l vs S K
 | [], _, _, _, h, _ => h
 | r :: l, vs, S, K, h, hk => by
   obtain ⟨v, A, n, e, Kr, vs', S', K', rfl, rfl, rfl, h1, h2, h3⟩ := h
   exact ⟨v, A, n, e, Kr, vs', S', K', rfl, rfl, rfl, dR h1 fun g hg => hk g (.inl mZ), h2.kept fun g hg => hk g (.inr mZ), lJ.kept h3 fun g hg => hk g (by rcases hg with hg | hg; exact .inl mZ; exact .inr mZ)⟩
theorem lJ.lt : ∀ {l : List bO} {vs : List Value} {S K : List Nat}, lJ w l vs S K → ∀ g, g ∈ S ∨ g ∈ K → g < w.heap.size
 | [], _, _, _, h, g, hg => by obtain ⟨-, rfl, rfl⟩ := h; simp at hg
 | r :: l, vs, S, K, h, g, hg => by
   obtain ⟨v, A, n, e, Kr, vs', S', K', rfl, rfl, rfl, h1, h2, h3⟩ := h
   rcases hg with hg | hg
   ·rcases mA hg with hg | hg
    ·exact (h1.lt g jK).2
    exact lJ.lt h3 g (.inl hg)
   rcases mA hg with hg | hg
   ·exact h2.lt g hg
   exact lJ.lt h3 g (.inr hg)
theorem lJ.len : ∀ {l : List bO} {vs : List Value} {S K : List Nat}, lJ w l vs S K → vs.length = l.length * 9
 | [], _, _, _, h => by obtain ⟨rfl, -, -⟩ := h; rfl
 | r :: l, vs, S, K, h => by
   obtain ⟨v, A, n, e, Kr, vs', S', K', rfl, rfl, rfl, h1, h2, h3⟩ := h
   have := lJ.len h3
   simp [bO.cells, ak.cells, this]; omega
theorem lJ.app : ∀ {l l' : List bO} {vs vs' : List Value} {S K S' K' : List Nat}, lJ w l vs S K → lJ w l' vs' S' K' → lJ w (l ++ l') (vs ++ vs') (S ++ S') (K ++ K')
 | [], l', vs, vs', S, K, S', K', h, h' => by obtain ⟨rfl, rfl, rfl⟩ := h; exact h'
 | r :: l, l', vs, vs', S, K, S', K', h, h' => by
   obtain ⟨v, A, n, e, Kr, us, S1, K1, rfl, rfl, rfl, h1, h2, h3⟩ := h
   exact ⟨v, A, n, e, Kr, us ++ vs', S1 ++ S', K1 ++ K', av, av, av, h1, h2, lJ.app h3 h'⟩
theorem lJ.one {r : bO} {v : Value} {A : Option Addr} {n : Nat} {e : TypeId} {Kr : List Nat} (h1 : w.ownsRow 0 e 1 v r.slots.length (r.slots.map .string)) (h2 : aO w r.body.aG Kr (r.body.cells A n)) : lJ w [r] (r.cells v A n) v.ownBlock.toList Kr :=
 ⟨v, A, n, e, Kr, [], [], [], av, av, av, h1, h2, rfl, rfl, rfl⟩
theorem lJ.split : ∀ {l : List bO} {vs : List Value} {S K : List Nat} {k : Nat} {r : bO}, lJ w l vs S K → l[k]? = some r →
 ∃ (va vb : List Value) (Sa Sb Ka Kb Kr : List Nat) (v : Value) (A : Option Addr) (n : Nat) (e : TypeId), vs = va ++ (r.cells v A n ++ vb) ∧ S = Sa ++ (v.ownBlock.toList ++ Sb) ∧ K = Ka ++ (Kr ++ Kb) ∧ va.length = k * 9 ∧
  lJ w (l.take k) va Sa Ka ∧ w.ownsRow 0 e 1 v r.slots.length (r.slots.map .string) ∧ aO w r.body.aG Kr (r.body.cells A n) ∧ lJ w (l.drop (k + 1)) vb Sb Kb
 | [], _, _, _, k, _, _, hx => by simp at hx
 | x :: l, vs, S, K, 0, r, h, hx => by
   obtain ⟨v, A, n, e, Kr, us, S1, K1, rfl, rfl, rfl, h1, h2, h3⟩ := h
   obtain rfl : x = r := by simpa using hx
   exact ⟨[], us, [], S1, [], K1, Kr, v, A, n, e, rfl, rfl, rfl, rfl, ⟨rfl, rfl, rfl⟩, h1, h2, h3⟩
 | x :: l, vs, S, K, k + 1, r, h, hx => by
   obtain ⟨v, A, n, e, Kr, us, S1, K1, rfl, rfl, rfl, h1, h2, h3⟩ := h
   obtain ⟨va, vb, Sa, Sb, Ka, Kb, Kq, v', A', n', e', rfl, rfl, rfl, g1, g2, g3, g4, g5⟩ := lJ.split h3 (k := k) (r := r) (by simpa using hx)
   exact ⟨x.cells v A n ++ va, vb, v.ownBlock.toList ++ Sa, Sb, Kr ++ Ka, Kb, Kq, v', A', n', e', av, av, av, by simp [bO.cells, ak.cells, g1]; omega, ⟨v, A, n, e, Kr, va, Sa, Ka, rfl, rfl, rfl, h1, h2, g2⟩, g3, g4, g5⟩
theorem Sd (r : bO) : r.aG = .str r.name :: .int i64 r.params :: .row 1 r.slots.length (flat aR r.slots) :: r.body.aG := by rw [ak.mX]; rfl
theorem oF : ∀ (l : List ByteArray), aO w (flat aR l) [] (l.map .string)
 | [] => .eO
 | s :: l => by rw [cK, List.map_cons]; exact aO.aN (F1 := []) .mkStr (oF l)
theorem lJ.own : ∀ {l : List bO} {vs : List Value} {S K : List Nat}, lJ w l vs S K → ∃ F, aO w (flat bO.aG l) F vs ∧ ∀ g ∈ F, g ∈ S ∨ g ∈ K
 | [], _, _, _, h => by obtain ⟨rfl, rfl, rfl⟩ := h; exact ⟨[], by rw [fC]; exact .eO, av⟩
 | r :: l, vs, S, K, h => by
   obtain ⟨v, A, n, e, Kr, us, S1, K1, rfl, rfl, rfl, h1, h2, h3⟩ := h
   obtain ⟨F, g1, g2⟩ := lJ.own h3
   have h4 : aO w r.aG ([] ++ ([] ++ ((v.ownBlock.toList ++ []) ++ Kr))) (r.cells v A n) := by
    rw [Sd]
    exact .aN .mkStr (.aN .mkInt (.aN (dK.iV h1 (oF _)) h2))
   refine ⟨_ ++ F, by rw [cK]; exact h4.app g1, fun g hg => ?_⟩
   simp only [List.nil_append, List.append_nil, List.mem_append] at hg ⊢
   rcases hg with (hg | hg) | hg
   ·exact .inl (.inl hg)
   ·exact .inr (.inl hg)
   rcases g2 g hg with hg | hg
   ·exact .inl (.inr hg)
   exact .inr (.inr hg)
end
theorem uW {g b : Nat} (hb : b ≠ g) : ∀ (us : List Value) (w : World) (p : Nat), (ku w g p us).heap[b]? = w.heap[b]?
 | [], _, _ => rfl
 | u :: us, w, p => (uW hb us _ (p + 1)).trans (Below.heap_setCell w ⟨g, p, none⟩ u b hb)
theorem D7 : ∀ (us va xs vb : List Value) (q p : Nat), va.length = q → p + us.length ≤ xs.length → sS (va ++ (xs ++ vb)) (q + p) us = va ++ (sS xs p us ++ vb)
 | [], _, _, _, _, _, _, _ => rfl
 | u :: us, va, xs, vb, q, p, hq, hp => by
   simp only [List.length_cons] at hp
   rw [sS, sS, List.set_append_right _ _ ah, show q + p - va.length = p by omega, List.set_append_left _ _ ah, Nat.add_assoc, D7 us va (xs.set p u) vb q (p + 1) hq (by rw [List.length_set]; omega)]
def gK (b B hi : Nat) (e0 e1 e2 : TypeId) (w : World) (c : bg) (v0 v1 v2 : Value) : Prop :=
 ∃ (S K G : List Nat) (vs0 vs1 : List Value), w.ownsRow B e0 9 v0 c.au.length vs0 ∧ lJ w c.au vs0 S K ∧ sj G B e1 3 ep.aG w c.records v1 vs1 ∧ w.ownsRow B e2 1 v2 c.globals.length (c.globals.map .string) ∧
  S.Nodup ∧ (∀ g, g ∈ S ∨ g ∈ K ∨ g ∈ G ∨ v0.ownBlock = some g ∨ v2.ownBlock = some g → B ≤ g ∧ g < hi ∧ g ≠ b) ∧ (∀ g ∈ S, g ∉ K ∧ g ∉ G) ∧ (∀ g ∈ G, g ∉ K) ∧
  (∀ g, v0.ownBlock = some g → g ∉ S ∧ g ∉ K ∧ g ∉ G ∧ v2.ownBlock ≠ some g) ∧ ∀ g, v2.ownBlock = some g → g ∉ S ∧ g ∉ K ∧ g ∉ G
section
variable {b B hi : Nat} {e0 e1 e2 : TypeId} {w w' w1 w2 : World} {c : bg} {v0 v1 v2 v' : Value} {us : List Value}
theorem gK.kept (h : gK b B hi e0 e1 e2 w c v0 v1 v2) (hk : ∀ g, B ≤ g → g < hi → g ≠ b → w'.heap[g]? = w.heap[g]?) : gK b B hi e0 e1 e2 w' c v0 v1 v2 := by
 obtain ⟨S, K, G, vs0, vs1, h1, h2, h3, h4, h5, h6, h7⟩ := h
 have L := fun g hg => hk g (h6 g hg).1 (h6 g hg).2.1 (h6 g hg).2.2
 exact ⟨S, K, G, vs0, vs1, dR h1 fun g hg => L g (.inr (.inr (.inr (.inl hg)))), h2.kept fun g hg => L g (by rcases hg with hg | hg; exact .inl hg; exact .inr (.inl hg)), h3.kept fun g hg _ => L g (.inr (.inr (.inl hg))), dR h4 fun g hg => L g (.inr (.inr (.inr (.inr hg)))), h5, h6, h7⟩
theorem gK.wide {hi' : Nat} (h : gK b B hi e0 e1 e2 w c v0 v1 v2) (hh : hi ≤ hi') : gK b B hi' e0 e1 e2 w c v0 v1 v2 := by
 obtain ⟨S, K, G, vs0, vs1, h1, h2, h3, h4, h5, h6, h7⟩ := h
 exact ⟨S, K, G, vs0, vs1, h1, h2, h3, h4, h5, fun g hg => ⟨(h6 g hg).1, nL (h6 g hg).2.1 hh, (h6 g hg).2.2⟩, h7⟩
theorem gK.Se (h : gK b B hi e0 e1 e2 w c v0 v1 v2) (n : Int) : gK b B hi e0 e1 e2 w { c with main := n } v0 v1 v2 := h
theorem gK.start (b B hi : Nat) (e0 e1 e2 : TypeId) {gs : List ByteArray} (h : w.ownsRow B e2 1 v2 gs.length (gs.map .string)) (hh : w.heap.size ≤ hi) (hb : w.heap.size ≤ b) : gK b B hi e0 e1 e2 w ⟨[], [], gs, 0⟩ (.slice none 0 0) (.slice none 0 0) v2 :=
 ⟨[], [], [], [], [], World.ownsRow_nil w B e0 9, ⟨rfl, rfl, rfl⟩, sj.none_, h, List.nodup_nil, (fun g hg => by rcases hg with hg | hg | hg | hg | hg; simp at hg; simp at hg; simp at hg; (cases hg); exact ⟨(h.lt g hg).1, nL (h.lt g hg).2 hh, fun q => by have := (h.lt g hg).2; omega⟩), av, av, (fun g hg => by cases hg), av⟩
theorem gK.jQ (h : gK b B hi e0 e1 e2 w c v0 v1 v2) : ∃ vs, w.ownsRow B e0 9 v0 c.au.length vs := by obtain ⟨_, _, _, vs, _, h, _⟩ := h; exact ⟨vs, h⟩
theorem gK.zl (h : gK b B hi e0 e1 e2 w c v0 v1 v2) : ∃ vs, w.ownsRow B e1 3 v1 c.records.length vs := by obtain ⟨_, _, _, _, vs, _, _, h, _⟩ := h; exact ⟨vs, h.own⟩
theorem gK.jD (h : gK b B hi e0 e1 e2 w c v0 v1 v2) : w.ownsRow B e2 1 v2 c.globals.length (c.globals.map .string) := by obtain ⟨_, _, _, _, _, _, _, _, h, _⟩ := h; exact h
theorem gK.away (h : gK b B hi e0 e1 e2 w c v0 v1 v2) : ∀ g, v0.ownBlock = some g ∨ v1.ownBlock = some g ∨ v2.ownBlock = some g → B ≤ g ∧ g < hi ∧ g ≠ b := by
 obtain ⟨S, K, G, vs0, vs1, h1, h2, h3, h4, h5, h6, h7⟩ := h
 rintro g (hg | hg | hg)
 ·exact h6 g (.inr (.inr (.inr (.inl hg))))
 ·exact h6 g (.inr (.inr (.inl (h3.blk g hg))))
 exact h6 g (.inr (.inr (.inr (.inr hg))))
theorem zu {L : Nat} {F0 F1 F2 : List Nat} (h0 : dK w (.row 9 c.au.length (flat bO.aG c.au)) F0 v0) (h1 : dK w (.row 3 c.records.length (flat ep.aG c.records)) F1 v1) (h2 : dK w (.row 1 c.globals.length (flat aR c.globals)) F2 v2) (hL : ∀ g, g ∈ F0 ∨ g ∈ F1 ∨ g ∈ F2 → L ≤ g) :
 dZ w L w.heap.size bg.aG (.agg #[v0, v1, v2, c.main]) c := by
 have H : aO w c.aG (F0 ++ (F1 ++ (F2 ++ ([] ++ [])))) [v0, v1, v2, .int i64 c.main] := .aN h0 (.aN h1 (.aN h2 (.aN .mkInt .eO)))
 exact ⟨_, rfl, H.rep fun g hg => ⟨hL g jK, H.lt g hg⟩⟩
theorem row_in {v : Value} {F : List Nat} {g : Nat} (h : g ∈ v.ownBlock.toList ++ F) : v.ownBlock = some g ∨ g ∈ F := by
 rcases mA h with h | h
 ·exact .inl (by simpa using h)
 exact .inr h
theorem gK.rep (h : gK b B hi e0 e1 e2 w c v0 v1 v2) : dZ w B w.heap.size bg.aG (.agg #[v0, v1, v2, c.main]) c := by
 obtain ⟨S, K, G, vs0, vs1, h1, h2, ⟨F, h3, h3', -, hFG, hvG⟩, h4, -, h6, -⟩ := h
 obtain ⟨F0, g1, gm⟩ := h2.own
 refine zu (dK.iV h1 g1) (dK.iV h3 h3') (dK.iV h4 (oF _)) fun g hg => ?_
 rcases hg with hg | hg | hg <;> rcases row_in hg with hg | hg
 ·exact (h6 g (.inr (.inr (.inr (.inl hg))))).1
 ·exact JI
 ·exact (h6 g (.inr (.inr (.inl (hvG g hg).1)))).1
 ·exact (h6 g (.inr (.inr (.inl (hFG g hg))))).1
 ·exact (h6 g (.inr (.inr (.inr (.inr hg))))).1
 simp at hg
theorem FU {W : World} {e : TypeId} {v : Value} {n k : Nat} {va us vb : List Value} {K : Nat} (h : W.ownsRow B e K v n (va ++ (us ++ vb))) (hva : va.length = k * K) (hus : us.length = K) (hk : k < n) (hK : 0 < K) :
 ∃ g cap, v = .slice (some (aj g 0)) n cap ∧ B ≤ g ∧ g < W.heap.size ∧ ∀ i u, us[i]? = some u → W.cell? (aj g (k * K + i)) = some u := by
 obtain ⟨g, cap, rfl, -⟩ := h.form ah
 refine ⟨g, cap, rfl, (h.lt g rfl).1, (h.lt g rfl).2, fun i u hi => pY h hva ?_ hi⟩
 have h1 := (List.getElem?_eq_some_iff.1 hi).1
 have h2 : (k + 1) * K ≤ n * K := Nat.mul_le_mul_right K hk
 rw [Nat.succ_mul] at h2
 omega
theorem gK.RQ {vs1 : List Value} {r : ep} (h : gK b B hi e0 e1 e2 w c v0 v1 v2) (hh : hi ≤ w.heap.size) (hB : B ≤ w.heap.size) (hk : ∀ g, B ≤ g → g < hi → g ≠ b → w1.heap[g]? = w.heap[g]?) (hbw : b < w.heap.size) (hs : w.heap.size ≤ w1.heap.size) (hm : eu w1 w.heap.size w1.heap.size r.aG us)
 (how : w.ownsRow B e1 3 v1 c.records.length vs1) (ho : w2.ownsRow B e1 3 v' (c.records.length + 1) (vs1 ++ us)) (hgr : w1.grownBy w2 v1.ownBlock) (hat : v'.ownBlock = v1.ownBlock ∨ ∃ k, v'.ownBlock = some k ∧ w1.heap.size ≤ k) :
 gK b B w2.heap.size e0 e1 e2 w2 { c with records := c.records ++ [r] } v0 v' v2 := by
 obtain ⟨S, K, G, vs0, ws1, h1, h2, h3, h4, h5, h6, h7, h8, h9, h10⟩ := h
 obtain rfl : ws1 = vs1 := qD h3.own how
 have hsz := hgr.size
 obtain ⟨N, n1, n2⟩ := h3.push (l' := [r]) (fun g hg => nL (h6 g (.inr (.inr (.inl hg)))).2.1 hh) (fun g hg => hk g (h6 g (.inr (.inr (.inl hg)))).1 (h6 g (.inr (.inr (.inl hg)))).2.1 (h6 g (.inr (.inr (.inl hg)))).2.2) hs Gt ho hgr hat
 have L : ∀ g, B ≤ g → g < hi → g ≠ b → g ∉ G → w2.heap[g]? = w.heap[g]? := fun g a b hb hn => (hgr.block g ah (fun q => hn (h3.blk g q.symm))).trans (hk g a b hb)
 have X := fun g hg => h6 g hg
 refine ⟨S, K, G ++ N, vs0, ws1 ++ us, dR h1 fun g hg => L g (X g (.inr (.inr (.inr (.inl hg))))).1 (X g (.inr (.inr (.inr (.inl hg))))).2.1 (X g (.inr (.inr (.inr (.inl hg))))).2.2 (h9 g hg).2.2.1, h2.kept fun g hg => ?_, n1, dR h4 fun g hg => L g (X g (.inr (.inr (.inr (.inr hg))))).1 (X g (.inr (.inr (.inr (.inr hg))))).2.1 (X g (.inr (.inr (.inr (.inr hg))))).2.2 (h10 g hg).2.2, h5, fun g hg => ?_, fun g hg => ⟨(h7 g hg).1, fun hm => ?_⟩, fun g hg hm => ?_, fun g hg => ⟨(h9 g hg).1, (h9 g hg).2.1, fun hm => ?_, (h9 g hg).2.2.2⟩, fun g hg => ⟨(h10 g hg).1, (h10 g hg).2.1, fun hm => ?_⟩⟩
 ·rcases hg with hg | hg
  ·exact L g (X g (.inl hg)).1 (X g (.inl hg)).2.1 (X g (.inl hg)).2.2 (h7 g hg).2
  exact L g (X g (.inr (.inl hg))).1 (X g (.inr (.inl hg))).2.1 (X g (.inr (.inl hg))).2.2 (fun q => h8 g q hg)
 ·have T : (g ∈ N ∨ g ∈ S ∨ g ∈ K ∨ g ∈ G ∨ v0.ownBlock = some g ∨ v2.ownBlock = some g) := by
   rcases hg with hg | hg | hg | hg
   ·exact .inr (.inl hg)
   ·exact .inr (.inr (.inl hg))
   ·rcases mA hg with hg | hg
    ·exact .inr (.inr (.inr (.inl hg)))
    exact .inl hg
   exact .inr (.inr (.inr (.inr hg)))
  rcases T with hg | hg
  ·have := n2 g hg; omega
  have := X g hg; omega
 ·rcases mA hm with hm | hm
  ·exact (h7 g hg).2 hm
  have := n2 g hm; have := (X g (.inl hg)).2.1; omega
 ·rcases mA hg with hg | hg
  ·exact h8 g hg hm
  have := n2 g hg; have := (X g (.inr (.inl hm))).2.1; omega
 ·rcases mA hm with hm | hm
  ·exact (h9 g hg).2.2.1 hm
  have := n2 g hm; have := (X g (.inr (.inr (.inr (.inl hg))))).2.1; omega
 rcases mA hm with hm | hm
 ·exact (h10 g hg).2.2 hm
 have := n2 g hm; have := (X g (.inr (.inr (.inr (.inr hg))))).2.1; omega
theorem gK.U2 {vs0 : List Value} {r : bO} {v : Value} {A : Option Addr} {n : Nat} {e : TypeId} {Kr : List Nat} (h : gK b B hi e0 e1 e2 w c v0 v1 v2) (hh : hi ≤ w.heap.size) (hB : B ≤ w.heap.size) (hk : ∀ g, B ≤ g → g < hi → g ≠ b → w1.heap[g]? = w.heap[g]?) (hbw : b < w.heap.size) (hs : w.heap.size ≤ w1.heap.size)
 (hsl : w1.ownsRow 0 e 1 v r.slots.length (r.slots.map .string)) (hbo : aO w1 r.body.aG Kr (r.body.cells A n)) (hsb : ∀ g, v.ownBlock = some g → w.heap.size ≤ g ∧ g ∉ Kr) (hkb : ∀ g ∈ Kr, w.heap.size ≤ g)
 (how : w.ownsRow B e0 9 v0 c.au.length vs0) (ho : w2.ownsRow B e0 9 v' (c.au.length + 1) (vs0 ++ r.cells v A n)) (hgr : w1.grownBy w2 v0.ownBlock) (hat : v'.ownBlock = v0.ownBlock ∨ ∃ k, v'.ownBlock = some k ∧ w1.heap.size ≤ k) :
 gK b B w2.heap.size e0 e1 e2 w2 { c with au := c.au ++ [r] } v' v1 v2 := by
 obtain ⟨S, K, G, ws0, vs1, h1, h2, h3, h4, h5, h6, h7, h8, h9, h10⟩ := h
 obtain rfl : ws0 = vs0 := qD h1 how
 have hsz := hgr.size
 have X := fun g hg => h6 g hg
 have L : ∀ g, B ≤ g → g < hi → g ≠ b → v0.ownBlock ≠ some g → w2.heap[g]? = w.heap[g]? := fun g a b hb hn => (hgr.block g ah (fun q => hn q.symm)).trans (hk g a b hb)
 have L1 : ∀ g, g < w1.heap.size → w.heap.size ≤ g → w2.heap[g]? = w1.heap[g]? := fun g a b => hgr.block g a (fun q => by have := (X g (.inr (.inr (.inr (.inl q.symm))))).2.1; omega)
 have hsl2 := dR hsl fun g hg => L1 g (hsl.lt g hg).2 (hsb g hg).1
 have aeh := hbo.kept fun g hg => L1 g (hbo.lt g hg) (hkb g hg)
 have h2' : lJ w2 c.au ws0 S K := h2.kept fun g hg => by
  rcases hg with hg | hg
  ·exact L g (X g (.inl hg)).1 (X g (.inl hg)).2.1 (X g (.inl hg)).2.2 (fun q => (h9 g q).1 hg)
  exact L g (X g (.inr (.inl hg))).1 (X g (.inr (.inl hg))).2.1 (X g (.inr (.inl hg))).2.2 (fun q => (h9 g q).2.1 hg)
 have hv' : ∀ g, v'.ownBlock = some g → v0.ownBlock = some g ∨ w1.heap.size ≤ g := fun g hg => by
  rcases hat with q | ⟨k, q, hk⟩
  ·exact .inl (q ▸ hg)
  rw [q] at hg; injection hg with hg; subst hg; exact .inr hk
 have hvb : ∀ g ∈ v.ownBlock.toList, w.heap.size ≤ g ∧ g < w1.heap.size ∧ g ∉ Kr := fun g hg => by
  have hg : v.ownBlock = some g := by simpa using hg
  exact ⟨(hsb g hg).1, (hsl.lt g hg).2, (hsb g hg).2⟩
 have hkk : ∀ g ∈ Kr, w.heap.size ≤ g ∧ g < w1.heap.size := fun g hg => ⟨hkb g hg, hbo.lt g hg⟩
 have old : ∀ g, g ∈ S ∨ g ∈ K ∨ g ∈ G ∨ v0.ownBlock = some g ∨ v2.ownBlock = some g → g < w.heap.size := fun g hg => nL (X g hg).2.1 hh
 refine ⟨S ++ v.ownBlock.toList, K ++ Kr, G, ws0 ++ r.cells v A n, vs1, by rw [List.length_append]; exact ho, h2'.app (lJ.one hsl2 aeh), h3.kept fun g hg _ => L g (X g (.inr (.inr (.inl hg)))).1 (X g (.inr (.inr (.inl hg)))).2.1 (X g (.inr (.inr (.inl hg)))).2.2 (fun q => (h9 g q).2.2.1 hg), dR h4 fun g hg => L g (X g (.inr (.inr (.inr (.inr hg))))).1 (X g (.inr (.inr (.inr (.inr hg))))).2.1 (X g (.inr (.inr (.inr (.inr hg))))).2.2 (fun q => (h9 g q).2.2.2 hg), List.nodup_append.2 ⟨h5, by cases v.ownBlock <;> simp, fun a ha b hb q => ?_⟩, fun g hg => ?_, fun g hg => ⟨fun hm => ?_, fun hm => ?_⟩, fun g hg hm => ?_, fun g hg => ⟨fun hm => ?_, fun hm => ?_, fun hm => ?_, fun q => ?_⟩, fun g hg => ⟨fun hm => ?_, fun hm => ?_, (h10 g hg).2.2⟩⟩
 ·subst q; have := old a (.inl ha); have := hvb a hb; omega
 ·have T : (w.heap.size ≤ g ∧ g < w1.heap.size) ∨ v'.ownBlock = some g ∨ g ∈ S ∨ g ∈ K ∨ g ∈ G ∨ v0.ownBlock = some g ∨ v2.ownBlock = some g := by
   rcases hg with hg | hg | hg | hg | hg
   ·rcases mA hg with hg | hg
    ·exact .inr (.inr (.inl hg))
    have := hvb g hg; exact .inl ⟨this.1, this.2.1⟩
   ·rcases mA hg with hg | hg
    ·exact .inr (.inr (.inr (.inl hg)))
    exact .inl (hkk g hg)
   ·exact .inr (.inr (.inr (.inr (.inl hg))))
   ·exact .inr (.inl hg)
   exact .inr (.inr (.inr (.inr (.inr (.inr hg)))))
  rcases T with hg | hg | hg
  ·omega
  ·refine ⟨(ho.lt g hg).1, (ho.lt g hg).2, ?_⟩
   rcases hv' g hg with q | q
   ·exact (X g (.inr (.inr (.inr (.inl q))))).2.2
   omega
  have := X g hg; omega
 ·rcases mA hg with hg | hg <;> rcases mA hm with hm | hm
  ·exact (h7 g hg).1 hm
  ·have := old g (.inl hg); have := hkk g hm; omega
  ·have := old g (.inr (.inl hm)); have := hvb g hg; omega
  exact (hvb g hg).2.2 hm
 ·rcases mA hg with hg | hg
  ·exact (h7 g hg).2 hm
  have := old g (.inr (.inr (.inl hm))); have := hvb g hg; omega
 ·rcases mA hm with hm | hm
  ·exact h8 g hg hm
  have := old g (.inr (.inr (.inl hg))); have := hkk g hm; omega
 ·rcases mA hm with hm | hm <;> rcases hv' g hg with q | q
  ·exact (h9 g q).1 hm
  ·have := old g (.inl hm); omega
  ·have := old g (.inr (.inr (.inr (.inl q)))); have := hvb g hm; omega
  have := hvb g hm; omega
 ·rcases mA hm with hm | hm <;> rcases hv' g hg with q | q
  ·exact (h9 g q).2.1 hm
  ·have := old g (.inr (.inl hm)); omega
  ·have := old g (.inr (.inr (.inr (.inl q)))); have := hkk g hm; omega
  have := hkk g hm; omega
 ·rcases hv' g hg with q | q
  ·exact (h9 g q).2.2.1 hm
  have := old g (.inr (.inr (.inl hm))); omega
 ·rcases hv' g hg with q' | q'
  ·exact (h9 g q').2.2.2 q
  have := old g (.inr (.inr (.inr (.inr q)))); omega
 ·rcases mA hm with hm | hm
  ·exact (h10 g hg).1 hm
  have := old g (.inr (.inr (.inr (.inr hg)))); have := hvb g hm; omega
 rcases mA hm with hm | hm
 ·exact (h10 g hg).2.1 hm
 have := old g (.inr (.inr (.inr (.inr hg)))); have := hkk g hm; omega
theorem gK.turn {k : Nat} {r : bO} (h : gK b B hi e0 e1 e2 w c v0 v1 v2) (hx : c.au[k]? = some r) :
 ∃ (g cap : Nat) (v : Value) (A : Option Addr) (n : Nat) (e : TypeId) (Kr : List Nat), v0 = .slice (some (aj g 0)) c.au.length cap ∧ B ≤ g ∧ g < w.heap.size ∧ (∀ i u, (r.cells v A n)[i]? = some u → w.cell? (aj g (k * 9 + i)) = some u) ∧
  w.ownsRow 0 e 1 v r.slots.length (r.slots.map .string) ∧ aO w r.body.aG Kr (r.body.cells A n) ∧ (∀ b ∈ Kr, b ≠ g ∧ B ≤ b ∧ b < hi) ∧ (∀ b, v.ownBlock = some b → b ≠ g ∧ b ∉ Kr ∧ B ≤ b ∧ b < hi) ∧
  (∀ (L : Nat) (w' : World) (p : Nat) (us : List Value) (v' : Value) (A' : Option Addr) (n' : Nat) (e' : TypeId) (Kr' : List Nat) (r' : bO), L ≤ B → (∀ q ∈ Kr', L ≤ q) → (∀ q, v'.ownBlock = some q → L ≤ q) → w' = ku w g (k * 9 + p) us → hi ≤ w.heap.size →
   sS (r.cells v A n) p us = r'.cells v' A' n' → p + us.length ≤ 9 → w'.ownsRow 0 e' 1 v' r'.slots.length (r'.slots.map .string) → aO w' r'.body.aG Kr' (r'.body.cells A' n') →
   dZ w' L w'.heap.size bg.aG (.agg #[v0, v1, v2, c.main]) { c with au := c.au.take k ++ r' :: c.au.drop (k + 1) }) := by
 obtain ⟨S, K, G, vs0, vs1, h1, h2, h3, h4, h5, h6, h7, h8, h9, h10⟩ := h
 obtain ⟨va, vb, Sa, Sb, Ka, Kb, Kr, v, A, n, e, rfl, rfl, rfl, g1, g2, g3, g4, g5⟩ := h2.split hx
 have hkl := (List.getElem?_eq_some_iff.1 hx).1
 obtain ⟨g, cap, rfl, hg1, hg2, hcell⟩ := FU h1 g1 aM hkl aA
 have X := fun b hb => h6 b hb
 have h9 := h9 g rfl
 refine ⟨g, cap, v, A, n, e, Kr, rfl, hg1, hg2, hcell, g3, g4, fun b hb => ⟨fun q => h9.2.1 (by subst q; simp [hb]), (X b (.inr (.inl oN))).1, (X b (.inr (.inl oN))).2.1⟩, fun b hb => ⟨fun q => h9.1 (by subst q; simp [hb]), fun hm => (h7 b oN).1 (by simp [hm]), (X b (.inl oN)).1, (X b (.inl oN)).2.1⟩, ?_⟩
 rintro L w' p us v' A' n' e' Kr' r' hLB hLK hLv rfl hh hset hp hsl hbo
 have keep : ∀ b, b ≠ g → (ku w g (k * 9 + p) us).heap[b]? = w.heap[b]? := fun b hb => uW hb us w _
 have h1' := xB us w _ (k * 9 + p) h1
 have hlen : (r.cells v A n).length = 9 := rfl
 rw [D7 us va (r.cells v A n) vb (k * 9) p g1 ah, hset] at h1'
 have hF : ∀ b, b ∈ Sa ∨ b ∈ Ka ∨ b ∈ Sb ∨ b ∈ Kb → b ≠ g := fun b hb q => by
  subst q
  rcases hb with hb | hb | hb | hb
  ·exact h9.1 oN
  ·exact h9.2.1 oN
  ·exact h9.1 oN
  exact h9.2.1 oN
 have ga := g2.kept (w' := ku w g (k * 9 + p) us) fun b hb => keep b (hF b (by rcases hb with hb | hb; exact .inl hb; exact .inr (.inl hb)))
 have gb := g5.kept (w' := ku w g (k * 9 + p) us) fun b hb => keep b (hF b (.inr (.inr hb)))
 obtain ⟨F0, f1, fm⟩ := (ga.app ((lJ.one hsl hbo).app gb)).own
 obtain ⟨F, h3, h3', -, hFG, hvG⟩ := h3.kept (w' := ku w g (k * 9 + p) us) fun b hb _ => keep b (fun q => h9.2.2.1 (q ▸ hb))
 have h4' := dR (w' := ku w g (k * 9 + p) us) h4 fun b hb => keep b (fun q => h9.2.2.2 (q ▸ hb))
 have hL : (c.au.take k ++ r' :: c.au.drop (k + 1)).length = c.au.length := aJ
 refine zu (c := { c with au := c.au.take k ++ r' :: c.au.drop (k + 1) }) (F0 := _) (dK.iV (n := (c.au.take k ++ r' :: c.au.drop (k + 1)).length) (by rw [hL]; exact h1') f1) (dK.iV h3 h3') (dK.iV h4' (oF _)) (L := L) (fun q hq => ?_) |> fun H => ?_
 ·simpa only [hL] using H
 rcases hq with hq | hq | hq <;> rcases row_in hq with hq | hq
 ·exact nT hLB (X q (.inr (.inr (.inr (.inl hq))))).1
 ·rcases fm q hq with hq | hq
  ·simp only [List.mem_append] at hq
   rcases hq with hq | hq | hq
   ·exact nT hLB (X q (.inl sP)).1
   ·exact hLv q (by simpa using hq)
   exact nT hLB (X q (.inl sP)).1
  simp only [List.mem_append] at hq
  rcases hq with hq | hq | hq
  ·exact nT hLB (X q (.inr (.inl sP))).1
  ·exact hLK q hq
  exact nT hLB (X q (.inr (.inl sP))).1
 ·exact nT hLB (X q (.inr (.inr (.inl (hvG q hq).1)))).1
 ·exact nT hLB (X q (.inr (.inr (.inl (hFG q hq))))).1
 ·exact nT hLB (X q (.inr (.inr (.inr (.inr hq))))).1
 simp at hq
end
end
section
open Go.RowKit
theorem uX (s : ByteArray) (w : World) (hs : s.size ≤ 1048576) :
 Calls Tryz.prog 40 #[.string s] w fun e w' => e = .returned (.string (quoted 34 s)) ∧ Below w.heap.size w w' := by
 go_in
 go_wp2_with fail
 refine (Dk s 34 _ hs ah).mono ?_
 rintro e w1 ⟨rfl, hb⟩
 go_wp2_with fail
 go_ret
 exact ⟨rfl, hb⟩
end
section
open Go.RowKit
def Dat.aeT : Dat → Bool
 | .row _ _ _ => false
 | _ => true
theorem eU.one {w : World} {lo hi : Nat} : ∀ {ds : List Dat} {vs : List Value}, eU w lo hi ds vs → ∀ u ∈ vs, u.oneCell' = true
 | [], _, h, u, hu => by rw [h.jc] at hu; cases hu
 | d :: ds, _, h, u, hu => by
   obtain ⟨v, vs', rfl, h1, h2⟩ := h.out
   rcases mC hu with rfl | hu
   ·cases d with
    | int k n => rw [h1.iF]; rfl
    | str s => rw [h1.oq]; rfl
    | bool b => rw [h1.Kz]; rfl
    | row => obtain ⟨A, c, rfl, -⟩ := h1.shape; rfl
   exact eU.one h2 u hu
end
end Go.Proofs.YthbcamfejgghhaaGreatDoor
