/- A program in the making: a routine stored anew, its first slot stored anew. Plain lemmas, no program. A row that takes up some of the elements of another row of -/
import Derived.Test.YthbcamfejgghhaaGreatDoorQ34
set_option maxRecDepth 100000
set_option maxHeartbeats 8000000
set_option linter.unusedVariables false
set_option linter.unusedSimpArgs false
namespace Go.Proofs.YthbcamfejgghhaaGreatDoor
open Go.IntKind (i64)
section
open Go Go.RowKit
theorem Px {w w' : World} {g : Nat} (e : w'.heap[g]? = w.heap[g]?) (i : Nat) : w'.cell? (aj g i) = w.cell? (aj g i) := by simp [World.cell?, e]
theorem gV {w w' : World} {g : Nat} (e : w'.heap[g]? = w.heap[g]?) (i : Nat) : w'.frozen? (aj g i) = w.frozen? (aj g i) := by simp [World.frozen?, e]
section
variable {b B hi : Nat} {e0 e1 e2 : TypeId} {w w' : World} {c : bg} {v0 v1 v2 : Value}
theorem gK.Ya {k : Nat} {r : bO} (h : gK b B hi e0 e1 e2 w c v0 v1 v2) (hh : hi ≤ w.heap.size) (hx : c.au[k]? = some r) :
 ∃ (g cap : Nat) (v : Value) (A : Option Addr) (n : Nat) (e : TypeId) (Kr : List Nat), v0 = .slice (some (aj g 0)) c.au.length cap ∧ g < w.heap.size ∧ (∀ i u, (r.cells v A n)[i]? = some u → w.cell? (aj g (k * 9 + i)) = some u) ∧
  w.ownsRow 0 e 1 v r.slots.length (r.slots.map .string) ∧ aO w r.body.aG Kr (r.body.cells A n) ∧ (∀ q ∈ Kr, q ≠ g ∧ B ≤ q ∧ q < hi) ∧ (∀ q, v.ownBlock = some q → q ≠ g ∧ q < hi) ∧ (∀ i, w.frozen? (aj g (k * 9 + i)) = false) ∧
  (∀ (L : Nat) (wf : World) (p : Nat) (us : List Value) (A' : Option Addr) (n' : Nat) (r' : bO), L ≤ B → (∀ q, B ≤ q → q < hi → wf.heap[q]? = w.heap[q]?) → hi ≤ wf.heap.size →
   sS (r.cells v A n) p us = r'.cells v A' n' → p + us.length ≤ 9 → r'.slots = r.slots → (∃ F, aO wf r'.body.aG F (r'.body.cells A' n') ∧ ∀ q ∈ F, q ≠ g ∧ L ≤ q) →
   dZ (ku wf g (k * 9 + p) us) L (ku wf g (k * 9 + p) us).heap.size bg.aG (.agg #[v0, v1, v2, c.main]) { c with au := c.au.take k ++ r' :: c.au.drop (k + 1) }) := by
 obtain ⟨vs0, ho⟩ := h.jQ
 obtain ⟨g, cap, v, A, n, e, Kr, rfl, hg1, hg2, hcell, hsl, hbo, hK, hV, -⟩ := h.turn hx
 refine ⟨g, cap, v, A, n, e, Kr, rfl, hg2, hcell, hsl, hbo, hK, fun q hq => ⟨(hV q hq).1, (hV q hq).2.2.2⟩, fun i => ho.frozenAt _, ?_⟩
 intro L wf p us A' n' r' hLB hb hsz hset hp hss ⟨F, hF, hFg⟩
 have hf := h.kept (w' := wf) fun q h1 hq _ => hb q h1 hq
 have hgh : g < hi := (h.away g (.inl rfl)).2.1
 have hcq : ∀ i, wf.cell? (aj g i) = w.cell? (aj g i) := fun i => Px (hb g hg1 hgh) i
 obtain ⟨g', cap', v', A2, n2, e', Kr', hv, -, -, hcell', aep, -, -, hV', hturn⟩ := hf.turn hx
 injection hv with hv1 _ hv2
 injection hv1 with hv1
 injection hv1 with hv1
 subst hv1 hv2
 have hc2 : some v = some v' := by
  have a1 := hcell 2 v rfl
  have a2 := hcell' 2 v' rfl
  rw [← a1, ← a2]; exact (hcq _).symm
 injection hc2 with hc2
 subst hc2
 have hc8 : some (Value.slice A r.body.kids.length n) = some (.slice A2 r.body.kids.length n2) := by
  have a1 := hcell 8 _ rfl
  have a2 := hcell' 8 _ rfl
  rw [← a1, ← a2]; exact (hcq _).symm
 injection hc8 with hc8
 injection hc8 with hA _ hn
 subst hA hn
 have keep : ∀ q, q ≠ g → (ku wf g (k * 9 + p) us).heap[q]? = wf.heap[q]? := fun q hq => uW hq us wf _
 exact hturn L _ p us v A' n' e' F r' hLB (fun q hq => (hFg q hq).2) (fun q hq => nT hLB (hV' q hq).2.2.1) rfl hsz hset hp (by rw [hss]; exact dR aep fun q hq => keep q (hV' q hq).1) (hF.kept fun q hq => keep q (hFg q hq).1)
theorem gK.Wm {s : ByteArray} {v' : Value} {vs : List Value} {w2 w3 : World} {P : Nat} (h : gK b B hi e0 e1 e2 w c v0 v1 v2) (hh : hi ≤ w.heap.size) (hs : vs = (c.globals ++ [s]).map .string) (ho : w2.ownsRow B e2 1 v' (c.globals.length + 1) vs) (hgr : w.grownBy w2 v2.ownBlock)
 (hP : hi ≤ P) (hv : v'.ownBlock ≠ some P) (hk : ∀ g, g ≠ P → w3.heap[g]? = w2.heap[g]?) :
 dZ w3 B w3.heap.size bg.aG (.agg #[v0, v1, v', c.main]) { c with globals := c.globals ++ [s] } := by
 obtain ⟨S, K, G, vs0, vs1, h1, h2, h3, h4, h5, h6, h7, h8, h9, h10⟩ := h
 have L : ∀ g, g < hi → v2.ownBlock ≠ some g → w3.heap[g]? = w.heap[g]? := fun g hg hn => (hk g ah).trans (hgr.block g (nL hg hh) (fun q => hn q.symm))
 have h1' := dR h1 fun g hg => L g (h6 g (.inr (.inr (.inr (.inl hg))))).2.1 (h9 g hg).2.2.2
 have h2' : lJ w3 c.au vs0 S K := h2.kept fun g hg => L g (h6 g (by rcases hg with hg | hg; exact .inl hg; exact .inr (.inl hg))).2.1 (fun q => by rcases hg with hg | hg; exact (h10 g q).1 hg; exact (h10 g q).2.1 hg)
 obtain ⟨F, h3, h3', -, hFG, hvG⟩ := h3.kept (w' := w3) fun g hg _ => L g (h6 g (.inr (.inr (.inl hg)))).2.1 (fun q => (h10 g q).2.2 hg)
 obtain ⟨F0, g1, gm⟩ := h2'.own
 have ho3 := dR (w' := w3) ho fun g hg => hk g fun e => hv (e ▸ hg)
 subst hs
 refine zu (c := { c with globals := c.globals ++ [s] }) (dK.iV h1' g1) (dK.iV h3 h3') (dK.iV (n := (c.globals ++ [s]).length) (by simpa using ho3) (oF _)) fun g hg => ?_
 rcases hg with hg | hg | hg <;> rcases row_in hg with hg | hg
 ·exact (h6 g (.inr (.inr (.inr (.inl hg))))).1
 ·exact JI
 ·exact (h6 g (.inr (.inr (.inl (hvG g hg).1)))).1
 ·exact (h6 g (.inr (.inr (.inl (hFG g hg))))).1
 ·exact (ho.lt g hg).1
 simp at hg
theorem gK.Yb {k : Nat} {r : bO} (h : gK b B hi e0 e1 e2 w c v0 v1 v2) (hx : c.au[k]? = some r) (hs : 0 < r.slots.length) :
 ∃ (g cap gs cs : Nat), v0 = .slice (some (aj g 0)) c.au.length cap ∧ w.cell? (aj g (k * 9 + 2)) = some (.slice (some (aj gs 0)) r.slots.length cs) ∧ (B ≤ gs ∧ gs < hi ∧ gs < w.heap.size) ∧ (∃ u, w.cell? (aj gs 0) = some u) ∧ w.frozen? (aj gs 0) = false ∧
  ∀ s : ByteArray, dZ (w.setCell (aj gs 0) (.string s)) B (w.setCell (aj gs 0) (.string s)).heap.size bg.aG (.agg #[v0, v1, v2, c.main]) { c with au := c.au.take k ++ { r with slots := s :: r.slots.tail } :: c.au.drop (k + 1) } := by
 obtain ⟨S, K, G, vs0, vs1, h1, h2, h3, h4, h5, h6, h7, h8, h9, h10⟩ := h
 obtain ⟨va, vb, Sa, Sb, Ka, Kb, Kr, v, A, n, e, rfl, rfl, rfl, g1, g2, g3, g4, g5⟩ := h2.split hx
 have hkl := (List.getElem?_eq_some_iff.1 hx).1
 obtain ⟨g, cap, rfl, hg1, hg2, hcell⟩ := FU h1 g1 aM hkl aA
 obtain ⟨gs, cs, rfl, -⟩ := g3.form hs
 have h9 := h9 g rfl
 have hgl := (g3.lt gs rfl).2
 have hat := Vn g3 0 ah
 have hin : gs ∈ Sa ++ ((Value.slice (some (aj gs 0)) r.slots.length cs).ownBlock.toList ++ Sb) := by
  have : (Value.slice (some (aj gs 0)) r.slots.length cs).ownBlock = some gs := rfl
  simp [this]
 refine ⟨g, cap, gs, cs, rfl, hcell 2 _ rfl, ⟨(h6 gs (.inl hin)).1, (h6 gs (.inl hin)).2.1, hgl⟩, hat.1, hat.2, fun s => ?_⟩
 have keep : ∀ q, q ≠ gs → (w.setCell (aj gs 0) (.string s)).heap[q]? = w.heap[q]? := fun q hq => Below.heap_setCell w (aj gs 0) _ q hq
 have hob : (Value.slice (some (aj gs 0)) r.slots.length cs).ownBlock.toList = [gs] := rfl
 rw [hob] at h5
 have hnd := List.nodup_append.1 h5
 have hna : ∀ q ∈ Sa, q ≠ gs := fun q hq => hnd.2.2 q hq gs av
 have hnb : ∀ q ∈ Sb, q ≠ gs := fun q hq e => by
  subst e
  have := hnd.2.1
  simp at this
  exact this.1 hq
 have hgg : g ≠ gs := fun e => h9.1 (e ▸ hin)
 have hK : ∀ q ∈ Ka ++ (Kr ++ Kb), q ≠ gs := fun q hq e => (h7 gs hin).1 (e ▸ hq)
 have h1' := dR h1 fun q hq => keep q (by have e : some g = some q := hq; injection e with e; subst e; exact hgg)
 have ga := g2.kept (w' := w.setCell (aj gs 0) (.string s)) fun q hq => keep q (by rcases hq with hq | hq; exact hna q hq; exact hK q sP)
 have gb := g5.kept (w' := w.setCell (aj gs 0) (.string s)) fun q hq => keep q (by rcases hq with hq | hq; exact hnb q hq; exact hK q sP)
 have hbo := g4.kept (w' := w.setCell (aj gs 0) (.string s)) fun q hq => keep q (hK q sP)
 obtain ⟨s0, ss, hss⟩ : ∃ s0 ss, r.slots = s0 :: ss := by
  cases hq : r.slots with
  | nil => rw [hq] at hs; simp at hs
  | cons s0 ss => exact ⟨s0, ss, rfl⟩
 have hsl : (w.setCell (aj gs 0) (.string s)).ownsRow 0 e 1 (.slice (some (aj gs 0)) r.slots.length cs) (s :: r.slots.tail).length ((s :: r.slots.tail).map .string) := by
  have := xB [.string s] w _ 0 g3
  rw [hss] at this ⊢
  simpa [ku, sS] using this
 obtain ⟨F0, f1, fm⟩ := (ga.app ((lJ.one (r := { r with slots := s :: r.slots.tail }) (A := A) (n := n) hsl hbo).app gb)).own
 obtain ⟨F, h3, h3', -, hFG, hvG⟩ := h3.kept (w' := w.setCell (aj gs 0) (.string s)) fun q hq _ => keep q (fun e => (h7 gs hin).2 (e ▸ hq))
 have h4' := dR (w' := w.setCell (aj gs 0) (.string s)) h4 fun q hq => keep q (fun e => (h10 q hq).1 (e ▸ hin))
 have hL : (c.au.take k ++ { r with slots := s :: r.slots.tail } :: c.au.drop (k + 1)).length = c.au.length := aJ
 have hcl : r.cells (.slice (some (aj gs 0)) r.slots.length cs) A n = ({ r with slots := s :: r.slots.tail } : bO).cells (.slice (some (aj gs 0)) r.slots.length cs) A n := rfl
 rw [hcl] at h1'
 refine zu (c := { c with au := c.au.take k ++ { r with slots := s :: r.slots.tail } :: c.au.drop (k + 1) }) (F0 := _) (dK.iV (n := (c.au.take k ++ { r with slots := s :: r.slots.tail } :: c.au.drop (k + 1)).length) (by rw [hL]; exact h1') f1) (dK.iV h3 h3') (dK.iV h4' (oF _)) (L := B) (fun q hq => ?_) |> fun H => ?_
 ·simpa only [hL] using H
 rcases hq with hq | hq | hq <;> rcases row_in hq with hq | hq
 ·exact (h6 q (.inr (.inr (.inr (.inl hq))))).1
 ·exact (h6 q (by rcases fm q hq with hq | hq; exact .inl hq; exact .inr (.inl hq))).1
 ·exact (h6 q (.inr (.inr (.inl (hvG q hq).1)))).1
 ·exact (h6 q (.inr (.inr (.inl (hFG q hq))))).1
 ·exact (h6 q (.inr (.inr (.inr (.inr hq))))).1
 simp at hq
end
abbrev U4 (W : World) (g o : Nat) (v3 v4 v5 v6 v7 v8 : Value) : World := (((((W.setCell (aj g (o + 3)) v3).setCell (aj g (o + 4)) v4).setCell (aj g (o + 5)) v5).setCell (aj g (o + 6)) v6).setCell (aj g (o + 7)) v7).setCell (aj g (o + 8)) v8
section
variable {W w : World} {g g' o lo : Nat} {t : TypeId} {cs : Array Value} {v3 v4 v5 v6 v7 v8 : Value}
theorem Blk.PL (h : Blk W g' t cs) (hg : g' ≠ g) : Blk (U4 W g o v3 v4 v5 v6 v7 v8) g' t cs := (((((h.far (p := ⟨g, o + 3, none⟩) hg v3).far (p := ⟨g, o + 4, none⟩) hg v4).far (p := ⟨g, o + 5, none⟩) hg v5).far (p := ⟨g, o + 6, none⟩) hg v6).far (p := ⟨g, o + 7, none⟩) hg v7).far (p := ⟨g, o + 8, none⟩) hg v8
theorem xx (h : Below lo w W) (hg : lo ≤ g) : Below lo w (U4 W g o v3 v4 v5 v6 v7 v8) := (((((h.setCell (p := ⟨g, o + 3, none⟩) hg v3).setCell (p := ⟨g, o + 4, none⟩) hg v4).setCell (p := ⟨g, o + 5, none⟩) hg v5).setCell (p := ⟨g, o + 6, none⟩) hg v6).setCell (p := ⟨g, o + 7, none⟩) hg v7).setCell (p := ⟨g, o + 8, none⟩) hg v8
end
abbrev NK (c : bg) (k : Nat) (r : bO) : bg := { c with au := c.au.take k ++ r :: c.au.drop (k + 1) }
end
section
open Go.RowKit
theorem vv {P : Program} {w : World} {ops : Array Oper} {rest : List Oper} {o : Oper} {a : Act} {Q : Exit → Act → World → Prop} (p : Nat) (hp : p = w.heap.size) (hgd : o.guard = none) (s x : Operand) (t : TypeId)
 (ho : o.op = .call { callee := .builtin .append, args := #[s, x], argTypes := #[t, t] })
 (e : TypeId) (z : Value) (size bytes : Nat) (hinfo : (P.info? e).map (fun i => (i.zero, i.size, i.bytes)) = some (some z, size, bytes)) (ht : P.underlying t = some (.slice e)) (hzs : z.cells.size = size) (hsz : 0 < size) (hby : 0 < bytes)
 (base : Nat) (v : Value) (n : Nat) (xs : List Value) (hs : a.eval s = v) (hown : w.ownsRow base e size v n xs)
 (cs : Array Value) (c : Nat) (t' : TypeId) (hx : a.eval x = .slice (some (aj p 0)) 1 c) (hl : cs.size = size) (h1 : ∀ u ∈ cs.toList, u.oneCell' = true)
 (hroom : (n + 1) * bytes ≤ 140737488355328) (hbase : base ≤ w.heap.size)
 (h : ∀ v' w', w'.ownsRow base e size v' (n + 1) (xs ++ cs.toList) → w.grownBy w' v.ownBlock → (v'.ownBlock = v.ownBlock ∨ v'.ownBlock = some (w.heap.size + 1)) → wpList P ops Q rest (a.put o.dst v') w') : wpList P ops Q (o :: rest) a (w.alloc (.cells cs t')) := by
 subst hp
 exact dO hgd s x t ho e z size bytes hinfo ht hzs hsz hby base v n xs hs hown cs c t' hx hl h1 hroom hbase h
theorem drop_cons {α : Type} {l : List α} {k : Nat} {x : α} (h : l[k]? = some x) : l.drop k = x :: l.drop (k + 1) := by
 obtain ⟨hk, rfl⟩ := List.getElem?_eq_some_iff.1 h
 exact List.drop_eq_getElem_cons hk
def nS (w : World) (P : Nat → Prop) (ds : List Dat) (vs : List Value) : Prop := ∃ F : List Nat, aO w ds F vs ∧ F.Nodup ∧ ∀ g ∈ F, P g
section
variable {w w' : World} {P Q : Nat → Prop} {ds : List Dat} {vs : List Value} {c x : ak} {l : List ak} {v : Value}
theorem nS.aF (h : nS w P ds vs) {p : Addr} (hp : ¬ P p.block) (u : Value) : nS (w.setCell p u) P ds vs := by
 obtain ⟨F, h1, h2, h3⟩ := h
 exact ⟨F, h1.kept fun g hg => Below.heap_setCell w p u g fun e => hp (e ▸ h3 g hg), h2, h3⟩
theorem nS.weak (h : nS w P ds vs) (hq : ∀ g, P g → Q g) : nS w Q ds vs := by
 obtain ⟨F, h1, h2, h3⟩ := h
 exact ⟨F, h1, h2, fun g hg => hq g (h3 g hg)⟩
theorem nS.later (h : nS w P ds vs) (hb : Below w.heap.size w w') : nS w' P ds vs := by
 obtain ⟨F, h1, h2, h3⟩ := h
 exact ⟨F, h1.kept fun g hg => hb.block g (h1.lt g hg), h2, h3⟩
theorem nS.node (h : nS w P [.row 6 l.length (flat ak.aG l)] [v]) : nS w P (c.with l).aG [Value.int i64 c.kind, .int i64 c.op, .int i64 c.number, .int i64 c.line, .string c.text, v] := by
 obtain ⟨F, h1, h2, h3⟩ := h
 have H : aO w [.int i64 c.kind, .int i64 c.op, .int i64 c.number, .int i64 c.line, .str c.text, .row 6 l.length (flat ak.aG l)] F [Value.int i64 c.kind, .int i64 c.op, .int i64 c.number, .int i64 c.line, .string c.text, v] := aO.aN .mkInt (aO.aN .mkInt (aO.aN .mkInt (aO.aN .mkInt (aO.aN .mkStr h1))))
 exact ⟨F, by rw [ak.mX]; simpa [ak.with, ak.kind, ak.op, ak.number, ak.line, ak.text, ak.kids] using H, h2, h3⟩
theorem nS.elem {j : Nat} (h : nS w P [.row 6 l.length (flat ak.aG l)] [v]) (hx : l[j]? = some x) : ∃ g cap A m, v = .slice (some (aj g 0)) l.length cap ∧ P g ∧ (∀ i u, [Value.int i64 x.kind, .int i64 x.op, .int i64 x.number, .int i64 x.line, .string x.text, .slice A x.kids.length m][i]? = some u → w.cell? (aj g (j * 6 + i)) = some u) ∧ nS w P x.aG [Value.int i64 x.kind, .int i64 x.op, .int i64 x.number, .int i64 x.line, .string x.text, .slice A x.kids.length m] := by
 obtain ⟨F, h1, h2, h3⟩ := h
 obtain ⟨F1, F2, v', vs', rfl, hv, h4, h5⟩ := h1.out
 injection hv with hv1 hv2
 subst hv1 hv2
 obtain ⟨rfl, -⟩ := h5.jc
 rw [List.append_nil] at h2 h3
 have hj := (List.getElem?_eq_some_iff.1 hx).1
 have hfl : flat ak.aG l = flat ak.aG (l.take j) ++ (x.aG ++ flat ak.aG (l.drop (j + 1))) := by
  rw [← cK, ← jH, ← drop_cons hx, List.take_append_drop]
 rw [hfl] at h4
 have ht : (flat ak.aG (l.take j)).length = j * 6 := by rw [uH ak.eD, List.length_take, Nat.min_eq_left (Nat.le_of_lt hj)]
 obtain ⟨g, cap, t, F1, Fe, F2, va, ue, vb, rfl, rfl, hown, hva, hue, o1, oe, o2⟩ := h4.elem hj ht x.eD
 obtain ⟨A, m, Fk, rfl, rfl, -⟩ := ak.pK oe
 refine ⟨g, cap, A, m, rfl, h3 g av, fun i u hi => ?_, Fe, oe, (MN h2).1, fun b hb => h3 b (KN (List.mem_cons_of_mem _ hb))⟩
 have hlt : i < 6 := by have := (List.getElem?_eq_some_iff.1 hi).1; simpa using this
 exact pY hown hva ah hi
end
section
variable {M B lo k n : Nat} {t e : TypeId} {w wr w1 w2 : World} {l l' : List ak} {ls vs us : List Value} {v v' : Value} {x : ak}
def sH (M B lo : Nat) (e : TypeId) (wr : World) (l : List ak) (ls : List Value) (k : Nat) (l' : List ak) (v : Value) (vs : List Value) : Prop :=
 ∃ F1 F2 va vb F', ls = va ++ vb ∧ va.length = k * 6 ∧ aO wr (flat ak.aG (l.take k)) F1 va ∧ aO wr (flat ak.aG (l.drop k)) F2 vb ∧ (F1 ++ F2).Nodup ∧ (∀ g ∈ F1 ++ F2, lo ≤ g ∧ g < M) ∧
  wr.ownsRow B e 6 v l'.length vs ∧ aO wr (flat ak.aG l') F' vs ∧ F'.Nodup ∧ ∀ g ∈ F', g ∈ F1
theorem sH.start {F : List Nat} (h : aO wr (flat ak.aG l) F ls) (hF : F.Nodup) (hb : ∀ g ∈ F, lo ≤ g ∧ g < M) (ho : wr.ownsRow B e 6 v 0 []) : sH M B lo e wr l ls 0 [] v [] :=
 ⟨[], F, [], ls, [], rfl, rfl, by simp only [List.take_zero, fC]; exact .eO, h, by simpa using hF, by simpa using hb, ho, by simp only [fC]; exact .eO, List.nodup_nil, av⟩
theorem sH.own (h : sH M B lo e wr l ls k l' v vs) : wr.ownsRow B e 6 v l'.length vs := by obtain ⟨F1, F2, va, vb, F', -, -, -, -, -, -, h, -⟩ := h; exact h
theorem sH.later (h : sH M B lo e wr l ls k l' v vs) (hb : Below wr.heap.size wr w1) : sH M B lo e w1 l ls k l' v vs := by
 obtain ⟨F1, F2, va, vb, F', h1, h2, h3, h4, h5, h6, h7, h8, h9, h10⟩ := h
 exact ⟨F1, F2, va, vb, F', h1, h2, h3.kept fun g hg => hb.block g (h3.lt g hg), h4.kept fun g hg => hb.block g (h4.lt g hg), h5, h6, fA h7 hb, h8.kept fun g hg => hb.block g (h8.lt g hg), h9, h10⟩
theorem sH.at_ (h : sH M B lo e wr l ls k l' v vs) (hx : l[k]? = some x) :
 ∃ va A m vb, ls = va ++ ([Value.int i64 x.kind, .int i64 x.op, .int i64 x.number, .int i64 x.line, .string x.text, .slice A x.kids.length m] ++ vb) ∧ va.length = k * 6 := by
 obtain ⟨F1, F2, va, vb, F', rfl, h2, h3, h4, -⟩ := h
 rw [drop_cons hx, cK] at h4
 obtain ⟨Fe, F3, ue, vc, rfl, rfl, h5, h6⟩ := h4.parts
 obtain ⟨A, m, Fk, rfl, rfl, -⟩ := ak.pK h5
 exact ⟨va, A, m, vc, rfl, h2⟩
theorem sH.skip (h : sH M B lo e wr l ls k l' v vs) (hx : l[k]? = some x) : sH M B lo e wr l ls (k + 1) l' v vs := by
 obtain ⟨F1, F2, va, vb, F', rfl, h2, h3, h4, h5, h6, h7, h8, h9, h10⟩ := h
 rw [drop_cons hx, cK] at h4
 obtain ⟨Fe, F3, ue, vc, rfl, rfl, h11, h12⟩ := h4.parts
 have hu := h11.len
 rw [ak.eD] at hu
 exact ⟨F1 ++ Fe, F3, va ++ ue, vc, F', by rw [List.append_assoc], by rw [List.length_append, h2, hu]; omega, by rw [zR hx]; exact h3.app h11, h12, by rw [List.append_assoc]; exact h5, by rw [List.append_assoc]; exact h6, h7, h8, h9, fun g hg => List.mem_append_left _ (h10 g hg)⟩
theorem sH.push (h : sH M B lo e wr l ls k l' v vs) (hx : l[k]? = some x) {va vb : List Value} (hls : ls = va ++ (us ++ vb)) (hva : va.length = k * 6) (hus : us.length = 6) (hb : Below wr.heap.size wr w1) (hB : B ≤ wr.heap.size)
 (ho : w2.ownsRow B e 6 v' (l'.length + 1) (vs ++ us)) (hgr : w1.grownBy w2 v.ownBlock) (hM : M ≤ B) : sH M B lo e w2 l ls (k + 1) (l' ++ [x]) v' (vs ++ us) := by
 obtain ⟨F1, F2, va', vb', F', rfl, h2, h3, h4, h5, h6, h7, h8, h9, h10⟩ := h
 obtain ⟨rfl, hvb⟩ := List.append_inj hls (by rw [h2, hva])
 rw [drop_cons hx, cK] at h4
 obtain ⟨Fe, F3, ue, vc, rfl, rfl, h11, h12⟩ := h4.parts
 have hu := h11.len
 rw [ak.eD] at hu
 obtain ⟨rfl, rfl⟩ := List.append_inj hvb (by rw [hu, hus])
 have K : ∀ g, g < B → w2.heap[g]? = wr.heap[g]? := fun g hg => (hgr.block g (nL hg (nT hB hb.size)) (fun q => by have := (h7.lt g q.symm).1; omega)).trans (hb.block g ah)
 have b1 : ∀ g ∈ F1, g < B := fun g hg => nL (h6 g mZ).2 hM
 have be : ∀ g ∈ Fe, g < B := fun g hg => nL (h6 g mZ).2 hM
 have b3 : ∀ g ∈ F3, g < B := fun g hg => nL (h6 g mZ).2 hM
 have h3' := h3.kept (w' := w2) fun g hg => K g (b1 g hg)
 have Yc := h11.kept (w' := w2) fun g hg => K g (be g hg)
 have aer := h12.kept (w' := w2) fun g hg => K g (b3 g hg)
 have h8' := h8.kept (w' := w2) fun g hg => K g (b1 g (h10 g hg))
 rw [← List.append_assoc] at h5
 have h13 := List.nodup_append.1 (List.nodup_append.1 h5).1
 refine ⟨F1 ++ Fe, F3, va' ++ ue, vc, F' ++ Fe, by rw [List.append_assoc], by rw [List.length_append, h2, hu]; omega, by rw [zR hx]; exact h3'.app Yc, aer, h5, by rw [List.append_assoc]; exact h6, by rw [List.length_append]; exact ho, by rw [jH, cK, fC, List.append_nil]; exact h8'.app Yc, List.nodup_append.2 ⟨h9, h13.2.1, fun a ha b hb' => h13.2.2 a (h10 a ha) b hb'⟩, fun g hg => ?_⟩
 rcases mA hg with hg | hg
 ·exact List.mem_append_left _ (h10 g hg)
 exact List.mem_append_right _ hg
theorem sH.made (h : sH M B lo e wr l ls k l' v vs) (hB : lo ≤ B) (hM : M ≤ B) : nS wr (fun g => lo ≤ g ∧ g < wr.heap.size ∧ ¬ (M ≤ g ∧ g < B)) [.row 6 l'.length (flat ak.aG l')] [v] := by
 obtain ⟨F1, F2, va, vb, F', rfl, h2, h3, h4, h5, h6, h7, h8, h9, h10⟩ := h
 refine ⟨_, aO.aN (dK.iV h7 h8) .eO, ?_, fun g hg => ?_⟩
 ·rw [List.append_nil]
  refine List.nodup_append.2 ⟨?_, h9, fun a ha b hb q => ?_⟩
  ·cases v.ownBlock <;> simp
  subst q
  have := (h7.lt a (by simpa using ha)).1
  have := (h6 a (List.mem_append_left _ (h10 a hb))).2
  omega
 rw [List.append_nil] at hg
 rcases mA hg with hg | hg
 ·have := h7.lt g jK; omega
 have := h6 g (List.mem_append_left _ (h10 g hg)); have := h8.lt g hg; omega
end
theorem Ni {n k : Nat} {l : List ak} {x : ak} (hx : l[k]? = some x) : fF n k (l.drop k) = (if rR n k x = true then [x] else []) ++ fF n (k + 1) (l.drop (k + 1)) := by
 rw [drop_cons hx, fF]
 split <;> simp_all
end
end Go.Proofs.YthbcamfejgghhaaGreatDoor
