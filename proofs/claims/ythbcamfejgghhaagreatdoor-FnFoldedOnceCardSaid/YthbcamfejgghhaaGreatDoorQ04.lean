/- What is left of a Y1: the plain words of the Xf size counts. Rw of structs of any one kind: how they read, element by element. Plain lemmas, no program -/
import Derived.Test.YthbcamfejgghhaaGreatDoorQ02
set_option maxRecDepth 100000
set_option maxHeartbeats 8000000
set_option linter.unusedVariables false
set_option linter.unusedSimpArgs false
namespace Go.Proofs.YthbcamfejgghhaaGreatDoor
open Go.IntKind (i64)
def leftOf (left : Int) (b : Nat) : Int := if left < b then -1 else left - b
section
open Go.RowKit
section
variable {α : Type} {f : α → List Dat} {k : Nat}
def flat (f : α → List Dat) (l : List α) : List Dat := l.flatMap f
theorem fC : flat f [] = [] := rfl
theorem cK (c : α) (l : List α) : flat f (c :: l) = f c ++ flat f l := by simp [flat]
theorem jH (a b : List α) : flat f (a ++ b) = flat f a ++ flat f b := by simp [flat]
theorem uH (hf : ∀ x, (f x).length = k) (l : List α) : (flat f l).length = l.length * k := by
 induction l with
 | nil => simp [flat]
 | cons c l ih => rw [cK, List.length_append, hf, ih, List.length_cons, Nat.succ_mul, Nat.add_comm]
theorem Tv {l : List α} {j : Nat} {c : α} (h : l[j]? = some c) : flat f l = flat f (l.take j) ++ (f c ++ flat f (l.drop (j + 1))) := by
 obtain ⟨hj, rfl⟩ := List.getElem?_eq_some_iff.1 h
 have e : l = l.take j ++ (l[j] :: l.drop (j + 1)) := by rw [← List.drop_eq_getElem_cons hj, List.take_append_drop]
 conv => lhs; rw [e]
 rw [jH, cK]
theorem zR {l : List α} {j : Nat} {c : α} (h : l[j]? = some c) : flat f (l.take (j + 1)) = flat f (l.take j) ++ f c := by
 rw [gB h, jH, cK, fC, List.append_nil]
def sumOf (b : α → Nat) : List α → Nat
 | [] => 0
 | c :: l => b c + sumOf b l
theorem P5 (b : α → Nat) (x y : List α) : sumOf b (x ++ y) = sumOf b x + sumOf b y := by
 induction x with
 | nil => simp [sumOf]
 | cons c l ih => simp [sumOf, ih]; omega
theorem C8 {b : α → Nat} {l : List α} {j : Nat} {c : α} (h : l[j]? = some c) : sumOf b (l.take (j + 1)) = sumOf b (l.take j) + b c := by
 rw [gB h, P5]; simp [sumOf]
theorem p9 {b : α → Nat} {l : List α} {c : α} (h : c ∈ l) : b c ≤ sumOf b l := by
 induction l with
 | nil => cases h
 | cons x l ih =>
   simp only [sumOf]
   exact yJ
end
def aW {α : Type} (w : World) (lo hi k : Nat) (f : α → List Dat) (v : Value) (l : List α) : Prop := Rep w lo hi (.row k l.length (flat f l)) v
def dZ {α : Type} (w : World) (lo hi : Nat) (f : α → List Dat) (x : Value) (c : α) : Prop := kU w lo hi (f c) x
section
variable {α : Type} {f : α → List Dat} {k : Nat} {w w' : World} {lo hi : Nat} {x v : Value} {c : α} {l : List α}
theorem aW.keep (h : aW w lo hi k f v l) (hk : ∀ p : Addr, lo ≤ p.block → p.block < hi → w'.cell? p = w.cell? p) : aW w' lo hi k f v l := Rep.keep h hk
theorem aW.below {B : Nat} (h : aW w lo hi k f v l) (hb : Below B w w') (hB : hi ≤ B) : aW w' lo hi k f v l := Rep.below h hb hB
theorem aW.wide {lo' hi' : Nat} (h : aW w lo hi k f v l) (h1 : lo' ≤ lo) (h2 : hi ≤ hi') : aW w lo' hi' k f v l := Rep.wide h h1 h2
theorem aW.same (h : aW w lo hi k f v l) (hs : Same w w') : aW w' lo hi k f v l := Rep.same h hs
theorem aW.alloc (h : aW w lo hi k f v l) (hB : hi ≤ w.heap.size) (o : Obj) : aW (w.alloc o) lo hi k f v l := Rep.alloc h hB o
theorem aW.gQ (h : aW w lo hi k f v l) {p : Addr} (hp : p.block < lo ∨ hi ≤ p.block) (u : Value) : aW (w.setCell p u) lo hi k f v l := Rep.gQ h hp u
theorem aW.grown {row : Option Nat} (h : aW w lo hi k f v l) (hg : w.grownBy w' row) (hB : hi ≤ w.heap.size) (hr : ∀ g, row = some g → g < lo ∨ hi ≤ g) : aW w' lo hi k f v l := Rep.grown h hg hB hr
theorem aW.shape (h : aW w lo hi k f v l) : ∃ A c, v = .slice A l.length c ∧ l.length ≤ c ∧ c ≤ maxLen := by
 obtain ⟨A, c, h1, h2, h3, -⟩ := Rep.shape h; exact ⟨A, c, h1, h2, h3⟩
theorem dZ.keep (h : dZ w lo hi f x c) (hk : ∀ p : Addr, lo ≤ p.block → p.block < hi → w'.cell? p = w.cell? p) : dZ w' lo hi f x c := kU.keep h hk
theorem dZ.below {B : Nat} (h : dZ w lo hi f x c) (hb : Below B w w') (hB : hi ≤ B) : dZ w' lo hi f x c := kU.below h hb hB
theorem dZ.wide {lo' hi' : Nat} (h : dZ w lo hi f x c) (h1 : lo' ≤ lo) (h2 : hi ≤ hi') : dZ w lo' hi' f x c := kU.wide h h1 h2
theorem dZ.same (h : dZ w lo hi f x c) (hs : Same w w') : dZ w' lo hi f x c := kU.same h hs
theorem dZ.alloc (h : dZ w lo hi f x c) (hB : hi ≤ w.heap.size) (o : Obj) : dZ (w.alloc o) lo hi f x c := kU.alloc h hB o
theorem dZ.gQ (h : dZ w lo hi f x c) {p : Addr} (hp : p.block < lo ∨ hi ≤ p.block) (u : Value) : dZ (w.setCell p u) lo hi f x c := kU.gQ h hp u
theorem dZ.grown {row : Option Nat} (h : dZ w lo hi f x c) (hg : w.grownBy w' row) (hB : hi ≤ w.heap.size) (hr : ∀ g, row = some g → g < lo ∨ hi ≤ g) : dZ w' lo hi f x c := kU.grown h hg hB hr
theorem aW.elem {A : Option Addr} {cap j : Nat} (hf : ∀ y, (f y).length = k) (h : aW w lo hi k f (.slice A l.length cap) l) (hc : l[j]? = some c) :
 ∃ g off us, A = some ⟨g, off, none⟩ ∧ lo ≤ g ∧ g < hi ∧ us.length = k ∧ eU w lo hi (f c) us ∧ ∀ i u, us[i]? = some u → w.cell? (aj g (off + j * k + i)) = some u := by
 have hj := (List.getElem?_eq_some_iff.1 hc).1
 exact Rep.elem h hj (Tv hc) (by rw [uH hf, List.length_take, Nat.min_eq_left ah]) (hf c)
end
def aR (s : ByteArray) : List Dat := [.str s]
theorem KB (s : ByteArray) : (aR s).length = 1 := rfl
theorem aW.text {w : World} {lo hi cap j : Nat} {A : Option Addr} {l : List ByteArray} {s : ByteArray} (h : aW w lo hi 1 aR (.slice A l.length cap) l) (hc : l[j]? = some s) :
 ∃ g off, A = some ⟨g, off, none⟩ ∧ lo ≤ g ∧ g < hi ∧ w.cell? (aj g (off + j)) = some (.string s) := by
 obtain ⟨g, off, us, hA, h1, h2, h3, h4, h5⟩ := h.elem KB hc
 obtain ⟨v0, t0, rfl, a0, h4⟩ := eU.out h4
 obtain rfl := a0.oq
 refine ⟨g, off, hA, h1, h2, ?_⟩
 have := h5 0 _ rfl
 rwa [Nat.mul_one, Nat.add_zero] at this
def OO (n : Int) : List Dat := [.int i64 n]
theorem KC (n : Int) : (OO n).length = 1 := rfl
def YN (_ : Int) : Nat := 0
theorem aW.num {w : World} {lo hi cap j : Nat} {A : Option Addr} {l : List Int} {s : Int} (h : aW w lo hi 1 OO (.slice A l.length cap) l) (hc : l[j]? = some s) :
 ∃ g off, A = some ⟨g, off, none⟩ ∧ lo ≤ g ∧ g < hi ∧ w.cell? (aj g (off + j)) = some (.int i64 s) := by
 obtain ⟨g, off, us, hA, h1, h2, h3, h4, h5⟩ := h.elem KC hc
 obtain ⟨v0, t0, rfl, a0, h4⟩ := eU.out h4
 obtain rfl := a0.iF
 refine ⟨g, off, hA, h1, h2, ?_⟩
 have := h5 0 _ rfl
 rwa [Nat.mul_one, Nat.add_zero] at this
theorem oQ {w : World} {lo hi : Nat} : ∀ {l : List ByteArray} {vs : List Value}, eU w lo hi (flat aR l) vs ↔ vs = l.map .string
 | [], vs => by simp [flat, eU]
 | s :: l, vs => by
   rw [cK]
   constructor
   ·intro h
    obtain ⟨v, vs', rfl, h1, h2⟩ := eU.out (d := .str s) (ds := flat aR l) h
    obtain rfl := h1.oq
    rw [oQ.1 h2]; rfl
   intro h
   subst h
   exact eU.aN Rep.mkStr (oQ.2 rfl)
theorem aW.rds {w : World} {lo hi : Nat} {v : Value} {l : List ByteArray} : aW w lo hi 1 aR v l ↔ Rds w lo hi 1 v l.length (l.map .string) := by
 constructor
 ·intro h
  obtain ⟨vs, h1, h2⟩ := Rep.uG h
  rw [oQ.1 h2] at h1
  exact h1
 intro h
 exact Rep.iV h (oQ.2 rfl)
structure Ex (w W : World) (t1 t2 : TypeId) (pc rc oc : Array Value) : Prop where
 bel : Below w.heap.size w W
 arg : Blk W w.heap.size t1 pc
 res : Blk W (w.heap.size + 1) t2 rc
 var : Blk W (w.heap.size + 1 + 1) t2 oc
theorem Ex.new (w : World) (t1 t2 : TypeId) (pc rc oc : Array Value) : Ex w (((w.alloc (.cells pc t1)).alloc (.cells rc t2)).alloc (.cells oc t2)) t1 t2 pc rc oc :=
 ⟨((bA _ _).alloc av _).alloc aJ _, ((Blk.new w _ _).alloc _).alloc _, (Blk.newAt _ _ _ _ av).alloc _, Blk.newAt _ _ _ _ av⟩
theorem Ex.later {w W W' : World} {t1 t2 : TypeId} {pc rc oc : Array Value} (h : Ex w W t1 t2 pc rc oc) (hb : Below W.heap.size W W') : Ex w W' t1 t2 pc rc oc :=
 ⟨h.bel.trans (hb.mono h.bel.size), h.arg.later hb, h.res.later hb, h.var.later hb⟩
theorem Ex.set {w W : World} {t1 t2 : TypeId} {pc rc oc : Array Value} (h : Ex w W t1 t2 pc rc oc) (i : Nat) (u : Value) : Ex w (W.setCell (aj (w.heap.size + 1 + 1) i) u) t1 t2 pc rc (oc.setIfInBounds i u) :=
 ⟨h.bel.setCell aJ _, h.arg.far aJ _, h.res.far av _, h.var.aF i u⟩
theorem Ex.ae3 {w W : World} {t1 t2 : TypeId} {pc rc oc : Array Value} (h : Ex w W t1 t2 pc rc oc) : (∀ i, W.cell? (aj w.heap.size i) = pc[i]?) ∧ (∀ i, W.cell? (aj (w.heap.size + 1 + 1) i) = oc[i]?) ∧ (∀ i, W.frozen? (aj (w.heap.size + 1 + 1) i) = false) ∧ (∀ i, W.cell? (aj (w.heap.size + 1) i) = rc[i]?) ∧ (∀ i, W.frozen? (aj (w.heap.size + 1) i) = false) ∧ w.heap.size < W.heap.size ∧ w.heap.size + 1 + 1 < W.heap.size :=
 ⟨h.arg.cell, h.var.cell, h.var.frozen, h.res.cell, h.res.frozen, h.arg.lt, h.var.lt⟩
def Y2 {α : Type} (f : α → List Dat) (c : α) (w : World) (e : Ending) (w' : World) : Prop := ∃ x, e = .returned x ∧ dZ w' w.heap.size w'.heap.size f x c ∧ Below w.heap.size w w'
def Y3 {α : Type} (k : Nat) (f : α → List Dat) (l : List α) (w : World) (e : Ending) (w' : World) : Prop := ∃ v, e = .returned v ∧ aW w' w.heap.size w'.heap.size k f v l ∧ Below w.heap.size w w'
end
section
section
open Go.RowKit
structure nO where
 name : ByteArray
 params : Int
 slots : Int
 entry : Int
def nO.aG (c : nO) : List Dat := [.str c.name, .int i64 c.params, .int i64 c.slots, .int i64 c.entry]
theorem nO.eD (c : nO) : c.aG.length = 4 := rfl
def nO.bI (c : nO) : Nat := c.name.size
def nO.Fits (c : nO) : Prop := (c.name.size ≤ 9223372036854775807)
section
variable {w : World} {lo hi : Nat} {x : Value} {c : nO}
theorem nO.form (h : dZ w lo hi nO.aG x c) : x = .agg #[Value.string c.name, c.params, c.slots, c.entry] := by
 obtain ⟨cs, rfl, h1⟩ := h
 unfold nO.aG at h1
 obtain ⟨v0, t0, rfl, a0, h1⟩ := h1.out
 obtain ⟨v1, t1, rfl, a1, h1⟩ := h1.out
 obtain ⟨v2, t2, rfl, a2, h1⟩ := h1.out
 obtain ⟨v3, t3, rfl, a3, h1⟩ := h1.out
 obtain rfl := h1.jc
 obtain rfl := a0.oq
 obtain rfl := a1.iF
 obtain rfl := a2.iF
 obtain rfl := a3.iF
 exact rfl
theorem nO.mk_  : dZ w lo hi nO.aG (.agg #[Value.string c.name, c.params, c.slots, c.entry]) c :=
 ⟨[_, _, _, _], rfl, .aN .mkStr (.aN .mkInt (.aN .mkInt (.aN .mkInt .eO)))⟩
theorem nO.at_ {A : Option Addr} {cap j : Nat} {l : List nO} (h : aW w lo hi 4 nO.aG (.slice A l.length cap) l) (hc : l[j]? = some c) :
 ∃ g off, A = some ⟨g, off, none⟩ ∧ lo ≤ g ∧ g < hi ∧ c ∈ l ∧ dZ w lo hi nO.aG (.agg #[Value.string c.name, c.params, c.slots, c.entry]) c ∧ w.cell? (aj g (off + j * 4)) = some (.string c.name) ∧ w.cell? (aj g (off + j * 4 + 1)) = some (.int i64 c.params) ∧ w.cell? (aj g (off + j * 4 + 2)) = some (.int i64 c.slots) ∧ w.cell? (aj g (off + j * 4 + 3)) = some (.int i64 c.entry) := by
 obtain ⟨g, off, us, hA, h1, h2, h3, h4, h5⟩ := h.elem nO.eD hc
 obtain hx := nO.form (w := w) (lo := lo) (hi := hi) (c := c) (x := .agg us.toArray) ⟨us, rfl, h4⟩
 injection hx with hx
 obtain rfl : us = [_, _, _, _] := congrArg Array.toList hx
 exact ⟨g, off, hA, h1, h2, mG hc, nO.mk_, h5 0 _ rfl, h5 1 _ rfl, h5 2 _ rfl, h5 3 _ rfl⟩
end
end
section
open Go.RowKit
structure ep where
 name : ByteArray
 fields : List ByteArray
 line : Int
def ep.aG (c : ep) : List Dat := [.str c.name, .row 1 c.fields.length (flat aR c.fields), .int i64 c.line]
theorem ep.eD (c : ep) : c.aG.length = 3 := rfl
def ep.bI (c : ep) : Nat := c.name.size + (c.fields.length + sumOf ByteArray.size c.fields)
def ep.Fits (c : ep) : Prop := (c.name.size ≤ 9223372036854775807) ∧ (∀ s ∈ c.fields, s.size ≤ 9223372036854775807)
section
variable {w : World} {lo hi : Nat} {x : Value} {c : ep}
theorem ep.form (h : dZ w lo hi ep.aG x c) : ∃ jA nfields, x = .agg (dS c.name jA c.fields.length nfields c.line) ∧ aW w lo hi 1 aR (.slice jA c.fields.length nfields) c.fields ∧ c.fields.length ≤ nfields ∧ nfields ≤ maxLen := by
 obtain ⟨cs, rfl, h1⟩ := h
 unfold ep.aG at h1
 obtain ⟨v0, t0, rfl, a0, h1⟩ := h1.out
 obtain ⟨v1, t1, rfl, a1, h1⟩ := h1.out
 obtain ⟨v2, t2, rfl, a2, h1⟩ := h1.out
 obtain rfl := h1.jc
 obtain rfl := a0.oq
 obtain ⟨A1, c1, rfl, g1, k1⟩ := aW.shape (f := aR) a1
 obtain rfl := a2.iF
 exact ⟨A1, c1, rfl, a1, g1, k1⟩
theorem ep.mk_ {jA : Option Addr} {nfields : Nat} (GJ : aW w lo hi 1 aR (.slice jA c.fields.length nfields) c.fields) : dZ w lo hi ep.aG (.agg (dS c.name jA c.fields.length nfields c.line)) c :=
 ⟨[_, _, _], rfl, .aN .mkStr (.aN GJ (.aN .mkInt .eO))⟩
theorem ep.rows {jA : Option Addr} {nfields : Nat} (h : dZ w lo hi ep.aG (.agg (dS c.name jA c.fields.length nfields c.line)) c) : aW w lo hi 1 aR (.slice jA c.fields.length nfields) c.fields := by
 obtain ⟨X0, y0, hx, l0, _, _⟩ := ep.form h
 exact I1
theorem ep.at_ {A : Option Addr} {cap j : Nat} {l : List ep} (h : aW w lo hi 3 ep.aG (.slice A l.length cap) l) (hc : l[j]? = some c) :
 ∃ g off jA nfields, A = some ⟨g, off, none⟩ ∧ lo ≤ g ∧ g < hi ∧ c ∈ l ∧ dZ w lo hi ep.aG (.agg (dS c.name jA c.fields.length nfields c.line)) c ∧ w.cell? (aj g (off + j * 3)) = some (.string c.name) ∧ w.cell? (aj g (off + j * 3 + 1)) = some (.slice jA c.fields.length nfields) ∧ w.cell? (aj g (off + j * 3 + 2)) = some (.int i64 c.line) := by
 obtain ⟨g, off, us, hA, h1, h2, h3, h4, h5⟩ := h.elem ep.eD hc
 obtain ⟨B0, m0, hx, l0, _, _⟩ := ep.form (w := w) (lo := lo) (hi := hi) (c := c) (x := .agg us.toArray) ⟨us, rfl, h4⟩
 injection hx with hx
 obtain rfl : us = [_, _, _] := congrArg Array.toList hx
 exact ⟨g, off, B0, m0, hA, h1, h2, mG hc, ep.mk_ l0, h5 0 _ rfl, h5 1 _ rfl, h5 2 _ rfl⟩
end
end
section
open Go.RowKit
structure nP where
 op : Int
 a : Int
 b : Int
 line : Int
 text : ByteArray
def nP.aG (c : nP) : List Dat := [.int i64 c.op, .int i64 c.a, .int i64 c.b, .int i64 c.line, .str c.text]
theorem nP.eD (c : nP) : c.aG.length = 5 := rfl
def nP.bI (c : nP) : Nat := c.text.size
def nP.Fits (c : nP) : Prop := (c.text.size ≤ 9223372036854775807)
section
variable {w : World} {lo hi : Nat} {x : Value} {c : nP}
theorem nP.form (h : dZ w lo hi nP.aG x c) : x = .agg #[Value.int i64 c.op, c.a, c.b, c.line, c.text] := by
 obtain ⟨cs, rfl, h1⟩ := h
 unfold nP.aG at h1
 obtain ⟨v0, t0, rfl, a0, h1⟩ := h1.out
 obtain ⟨v1, t1, rfl, a1, h1⟩ := h1.out
 obtain ⟨v2, t2, rfl, a2, h1⟩ := h1.out
 obtain ⟨v3, t3, rfl, a3, h1⟩ := h1.out
 obtain ⟨v4, t4, rfl, a4, h1⟩ := h1.out
 obtain rfl := h1.jc
 obtain rfl := a0.iF
 obtain rfl := a1.iF
 obtain rfl := a2.iF
 obtain rfl := a3.iF
 obtain rfl := a4.oq
 exact rfl
theorem nP.mk_  : dZ w lo hi nP.aG (.agg #[Value.int i64 c.op, c.a, c.b, c.line, c.text]) c :=
 ⟨[_, _, _, _, _], rfl, .aN .mkInt (.aN .mkInt (.aN .mkInt (.aN .mkInt (.aN .mkStr .eO))))⟩
theorem nP.at_ {A : Option Addr} {cap j : Nat} {l : List nP} (h : aW w lo hi 5 nP.aG (.slice A l.length cap) l) (hc : l[j]? = some c) :
 ∃ g off, A = some ⟨g, off, none⟩ ∧ lo ≤ g ∧ g < hi ∧ c ∈ l ∧ dZ w lo hi nP.aG (.agg #[Value.int i64 c.op, c.a, c.b, c.line, c.text]) c ∧ w.cell? (aj g (off + j * 5)) = some (.int i64 c.op) ∧ w.cell? (aj g (off + j * 5 + 1)) = some (.int i64 c.a) ∧ w.cell? (aj g (off + j * 5 + 2)) = some (.int i64 c.b) ∧ w.cell? (aj g (off + j * 5 + 3)) = some (.int i64 c.line) ∧ w.cell? (aj g (off + j * 5 + 4)) = some (.string c.text) := by
 obtain ⟨g, off, us, hA, h1, h2, h3, h4, h5⟩ := h.elem nP.eD hc
 obtain hx := nP.form (w := w) (lo := lo) (hi := hi) (c := c) (x := .agg us.toArray) ⟨us, rfl, h4⟩
 injection hx with hx
 obtain rfl : us = [_, _, _, _, _] := congrArg Array.toList hx
 exact ⟨g, off, hA, h1, h2, mG hc, nP.mk_, h5 0 _ rfl, h5 1 _ rfl, h5 2 _ rfl, h5 3 _ rfl, h5 4 _ rfl⟩
end
end
section
open Go.RowKit
structure lN where
 kind : Int
 place : Int
def lN.aG (c : lN) : List Dat := [.int i64 c.kind, .int i64 c.place]
theorem lN.eD (c : lN) : c.aG.length = 2 := rfl
def lN.bI (c : lN) : Nat := 0
def lN.Fits (c : lN) : Prop := True
section
variable {w : World} {lo hi : Nat} {x : Value} {c : lN}
theorem lN.form (h : dZ w lo hi lN.aG x c) : x = .agg (aL c.kind c.place) := by
 obtain ⟨cs, rfl, h1⟩ := h
 unfold lN.aG at h1
 obtain ⟨v0, t0, rfl, a0, h1⟩ := h1.out
 obtain ⟨v1, t1, rfl, a1, h1⟩ := h1.out
 obtain rfl := h1.jc
 obtain rfl := a0.iF
 obtain rfl := a1.iF
 exact rfl
theorem lN.mk_  : dZ w lo hi lN.aG (.agg (aL c.kind c.place)) c :=
 ⟨[_, _], rfl, .aN .mkInt (.aN .mkInt .eO)⟩
theorem lN.at_ {A : Option Addr} {cap j : Nat} {l : List lN} (h : aW w lo hi 2 lN.aG (.slice A l.length cap) l) (hc : l[j]? = some c) :
 ∃ g off, A = some ⟨g, off, none⟩ ∧ lo ≤ g ∧ g < hi ∧ c ∈ l ∧ dZ w lo hi lN.aG (.agg (aL c.kind c.place)) c ∧ w.cell? (aj g (off + j * 2)) = some (.int i64 c.kind) ∧ w.cell? (aj g (off + j * 2 + 1)) = some (.int i64 c.place) := by
 obtain ⟨g, off, us, hA, h1, h2, h3, h4, h5⟩ := h.elem lN.eD hc
 obtain hx := lN.form (w := w) (lo := lo) (hi := hi) (c := c) (x := .agg us.toArray) ⟨us, rfl, h4⟩
 injection hx with hx
 obtain rfl : us = [_, _] := congrArg Array.toList hx
 exact ⟨g, off, hA, h1, h2, mG hc, lN.mk_, h5 0 _ rfl, h5 1 _ rfl⟩
end
end
section
open Go.RowKit
structure kM where
 au : List nO
 records : List ep
 globals : List ByteArray
 main : Int
 kP : List nP
def kM.aG (c : kM) : List Dat := [.row 4 c.au.length (flat nO.aG c.au), .row 3 c.records.length (flat ep.aG c.records), .row 1 c.globals.length (flat aR c.globals), .int i64 c.main, .row 5 c.kP.length (flat nP.aG c.kP)]
theorem kM.eD (c : kM) : c.aG.length = 5 := rfl
def kM.bI (c : kM) : Nat := (c.au.length + sumOf nO.bI c.au) + (c.records.length + sumOf ep.bI c.records) + (c.globals.length + sumOf ByteArray.size c.globals) + (c.kP.length + sumOf nP.bI c.kP)
def kM.Fits (c : kM) : Prop := (∀ y ∈ c.au, y.Fits) ∧ (∀ y ∈ c.records, y.Fits) ∧ (∀ s ∈ c.globals, s.size ≤ 9223372036854775807) ∧ (∀ y ∈ c.kP, y.Fits)
section
variable {w : World} {lo hi : Nat} {x : Value} {c : kM}
theorem kM.form (h : dZ w lo hi kM.aG x c) : ∃ dh bP bM bG bK bC nA kW, x = .agg #[Value.slice dh c.au.length bP, .slice bM c.records.length bG, .slice bK c.globals.length bC, c.main, .slice nA c.kP.length kW] ∧ aW w lo hi 4 nO.aG (.slice dh c.au.length bP) c.au ∧ c.au.length ≤ bP ∧ bP ≤ maxLen ∧ aW w lo hi 3 ep.aG (.slice bM c.records.length bG) c.records ∧ c.records.length ≤ bG ∧ bG ≤ maxLen ∧ aW w lo hi 1 aR (.slice bK c.globals.length bC) c.globals ∧ c.globals.length ≤ bC ∧ bC ≤ maxLen ∧ aW w lo hi 5 nP.aG (.slice nA c.kP.length kW) c.kP ∧ c.kP.length ≤ kW ∧ kW ≤ maxLen := by
 obtain ⟨cs, rfl, h1⟩ := h
 unfold kM.aG at h1
 obtain ⟨v0, t0, rfl, a0, h1⟩ := h1.out
 obtain ⟨v1, t1, rfl, a1, h1⟩ := h1.out
 obtain ⟨v2, t2, rfl, a2, h1⟩ := h1.out
 obtain ⟨v3, t3, rfl, a3, h1⟩ := h1.out
 obtain ⟨v4, t4, rfl, a4, h1⟩ := h1.out
 obtain rfl := h1.jc
 obtain ⟨A0, c0, rfl, g0, k0⟩ := aW.shape (f := nO.aG) a0
 obtain ⟨A1, c1, rfl, g1, k1⟩ := aW.shape (f := ep.aG) a1
 obtain ⟨A2, c2, rfl, g2, k2⟩ := aW.shape (f := aR) a2
 obtain rfl := a3.iF
 obtain ⟨A4, c4, rfl, g4, k4⟩ := aW.shape (f := nP.aG) a4
 exact ⟨A0, c0, A1, c1, A2, c2, A4, c4, rfl, a0, g0, k0, a1, g1, k1, a2, g2, k2, a4, g4, k4⟩
theorem kM.mk_ {dh : Option Addr} {bP : Nat} (rW : aW w lo hi 4 nO.aG (.slice dh c.au.length bP) c.au) {bM : Option Addr} {bG : Nat} (ql : aW w lo hi 3 ep.aG (.slice bM c.records.length bG) c.records) {bK : Option Addr} {bC : Nat} (qm : aW w lo hi 1 aR (.slice bK c.globals.length bC) c.globals) {nA : Option Addr} {kW : Nat} (Tw : aW w lo hi 5 nP.aG (.slice nA c.kP.length kW) c.kP) : dZ w lo hi kM.aG (.agg #[Value.slice dh c.au.length bP, .slice bM c.records.length bG, .slice bK c.globals.length bC, c.main, .slice nA c.kP.length kW]) c :=
 ⟨[_, _, _, _, _], rfl, .aN rW (.aN ql (.aN qm (.aN .mkInt (.aN Tw .eO))))⟩
theorem kM.rows {dh : Option Addr} {bP : Nat} {bM : Option Addr} {bG : Nat} {bK : Option Addr} {bC : Nat} {nA : Option Addr} {kW : Nat} (h : dZ w lo hi kM.aG (.agg #[Value.slice dh c.au.length bP, .slice bM c.records.length bG, .slice bK c.globals.length bC, c.main, .slice nA c.kP.length kW]) c) : aW w lo hi 4 nO.aG (.slice dh c.au.length bP) c.au ∧ aW w lo hi 3 ep.aG (.slice bM c.records.length bG) c.records ∧ aW w lo hi 1 aR (.slice bK c.globals.length bC) c.globals ∧ aW w lo hi 5 nP.aG (.slice nA c.kP.length kW) c.kP := by
 obtain ⟨X0, y0, X1, y1, X2, y2, X3, y3, hx, l0, _, _, l1, _, _, l2, _, _, l3, _, _⟩ := kM.form h
 injection hx with hx
 have hx := congrArg Array.toList hx
 simp only [List.cons.injEq, Value.slice.injEq, and_true, true_and] at hx
 obtain ⟨⟨rfl, rfl⟩, ⟨rfl, rfl⟩, ⟨rfl, rfl⟩, ⟨rfl, rfl⟩⟩ := hx
 exact ⟨l0, l1, l2, l3⟩
theorem kM.at_ {A : Option Addr} {cap j : Nat} {l : List kM} (h : aW w lo hi 5 kM.aG (.slice A l.length cap) l) (hc : l[j]? = some c) :
 ∃ g off dh bP bM bG bK bC nA kW, A = some ⟨g, off, none⟩ ∧ lo ≤ g ∧ g < hi ∧ c ∈ l ∧ dZ w lo hi kM.aG (.agg #[Value.slice dh c.au.length bP, .slice bM c.records.length bG, .slice bK c.globals.length bC, c.main, .slice nA c.kP.length kW]) c ∧ w.cell? (aj g (off + j * 5)) = some (.slice dh c.au.length bP) ∧ w.cell? (aj g (off + j * 5 + 1)) = some (.slice bM c.records.length bG) ∧ w.cell? (aj g (off + j * 5 + 2)) = some (.slice bK c.globals.length bC) ∧ w.cell? (aj g (off + j * 5 + 3)) = some (.int i64 c.main) ∧ w.cell? (aj g (off + j * 5 + 4)) = some (.slice nA c.kP.length kW) := by
 obtain ⟨g, off, us, hA, h1, h2, h3, h4, h5⟩ := h.elem kM.eD hc
 obtain ⟨B0, m0, B1, m1, B2, m2, B3, m3, hx, l0, _, _, l1, _, _, l2, _, _, l3, _, _⟩ := kM.form (w := w) (lo := lo) (hi := hi) (c := c) (x := .agg us.toArray) ⟨us, rfl, h4⟩
 injection hx with hx
 obtain rfl : us = [_, _, _, _, _] := congrArg Array.toList hx
 exact ⟨g, off, B0, m0, B1, m1, B2, m2, B3, m3, hA, h1, h2, mG hc, kM.mk_ l0 l1 l2 l3, h5 0 _ rfl, h5 1 _ rfl, h5 2 _ rfl, h5 3 _ rfl, h5 4 _ rfl⟩
end
end
end
section
open Go.RowKit
inductive ak where
 | mk (kind op number line : Int) (text : ByteArray) (kids : List ak)
def ak.kind : ak → Int | .mk k _ _ _ _ _ => k
def ak.op : ak → Int | .mk _ o _ _ _ _ => o
def ak.number : ak → Int | .mk _ _ n _ _ _ => n
def ak.line : ak → Int | .mk _ _ _ l _ _ => l
def ak.text : ak → ByteArray | .mk _ _ _ _ t _ => t
def ak.kids : ak → List ak | .mk _ _ _ _ _ ks => ks
theorem ak.ind {P : ak → Prop} (h : ∀ c : ak, (∀ x ∈ c.kids, P x) → P c) (c : ak) : P c :=
 match c with
 | .mk k o n l t kids => h _ fun x _hx => ak.ind h x
termination_by SizeOf.sizeOf c
decreasing_by have := List.sizeOf_lt_of_mem _hx; simp [ak.kids] at this ⊢; omega
mutual
def ak.aG : ak → List Dat
 | .mk k o n l t kids => [.int i64 k, .int i64 o, .int i64 n, .int i64 l, .str t, .row 6 kids.length (iO kids)]
def iO : List ak → List Dat
 | [] => []
 | c :: cs => c.aG ++ iO cs
end
theorem ak.Co (c : ak) : c.aG = [.int i64 c.kind, .int i64 c.op, .int i64 c.number, .int i64 c.line, .str c.text, .row 6 c.kids.length (iO c.kids)] := by
 cases c; simp only [ak.aG, ak.kind, ak.op, ak.number, ak.line, ak.text, ak.kids]
theorem ak.eD (c : ak) : c.aG.length = 6 := by rw [c.Co]; rfl
theorem GK (l : List ak) : (iO l).length = l.length * 6 := by
 induction l with
 | nil => simp [iO]
 | cons c l ih => simp [iO, ak.eD, ih]; omega
theorem GL (a b : List ak) : iO (a ++ b) = iO a ++ iO b := by
 induction a with
 | nil => simp [iO]
 | cons c l ih => simp [iO, ih]
theorem KD {l : List ak} {j : Nat} {c : ak} (h : l[j]? = some c) : iO l = iO (l.take j) ++ (c.aG ++ iO (l.drop (j + 1))) := by
 obtain ⟨hj, rfl⟩ := List.getElem?_eq_some_iff.1 h
 have e : l = l.take j ++ (l[j] :: l.drop (j + 1)) := by rw [← List.drop_eq_getElem_cons hj, List.take_append_drop]
 conv => lhs; rw [e]
 rw [GL]
 simp [iO]
def gX (w : World) (lo hi : Nat) (x : Value) (c : ak) : Prop := kU w lo hi c.aG x
def qM (w : World) (lo hi : Nat) (v : Value) (l : List ak) : Prop := Rep w lo hi (.row 6 l.length (iO l)) v
section
variable {w w' : World} {lo hi : Nat} {x v : Value} {c : ak} {l : List ak}
theorem gX.below {B : Nat} (h : gX w lo hi x c) (hb : Below B w w') (hB : hi ≤ B) : gX w' lo hi x c := kU.below h hb hB
theorem gX.wide {lo' hi' : Nat} (h : gX w lo hi x c) (h1 : lo' ≤ lo) (h2 : hi ≤ hi') : gX w lo' hi' x c := kU.wide h h1 h2
theorem gX.same (h : gX w lo hi x c) (hs : Same w w') : gX w' lo hi x c := kU.same h hs
theorem gX.alloc (h : gX w lo hi x c) (hB : hi ≤ w.heap.size) (o : Obj) : gX (w.alloc o) lo hi x c := kU.alloc h hB o
theorem qM.below {B : Nat} (h : qM w lo hi v l) (hb : Below B w w') (hB : hi ≤ B) : qM w' lo hi v l := Rep.below h hb hB
theorem qM.wide {lo' hi' : Nat} (h : qM w lo hi v l) (h1 : lo' ≤ lo) (h2 : hi ≤ hi') : qM w lo' hi' v l := Rep.wide h h1 h2
theorem qM.same (h : qM w lo hi v l) (hs : Same w w') : qM w' lo hi v l := Rep.same h hs
theorem qM.alloc (h : qM w lo hi v l) (hB : hi ≤ w.heap.size) (o : Obj) : qM (w.alloc o) lo hi v l := Rep.alloc h hB o
theorem qM.shape (h : qM w lo hi v l) : ∃ A c, v = .slice A l.length c ∧ l.length ≤ c ∧ c ≤ maxLen := by
 obtain ⟨A, c, h1, h2, h3, -⟩ := Rep.shape h; exact ⟨A, c, h1, h2, h3⟩
theorem gX.form (h : gX w lo hi x c) : ∃ A cap, x = .agg (aB c.kind c.op c.number c.line c.text A c.kids.length cap) ∧ qM w lo hi (.slice A c.kids.length cap) c.kids ∧ c.kids.length ≤ cap ∧ cap ≤ maxLen := by
 obtain ⟨cs, rfl, h1⟩ := h
 rw [c.Co] at h1
 obtain ⟨v0, t0, rfl, a0, h1⟩ := h1.out
 obtain ⟨v1, t1, rfl, a1, h1⟩ := h1.out
 obtain ⟨v2, t2, rfl, a2, h1⟩ := h1.out
 obtain ⟨v3, t3, rfl, a3, h1⟩ := h1.out
 obtain ⟨v4, t4, rfl, a4, h1⟩ := h1.out
 obtain ⟨v5, t5, rfl, a5, h1⟩ := h1.out
 obtain rfl := h1.jc
 obtain rfl := a0.iF
 obtain rfl := a1.iF
 obtain rfl := a2.iF
 obtain rfl := a3.iF
 obtain rfl := a4.oq
 obtain ⟨A, cap, rfl, g1, g2⟩ := qM.shape a5
 exact ⟨A, cap, rfl, a5, g1, g2⟩
theorem gX.mk_ {A : Option Addr} {cap : Nat} (h : qM w lo hi (.slice A c.kids.length cap) c.kids) : gX w lo hi (.agg (aB c.kind c.op c.number c.line c.text A c.kids.length cap)) c :=
 ⟨[_, _, _, _, _, _], rfl, by
  rw [c.Co]
  exact .aN .mkInt (.aN .mkInt (.aN .mkInt (.aN .mkInt (.aN .mkStr (.aN h .eO)))))⟩
theorem qM.kid {A : Option Addr} {cap j : Nat} (h : qM w lo hi (.slice A l.length cap) l) (hj : j < l.length) :
 ∃ g off c B d, A = some ⟨g, off, none⟩ ∧ lo ≤ g ∧ g < hi ∧ l[j]? = some c ∧ c ∈ l ∧
  gX w lo hi (.agg (aB c.kind c.op c.number c.line c.text B c.kids.length d)) c ∧
  w.cell? (aj g (off + j * 6)) = some (.int i64 c.kind) ∧ w.cell? (aj g (off + j * 6 + 1)) = some (.int i64 c.op) ∧ w.cell? (aj g (off + j * 6 + 2)) = some (.int i64 c.number) ∧ w.cell? (aj g (off + j * 6 + 3)) = some (.int i64 c.line) ∧ w.cell? (aj g (off + j * 6 + 4)) = some (.string c.text) ∧ w.cell? (aj g (off + j * 6 + 5)) = some (.slice B c.kids.length d) := by
 obtain ⟨c, hc⟩ : ∃ c, l[j]? = some c := ⟨_, gE hj⟩
 obtain ⟨g, off, us, hA, h1, h2, h3, h4, h5⟩ := Rep.elem h hj (KD hc) (by rw [GK, List.length_take]; omega) c.eD
 obtain ⟨B, d, hx, h6, -, -⟩ := gX.form (w := w) (lo := lo) (hi := hi) (c := c) (x := .agg us.toArray) ⟨us, rfl, h4⟩
 injection hx with hx
 obtain rfl : us = [_, _, _, _, _, _] := congrArg Array.toList hx
 exact ⟨g, off, c, B, d, hA, h1, h2, hc, mG hc, gX.mk_ h6, h5 0 _ rfl, h5 1 _ rfl, h5 2 _ rfl, h5 3 _ rfl, h5 4 _ rfl, h5 5 _ rfl⟩
end
mutual
def ak.bI : ak → Nat
 | .mk _ _ _ _ t kids => t.size + (kids.length + eT kids)
def eT : List ak → Nat
 | [] => 0
 | c :: cs => c.bI + eT cs
end
theorem ak.kX (c : ak) : c.bI = c.text.size + (c.kids.length + eT c.kids) := by cases c; simp only [ak.bI, ak.text, ak.kids]
theorem zQ (a b : List ak) : eT (a ++ b) = eT a + eT b := by
 induction a with
 | nil => simp [eT]
 | cons c l ih => simp [eT, ih]; omega
theorem xC {l : List ak} {j : Nat} {c : ak} (h : l[j]? = some c) : eT (l.take (j + 1)) = eT (l.take j) + c.bI := by
 rw [gB h, zQ]; simp [eT]
inductive ak.Fits : ak → Prop
 | mk {c : ak} (h : c.text.size ≤ 9223372036854775807) (hk : ∀ x ∈ c.kids, x.Fits) : c.Fits
theorem ak.Fits.text {c : ak} (h : c.Fits) : c.text.size ≤ 9223372036854775807 := by cases h; assumption
theorem ak.Fits.kids {c : ak} (h : c.Fits) : ∀ x ∈ c.kids, x.Fits := by cases h; assumption
theorem qo {l : List ak} {c : ak} (h : c ∈ l) : c.bI ≤ eT l := by
 induction l with
 | nil => cases h
 | cons a l ih =>
   simp only [eT]
   exact yJ
end
end Go.Proofs.YthbcamfejgghhaaGreatDoor
