/- Rows of structs of any one kind: how they read, element by element. Plain lemmas, no program. -/
import Derived.Test.YtekobbeoaalibaaGreatDoorDat
import Derived.Test.YtekobbeoaalibaaGreatDoorLeft
namespace Go.Proofs.YtekobbeoaalibaaGreatDoor
open Go.RowKit

section
variable {α : Type} {f : α → List Dat} {k : Nat}
/-- the cells of the elements, one after the other -/
def flat (f : α → List Dat) (l : List α) : List Dat := l.flatMap f
theorem flat_nil : flat f [] = [] := rfl
theorem flat_cons (c : α) (l : List α) : flat f (c :: l) = f c ++ flat f l := by simp [flat]
theorem flat_app (a b : List α) : flat f (a ++ b) = flat f a ++ flat f b := by simp [flat]
theorem flat_len (hf : ∀ x, (f x).length = k) (l : List α) : (flat f l).length = l.length * k := by
  induction l with
  | nil => simp [flat]
  | cons c l ih => rw [flat_cons, List.length_append, hf, ih, List.length_cons, Nat.succ_mul, Nat.add_comm]
theorem flat_at {l : List α} {j : Nat} {c : α} (h : l[j]? = some c) : flat f l = flat f (l.take j) ++ (f c ++ flat f (l.drop (j + 1))) := by
  obtain ⟨hj, rfl⟩ := List.getElem?_eq_some_iff.1 h
  have e : l = l.take j ++ (l[j] :: l.drop (j + 1)) := by rw [← List.drop_eq_getElem_cons hj, List.take_append_drop]
  conv => lhs; rw [e]
  rw [flat_app, flat_cons]
theorem flat_snoc {l : List α} {j : Nat} {c : α} (h : l[j]? = some c) : flat f (l.take (j + 1)) = flat f (l.take j) ++ f c := by
  rw [take_snoc_of h, flat_app, flat_cons, flat_nil, List.append_nil]
/-- a count over the elements -/
def sumOf (b : α → Nat) : List α → Nat
  | [] => 0
  | c :: l => b c + sumOf b l
theorem sumOf_app (b : α → Nat) (x y : List α) : sumOf b (x ++ y) = sumOf b x + sumOf b y := by
  induction x with
  | nil => simp [sumOf]
  | cons c l ih => simp [sumOf, ih]; omega
theorem sumOf_snoc {b : α → Nat} {l : List α} {j : Nat} {c : α} (h : l[j]? = some c) : sumOf b (l.take (j + 1)) = sumOf b (l.take j) + b c := by
  rw [take_snoc_of h, sumOf_app]; simp [sumOf]
theorem sumOf_take_le (b : α → Nat) (l : List α) (j : Nat) : sumOf b (l.take j) ≤ sumOf b l := by
  have := sumOf_app b (l.take j) (l.drop j)
  rw [List.take_append_drop] at this
  omega
theorem sumOf_mem {b : α → Nat} {l : List α} {c : α} (h : c ∈ l) : b c ≤ sumOf b l := by
  induction l with
  | nil => cases h
  | cons x l ih =>
    simp only [sumOf]
    rcases List.mem_cons.1 h with rfl | h
    · omega
    · have := ih h; omega
end

/-- the slice v reads as the elements l, each of k cells -/
def LRep {α : Type} (w : World) (lo hi k : Nat) (f : α → List Dat) (v : Value) (l : List α) : Prop := Rep w lo hi (.row k l.length (flat f l)) v
/-- the struct value x reads as c -/
def SRep {α : Type} (w : World) (lo hi : Nat) (f : α → List Dat) (x : Value) (c : α) : Prop := ARep w lo hi (f c) x
section
variable {α : Type} {f : α → List Dat} {k : Nat} {w w' : World} {lo hi : Nat} {x v : Value} {c : α} {l : List α}
theorem LRep.keep (h : LRep w lo hi k f v l) (hk : ∀ p : Addr, lo ≤ p.block → p.block < hi → w'.cell? p = w.cell? p) : LRep w' lo hi k f v l := Rep.keep h hk
theorem LRep.below {B : Nat} (h : LRep w lo hi k f v l) (hb : Below B w w') (hB : hi ≤ B) : LRep w' lo hi k f v l := Rep.below h hb hB
theorem LRep.wide {lo' hi' : Nat} (h : LRep w lo hi k f v l) (h1 : lo' ≤ lo) (h2 : hi ≤ hi') : LRep w lo' hi' k f v l := Rep.wide h h1 h2
theorem LRep.same (h : LRep w lo hi k f v l) (hs : Same w w') : LRep w' lo hi k f v l := Rep.same h hs
theorem LRep.alloc (h : LRep w lo hi k f v l) (hB : hi ≤ w.heap.size) (o : Obj) : LRep (w.alloc o) lo hi k f v l := Rep.alloc h hB o
theorem LRep.setFar (h : LRep w lo hi k f v l) {p : Addr} (hp : p.block < lo ∨ hi ≤ p.block) (u : Value) : LRep (w.setCell p u) lo hi k f v l := Rep.setFar h hp u
theorem LRep.grown {row : Option Nat} (h : LRep w lo hi k f v l) (hg : w.grownBy w' row) (hB : hi ≤ w.heap.size) (hr : ∀ g, row = some g → g < lo ∨ hi ≤ g) : LRep w' lo hi k f v l := Rep.grown h hg hB hr
theorem LRep.shape (h : LRep w lo hi k f v l) : ∃ A c, v = .slice A l.length c ∧ l.length ≤ c ∧ c ≤ maxLen := by
  obtain ⟨A, c, h1, h2, h3, -⟩ := Rep.shape h; exact ⟨A, c, h1, h2, h3⟩
theorem SRep.keep (h : SRep w lo hi f x c) (hk : ∀ p : Addr, lo ≤ p.block → p.block < hi → w'.cell? p = w.cell? p) : SRep w' lo hi f x c := ARep.keep h hk
theorem SRep.below {B : Nat} (h : SRep w lo hi f x c) (hb : Below B w w') (hB : hi ≤ B) : SRep w' lo hi f x c := ARep.below h hb hB
theorem SRep.wide {lo' hi' : Nat} (h : SRep w lo hi f x c) (h1 : lo' ≤ lo) (h2 : hi ≤ hi') : SRep w lo' hi' f x c := ARep.wide h h1 h2
theorem SRep.same (h : SRep w lo hi f x c) (hs : Same w w') : SRep w' lo hi f x c := ARep.same h hs
theorem SRep.alloc (h : SRep w lo hi f x c) (hB : hi ≤ w.heap.size) (o : Obj) : SRep (w.alloc o) lo hi f x c := ARep.alloc h hB o
theorem SRep.setFar (h : SRep w lo hi f x c) {p : Addr} (hp : p.block < lo ∨ hi ≤ p.block) (u : Value) : SRep (w.setCell p u) lo hi f x c := ARep.setFar h hp u
theorem SRep.grown {row : Option Nat} (h : SRep w lo hi f x c) (hg : w.grownBy w' row) (hB : hi ≤ w.heap.size) (hr : ∀ g, row = some g → g < lo ∨ hi ≤ g) : SRep w' lo hi f x c := ARep.grown h hg hB hr
/-- element j: where its cells lie and what they read as -/
theorem LRep.elem {A : Option Addr} {cap j : Nat} (hf : ∀ y, (f y).length = k) (h : LRep w lo hi k f (.slice A l.length cap) l) (hc : l[j]? = some c) :
    ∃ g off us, A = some ⟨g, off, none⟩ ∧ lo ≤ g ∧ g < hi ∧ us.length = k ∧ RepL w lo hi (f c) us ∧ ∀ i u, us[i]? = some u → w.cell? ⟨g, off + j * k + i, none⟩ = some u := by
  have hj := (List.getElem?_eq_some_iff.1 hc).1
  exact Rep.elem h hj (flat_at hc) (by rw [flat_len hf, List.length_take, Nat.min_eq_left (by omega)]) (hf c)
end
/-- a row of texts -/
def strDats (s : ByteArray) : List Dat := [.str s]
theorem strDats_len (s : ByteArray) : (strDats s).length = 1 := rfl
theorem LRep.text {w : World} {lo hi cap j : Nat} {A : Option Addr} {l : List ByteArray} {s : ByteArray} (h : LRep w lo hi 1 strDats (.slice A l.length cap) l) (hc : l[j]? = some s) :
    ∃ g off, A = some ⟨g, off, none⟩ ∧ lo ≤ g ∧ g < hi ∧ w.cell? ⟨g, off + j, none⟩ = some (.string s) := by
  obtain ⟨g, off, us, hA, h1, h2, h3, h4, h5⟩ := h.elem strDats_len hc
  obtain ⟨v0, t0, rfl, a0, h4⟩ := RepL.out h4
  obtain rfl := a0.str_
  refine ⟨g, off, hA, h1, h2, ?_⟩
  have := h5 0 _ rfl
  rwa [Nat.mul_one, Nat.add_zero] at this
/-- a row of whole numbers -/
def intDats (n : Int) : List Dat := [.int .i64 n]
theorem intDats_len (n : Int) : (intDats n).length = 1 := rfl
theorem LRep.num {w : World} {lo hi cap j : Nat} {A : Option Addr} {l : List Int} {s : Int} (h : LRep w lo hi 1 intDats (.slice A l.length cap) l) (hc : l[j]? = some s) :
    ∃ g off, A = some ⟨g, off, none⟩ ∧ lo ≤ g ∧ g < hi ∧ w.cell? ⟨g, off + j, none⟩ = some (.int .i64 s) := by
  obtain ⟨g, off, us, hA, h1, h2, h3, h4, h5⟩ := h.elem intDats_len hc
  obtain ⟨v0, t0, rfl, a0, h4⟩ := RepL.out h4
  obtain rfl := a0.int_
  refine ⟨g, off, hA, h1, h2, ?_⟩
  have := h5 0 _ rfl
  rwa [Nat.mul_one, Nat.add_zero] at this
theorem strDats_cells {w : World} {lo hi : Nat} : ∀ {l : List ByteArray} {vs : List Value}, RepL w lo hi (flat strDats l) vs ↔ vs = l.map .string
  | [], vs => by simp [flat, RepL]
  | s :: l, vs => by
    rw [flat_cons]
    constructor
    · intro h
      obtain ⟨v, vs', rfl, h1, h2⟩ := RepL.out (d := .str s) (ds := flat strDats l) h
      obtain rfl := h1.str_
      rw [strDats_cells.1 h2]; rfl
    · intro h
      subst h
      exact RepL.cons_ Rep.mkStr (strDats_cells.2 rfl)
theorem LRep.rds {w : World} {lo hi : Nat} {v : Value} {l : List ByteArray} : LRep w lo hi 1 strDats v l ↔ Rds w lo hi 1 v l.length (l.map .string) := by
  constructor
  · intro h
    obtain ⟨vs, h1, h2⟩ := Rep.row_ h
    rw [strDats_cells.1 h2] at h1
    exact h1
  · intro h
    exact Rep.mkRow h (strDats_cells.2 rfl)
/-- three boxes: the argument, the result, the local variable -/
structure TFrm (w W : World) (t1 t2 : TypeId) (pc rc oc : Array Value) : Prop where
  bel : Below w.heap.size w W
  arg : Blk W w.heap.size t1 pc
  res : Blk W (w.heap.size + 1) t2 rc
  var : Blk W (w.heap.size + 1 + 1) t2 oc
theorem TFrm.new (w : World) (t1 t2 : TypeId) (pc rc oc : Array Value) : TFrm w (((w.alloc (.cells pc t1)).alloc (.cells rc t2)).alloc (.cells oc t2)) t1 t2 pc rc oc :=
  ⟨(((Below.refl _ _).alloc (Nat.le_refl _) _).alloc (by simp) _).alloc (by simp; omega) _, ((Blk.new w _ _).alloc _).alloc _, (Blk.newAt _ _ _ _ (by simp)).alloc _, Blk.newAt _ _ _ _ (by simp)⟩
theorem TFrm.later {w W W' : World} {t1 t2 : TypeId} {pc rc oc : Array Value} (h : TFrm w W t1 t2 pc rc oc) (hb : Below W.heap.size W W') : TFrm w W' t1 t2 pc rc oc :=
  ⟨h.bel.trans (hb.mono h.bel.size), h.arg.later hb, h.res.later hb, h.var.later hb⟩
theorem TFrm.set {w W : World} {t1 t2 : TypeId} {pc rc oc : Array Value} (h : TFrm w W t1 t2 pc rc oc) (i : Nat) (u : Value) : TFrm w (W.setCell ⟨w.heap.size + 1 + 1, i, none⟩ u) t1 t2 pc rc (oc.setIfInBounds i u) :=
  ⟨h.bel.setCell (by simp; omega) _, h.arg.far (by simp; omega) _, h.res.far (by simp) _, h.var.set_ i u⟩
/-- a struct result of the call's own making -/
def OwnS {α : Type} (f : α → List Dat) (c : α) (w : World) (e : Ending) (w' : World) : Prop := ∃ x, e = .returned x ∧ SRep w' w.heap.size w'.heap.size f x c ∧ Below w.heap.size w w'
/-- a slice result of the call's own making -/
def OwnL {α : Type} (k : Nat) (f : α → List Dat) (l : List α) (w : World) (e : Ending) (w' : World) : Prop := ∃ v, e = .returned v ∧ LRep w' w.heap.size w'.heap.size k f v l ∧ Below w.heap.size w w'
end Go.Proofs.YtekobbeoaalibaaGreatDoor
