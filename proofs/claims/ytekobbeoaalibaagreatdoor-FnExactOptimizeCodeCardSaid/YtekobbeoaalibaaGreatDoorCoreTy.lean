/- Core trees in memory: the plain words and readings. No program. -/
import Derived.Test.YtekobbeoaalibaaGreatDoorDat
import Derived.Test.YtekobbeoaalibaaGreatDoorLeft
namespace Go.Proofs.YtekobbeoaalibaaGreatDoor
open Go.RowKit

inductive CoreT where
  | mk (kind op number line : Int) (text : ByteArray) (kids : List CoreT)
def CoreT.kind : CoreT → Int | .mk k _ _ _ _ _ => k
def CoreT.op : CoreT → Int | .mk _ o _ _ _ _ => o
def CoreT.number : CoreT → Int | .mk _ _ n _ _ _ => n
def CoreT.line : CoreT → Int | .mk _ _ _ l _ _ => l
def CoreT.text : CoreT → ByteArray | .mk _ _ _ _ t _ => t
def CoreT.kids : CoreT → List CoreT | .mk _ _ _ _ _ ks => ks
theorem CoreT.ind {P : CoreT → Prop} (h : ∀ c : CoreT, (∀ x ∈ c.kids, P x) → P c) (c : CoreT) : P c :=
  match c with
  | .mk k o n l t kids => h _ fun x _hx => CoreT.ind h x
termination_by SizeOf.sizeOf c
decreasing_by have := List.sizeOf_lt_of_mem _hx; simp [CoreT.kids] at this ⊢; omega

mutual
def CoreT.dats : CoreT → List Dat
  | .mk k o n l t kids => [.int .i64 k, .int .i64 o, .int .i64 n, .int .i64 l, .str t, .row 6 kids.length (coreDats kids)]
def coreDats : List CoreT → List Dat
  | [] => []
  | c :: cs => c.dats ++ coreDats cs
end
theorem CoreT.dats_eq (c : CoreT) : c.dats = [.int .i64 c.kind, .int .i64 c.op, .int .i64 c.number, .int .i64 c.line, .str c.text, .row 6 c.kids.length (coreDats c.kids)] := by
  cases c; simp only [CoreT.dats, CoreT.kind, CoreT.op, CoreT.number, CoreT.line, CoreT.text, CoreT.kids]
theorem CoreT.dats_len (c : CoreT) : c.dats.length = 6 := by rw [c.dats_eq]; rfl
theorem coreDats_len (l : List CoreT) : (coreDats l).length = l.length * 6 := by
  induction l with
  | nil => simp [coreDats]
  | cons c l ih => simp [coreDats, CoreT.dats_len, ih]; omega
theorem coreDats_app (a b : List CoreT) : coreDats (a ++ b) = coreDats a ++ coreDats b := by
  induction a with
  | nil => simp [coreDats]
  | cons c l ih => simp [coreDats, ih]
theorem coreDats_at {l : List CoreT} {j : Nat} {c : CoreT} (h : l[j]? = some c) : coreDats l = coreDats (l.take j) ++ (c.dats ++ coreDats (l.drop (j + 1))) := by
  obtain ⟨hj, rfl⟩ := List.getElem?_eq_some_iff.1 h
  have e : l = l.take j ++ (l[j] :: l.drop (j + 1)) := by rw [← List.drop_eq_getElem_cons hj, List.take_append_drop]
  conv => lhs; rw [e]
  rw [coreDats_app]
  simp [coreDats]

/-- the struct value x reads as the tree c -/
def CRep (w : World) (lo hi : Nat) (x : Value) (c : CoreT) : Prop := ARep w lo hi c.dats x
/-- the slice v reads as the trees l -/
def KRep (w : World) (lo hi : Nat) (v : Value) (l : List CoreT) : Prop := Rep w lo hi (.row 6 l.length (coreDats l)) v
section
variable {w w' : World} {lo hi : Nat} {x v : Value} {c : CoreT} {l : List CoreT}
theorem CRep.below {B : Nat} (h : CRep w lo hi x c) (hb : Below B w w') (hB : hi ≤ B) : CRep w' lo hi x c := ARep.below h hb hB
theorem CRep.wide {lo' hi' : Nat} (h : CRep w lo hi x c) (h1 : lo' ≤ lo) (h2 : hi ≤ hi') : CRep w lo' hi' x c := ARep.wide h h1 h2
theorem CRep.same (h : CRep w lo hi x c) (hs : Same w w') : CRep w' lo hi x c := ARep.same h hs
theorem CRep.alloc (h : CRep w lo hi x c) (hB : hi ≤ w.heap.size) (o : Obj) : CRep (w.alloc o) lo hi x c := ARep.alloc h hB o
theorem KRep.below {B : Nat} (h : KRep w lo hi v l) (hb : Below B w w') (hB : hi ≤ B) : KRep w' lo hi v l := Rep.below h hb hB
theorem KRep.wide {lo' hi' : Nat} (h : KRep w lo hi v l) (h1 : lo' ≤ lo) (h2 : hi ≤ hi') : KRep w lo' hi' v l := Rep.wide h h1 h2
theorem KRep.same (h : KRep w lo hi v l) (hs : Same w w') : KRep w' lo hi v l := Rep.same h hs
theorem KRep.alloc (h : KRep w lo hi v l) (hB : hi ≤ w.heap.size) (o : Obj) : KRep (w.alloc o) lo hi v l := Rep.alloc h hB o
theorem KRep.shape (h : KRep w lo hi v l) : ∃ A c, v = .slice A l.length c ∧ l.length ≤ c ∧ c ≤ maxLen := by
  obtain ⟨A, c, h1, h2, h3, -⟩ := Rep.shape h; exact ⟨A, c, h1, h2, h3⟩
theorem CRep.form (h : CRep w lo hi x c) : ∃ A cap, x = .agg #[.int .i64 c.kind, .int .i64 c.op, .int .i64 c.number, .int .i64 c.line, .string c.text, .slice A c.kids.length cap] ∧ KRep w lo hi (.slice A c.kids.length cap) c.kids ∧ c.kids.length ≤ cap ∧ cap ≤ maxLen := by
  obtain ⟨cs, rfl, h1⟩ := h
  rw [c.dats_eq] at h1
  obtain ⟨v0, t0, rfl, a0, h1⟩ := h1.out
  obtain ⟨v1, t1, rfl, a1, h1⟩ := h1.out
  obtain ⟨v2, t2, rfl, a2, h1⟩ := h1.out
  obtain ⟨v3, t3, rfl, a3, h1⟩ := h1.out
  obtain ⟨v4, t4, rfl, a4, h1⟩ := h1.out
  obtain ⟨v5, t5, rfl, a5, h1⟩ := h1.out
  obtain rfl := h1.outNil
  obtain rfl := a0.int_
  obtain rfl := a1.int_
  obtain rfl := a2.int_
  obtain rfl := a3.int_
  obtain rfl := a4.str_
  obtain ⟨A, cap, rfl, g1, g2⟩ := KRep.shape a5
  exact ⟨A, cap, rfl, a5, g1, g2⟩
theorem CRep.mk_ {A : Option Addr} {cap : Nat} (h : KRep w lo hi (.slice A c.kids.length cap) c.kids) : CRep w lo hi (.agg #[.int .i64 c.kind, .int .i64 c.op, .int .i64 c.number, .int .i64 c.line, .string c.text, .slice A c.kids.length cap]) c :=
  ⟨[_, _, _, _, _, _], rfl, by
    rw [c.dats_eq]
    exact .cons_ .mkInt (.cons_ .mkInt (.cons_ .mkInt (.cons_ .mkInt (.cons_ .mkStr (.cons_ h .nil_)))))⟩
/-- kid j: its tree, and its six cells -/
theorem KRep.kid {A : Option Addr} {cap j : Nat} (h : KRep w lo hi (.slice A l.length cap) l) (hj : j < l.length) :
    ∃ g off c B d, A = some ⟨g, off, none⟩ ∧ lo ≤ g ∧ g < hi ∧ l[j]? = some c ∧ c ∈ l ∧
      CRep w lo hi (.agg #[.int .i64 c.kind, .int .i64 c.op, .int .i64 c.number, .int .i64 c.line, .string c.text, .slice B c.kids.length d]) c ∧
      w.cell? ⟨g, off + j * 6, none⟩ = some (.int .i64 c.kind) ∧ w.cell? ⟨g, off + j * 6 + 1, none⟩ = some (.int .i64 c.op) ∧ w.cell? ⟨g, off + j * 6 + 2, none⟩ = some (.int .i64 c.number) ∧ w.cell? ⟨g, off + j * 6 + 3, none⟩ = some (.int .i64 c.line) ∧ w.cell? ⟨g, off + j * 6 + 4, none⟩ = some (.string c.text) ∧ w.cell? ⟨g, off + j * 6 + 5, none⟩ = some (.slice B c.kids.length d) := by
  obtain ⟨c, hc⟩ : ∃ c, l[j]? = some c := ⟨_, List.getElem?_eq_getElem hj⟩
  obtain ⟨g, off, us, hA, h1, h2, h3, h4, h5⟩ := Rep.elem h hj (coreDats_at hc) (by rw [coreDats_len, List.length_take]; omega) c.dats_len
  obtain ⟨B, d, hx, h6, -, -⟩ := CRep.form (w := w) (lo := lo) (hi := hi) (c := c) (x := .agg us.toArray) ⟨us, rfl, h4⟩
  injection hx with hx
  obtain rfl : us = [_, _, _, _, _, _] := congrArg Array.toList hx
  exact ⟨g, off, c, B, d, hA, h1, h2, hc, List.mem_of_getElem? hc, CRep.mk_ h6, h5 0 _ rfl, h5 1 _ rfl, h5 2 _ rfl, h5 3 _ rfl, h5 4 _ rfl, h5 5 _ rfl⟩
end

mutual
/-- what szCore counts -/
def CoreT.bulk : CoreT → Nat
  | .mk _ _ _ _ t kids => t.size + (kids.length + bulkL kids)
def bulkL : List CoreT → Nat
  | [] => 0
  | c :: cs => c.bulk + bulkL cs
end
theorem CoreT.bulk_eq (c : CoreT) : c.bulk = c.text.size + (c.kids.length + bulkL c.kids) := by cases c; simp only [CoreT.bulk, CoreT.text, CoreT.kids]
theorem bulkL_app (a b : List CoreT) : bulkL (a ++ b) = bulkL a + bulkL b := by
  induction a with
  | nil => simp [bulkL]
  | cons c l ih => simp [bulkL, ih]; omega
theorem bulkL_snoc {l : List CoreT} {j : Nat} {c : CoreT} (h : l[j]? = some c) : bulkL (l.take (j + 1)) = bulkL (l.take j) + c.bulk := by
  rw [take_snoc_of h, bulkL_app]; simp [bulkL]
theorem bulkL_take_le (l : List CoreT) (j : Nat) : bulkL (l.take j) ≤ bulkL l := by
  have := bulkL_app (l.take j) (l.drop j)
  rw [List.take_append_drop] at this
  omega
/-- every text is of a length that an int holds -/
inductive CoreT.Fits : CoreT → Prop
  | mk {c : CoreT} (h : c.text.size ≤ 9223372036854775807) (hk : ∀ x ∈ c.kids, x.Fits) : c.Fits
theorem CoreT.Fits.text {c : CoreT} (h : c.Fits) : c.text.size ≤ 9223372036854775807 := by cases h; assumption
theorem CoreT.Fits.kids {c : CoreT} (h : c.Fits) : ∀ x ∈ c.kids, x.Fits := by cases h; assumption
theorem bulk_mem {l : List CoreT} {c : CoreT} (h : c ∈ l) : c.bulk ≤ bulkL l := by
  induction l with
  | nil => cases h
  | cons a l ih =>
    simp only [bulkL]
    rcases List.mem_cons.1 h with rfl | h
    · omega
    · have := ih h; omega
theorem bulk_kid {c x : CoreT} (h : x ∈ c.kids) : x.bulk ≤ c.bulk := by
  have := bulk_mem h
  rw [c.bulk_eq]; omega
end Go.Proofs.YtekobbeoaalibaaGreatDoor
