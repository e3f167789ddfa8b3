/- Data in memory: one-cell data (numbers, texts, flags, rows of structs), and how a value reads as such. Plain lemmas, no program. -/
import Derived.Test.YtekobbeoaalibaaGreatDoorMem
namespace Go.Proofs.YtekobbeoaalibaaGreatDoor
open Go.RowKit

/-- what one cell can read as; a row: n elements of size cells each -/
inductive Dat where
  | int (k : IntKind) (n : Int)
  | str (s : ByteArray)
  | bool (b : Bool)
  | row (size n : Nat) (ds : List Dat)

mutual
/-- the value v reads as d, all that it leads to in blocks from lo on and below hi -/
def Rep (w : World) (lo hi : Nat) : Dat → Value → Prop
  | .int k n, v => v = .int k n
  | .str s, v => v = .string s
  | .bool b, v => v = .bool b
  | .row size n ds, v => ∃ vs, Rds w lo hi size v n vs ∧ RepL w lo hi ds vs
def RepL (w : World) (lo hi : Nat) : List Dat → List Value → Prop
  | [], vs => vs = []
  | d :: ds, vs => ∃ v vs', vs = v :: vs' ∧ Rep w lo hi d v ∧ RepL w lo hi ds vs'
end

section
variable {w w' : World} {lo hi : Nat}
mutual
theorem Rep.mono {lo' hi' : Nat} (hk : ∀ (size n : Nat) (v : Value) (vs : List Value), Rds w lo hi size v n vs → Rds w' lo' hi' size v n vs) : ∀ (d : Dat) (v : Value), Rep w lo hi d v → Rep w' lo' hi' d v
  | .int _ _, _, h => by simp only [Rep] at h ⊢; exact h
  | .str _, _, h => by simp only [Rep] at h ⊢; exact h
  | .bool _, _, h => by simp only [Rep] at h ⊢; exact h
  | .row size n ds, v, h => by
    simp only [Rep] at h ⊢
    obtain ⟨vs, h1, h2⟩ := h
    exact ⟨vs, hk _ _ _ _ h1, RepL.mono hk ds vs h2⟩
theorem RepL.mono {lo' hi' : Nat} (hk : ∀ (size n : Nat) (v : Value) (vs : List Value), Rds w lo hi size v n vs → Rds w' lo' hi' size v n vs) : ∀ (ds : List Dat) (vs : List Value), RepL w lo hi ds vs → RepL w' lo' hi' ds vs
  | [], _, h => by simp only [RepL] at h ⊢; exact h
  | d :: ds, _, h => by
    simp only [RepL] at h ⊢
    obtain ⟨v, vs', rfl, h1, h2⟩ := h
    exact ⟨v, vs', rfl, Rep.mono hk d v h1, RepL.mono hk ds vs' h2⟩
end
theorem Rep.keep {d : Dat} {v : Value} (h : Rep w lo hi d v) (hk : ∀ p : Addr, lo ≤ p.block → p.block < hi → w'.cell? p = w.cell? p) : Rep w' lo hi d v := Rep.mono (fun _ _ _ _ hr => hr.keep hk) d v h
theorem RepL.keep {ds : List Dat} {vs : List Value} (h : RepL w lo hi ds vs) (hk : ∀ p : Addr, lo ≤ p.block → p.block < hi → w'.cell? p = w.cell? p) : RepL w' lo hi ds vs := RepL.mono (fun _ _ _ _ hr => hr.keep hk) ds vs h
theorem Rep.below {B : Nat} {d : Dat} {v : Value} (h : Rep w lo hi d v) (hb : Below B w w') (hB : hi ≤ B) : Rep w' lo hi d v := h.keep fun _ _ hp => hb.cell (by omega)
theorem RepL.below {B : Nat} {ds : List Dat} {vs : List Value} (h : RepL w lo hi ds vs) (hb : Below B w w') (hB : hi ≤ B) : RepL w' lo hi ds vs := h.keep fun _ _ hp => hb.cell (by omega)
theorem Rep.same {d : Dat} {v : Value} (h : Rep w lo hi d v) (hs : Same w w') : Rep w' lo hi d v := h.keep fun p _ _ => hs.cell p
theorem RepL.same {ds : List Dat} {vs : List Value} (h : RepL w lo hi ds vs) (hs : Same w w') : RepL w' lo hi ds vs := h.keep fun p _ _ => hs.cell p
theorem Rep.wide {lo' hi' : Nat} {d : Dat} {v : Value} (h : Rep w lo hi d v) (h1 : lo' ≤ lo) (h2 : hi ≤ hi') : Rep w lo' hi' d v := Rep.mono (fun _ _ _ _ hr => hr.wide h1 h2) d v h
theorem RepL.wide {lo' hi' : Nat} {ds : List Dat} {vs : List Value} (h : RepL w lo hi ds vs) (h1 : lo' ≤ lo) (h2 : hi ≤ hi') : RepL w lo' hi' ds vs := RepL.mono (fun _ _ _ _ hr => hr.wide h1 h2) ds vs h
theorem Rep.alloc {d : Dat} {v : Value} (h : Rep w lo hi d v) (hB : hi ≤ w.heap.size) (o : Obj) : Rep (w.alloc o) lo hi d v := h.below ((Below.refl w.heap.size w).alloc (Nat.le_refl _) o) hB
theorem RepL.alloc {ds : List Dat} {vs : List Value} (h : RepL w lo hi ds vs) (hB : hi ≤ w.heap.size) (o : Obj) : RepL (w.alloc o) lo hi ds vs := h.below ((Below.refl w.heap.size w).alloc (Nat.le_refl _) o) hB
theorem Rep.setFar {d : Dat} {v : Value} (h : Rep w lo hi d v) {p : Addr} (hp : p.block < lo ∨ hi ≤ p.block) (u : Value) : Rep (w.setCell p u) lo hi d v := Rep.mono (fun _ _ _ _ hr => hr.setFar hp u) d v h
theorem RepL.setFar {ds : List Dat} {vs : List Value} (h : RepL w lo hi ds vs) {p : Addr} (hp : p.block < lo ∨ hi ≤ p.block) (u : Value) : RepL (w.setCell p u) lo hi ds vs := RepL.mono (fun _ _ _ _ hr => hr.setFar hp u) ds vs h
theorem Rep.grown {row : Option Nat} {d : Dat} {v : Value} (h : Rep w lo hi d v) (hg : w.grownBy w' row) (hB : hi ≤ w.heap.size) (hr : ∀ g, row = some g → g < lo ∨ hi ≤ g) : Rep w' lo hi d v := Rep.mono (fun _ _ _ _ h => h.grown hg hB hr) d v h
theorem RepL.grown {row : Option Nat} {ds : List Dat} {vs : List Value} (h : RepL w lo hi ds vs) (hg : w.grownBy w' row) (hB : hi ≤ w.heap.size) (hr : ∀ g, row = some g → g < lo ∨ hi ≤ g) : RepL w' lo hi ds vs := RepL.mono (fun _ _ _ _ h => h.grown hg hB hr) ds vs h

theorem RepL.len : ∀ {ds : List Dat} {vs : List Value}, RepL w lo hi ds vs → vs.length = ds.length
  | [], _, h => by simp only [RepL] at h; subst h; rfl
  | _ :: ds, _, h => by
    simp only [RepL] at h
    obtain ⟨v, vs', rfl, _, h2⟩ := h
    simp [RepL.len h2]
theorem RepL.app : ∀ {ds es : List Dat} {vs us : List Value}, RepL w lo hi ds vs → RepL w lo hi es us → RepL w lo hi (ds ++ es) (vs ++ us)
  | [], _, _, _, h, h' => by simp only [RepL] at h; subst h; exact h'
  | _ :: ds, _, _, _, h, h' => by
    simp only [RepL, List.cons_append] at h ⊢
    obtain ⟨v, vs', rfl, h1, h2⟩ := h
    exact ⟨v, vs' ++ _, rfl, h1, RepL.app h2 h'⟩
/-- the cells of the first part of two, and of the rest -/
theorem RepL.parts : ∀ {ds es : List Dat} {vs : List Value}, RepL w lo hi (ds ++ es) vs → RepL w lo hi ds (vs.take ds.length) ∧ RepL w lo hi es (vs.drop ds.length)
  | [], _, _, h => by simpa [RepL] using h
  | d :: ds, _, _, h => by
    simp only [RepL, List.cons_append] at h ⊢
    obtain ⟨v, vs', rfl, h1, h2⟩ := h
    obtain ⟨g1, g2⟩ := RepL.parts h2
    exact ⟨⟨v, _, by simp, h1, g1⟩, by simpa using g2⟩
theorem RepL.nil_ : RepL w lo hi [] [] := by simp only [RepL]
theorem RepL.cons_ {d : Dat} {ds : List Dat} {v : Value} {vs : List Value} (h : Rep w lo hi d v) (h' : RepL w lo hi ds vs) : RepL w lo hi (d :: ds) (v :: vs) := by simp only [RepL]; exact ⟨v, vs, rfl, h, h'⟩
theorem RepL.out {d : Dat} {ds : List Dat} {vs : List Value} (h : RepL w lo hi (d :: ds) vs) : ∃ v vs', vs = v :: vs' ∧ Rep w lo hi d v ∧ RepL w lo hi ds vs' := by simpa only [RepL] using h
theorem RepL.outNil {vs : List Value} (h : RepL w lo hi [] vs) : vs = [] := by simpa only [RepL] using h
theorem Rep.int_ {k : IntKind} {n : Int} {v : Value} (h : Rep w lo hi (.int k n) v) : v = .int k n := by simpa only [Rep] using h
theorem Rep.str_ {s : ByteArray} {v : Value} (h : Rep w lo hi (.str s) v) : v = .string s := by simpa only [Rep] using h
theorem Rep.bool_ {b : Bool} {v : Value} (h : Rep w lo hi (.bool b) v) : v = .bool b := by simpa only [Rep] using h
theorem Rep.row_ {size n : Nat} {ds : List Dat} {v : Value} (h : Rep w lo hi (.row size n ds) v) : ∃ vs, Rds w lo hi size v n vs ∧ RepL w lo hi ds vs := by simpa only [Rep] using h
theorem Rep.mkInt {k : IntKind} {n : Int} : Rep w lo hi (.int k n) (.int k n) := by simp only [Rep]
theorem Rep.mkStr {s : ByteArray} : Rep w lo hi (.str s) (.string s) := by simp only [Rep]
theorem Rep.mkBool {b : Bool} : Rep w lo hi (.bool b) (.bool b) := by simp only [Rep]
theorem Rep.mkRow {size n : Nat} {ds : List Dat} {v : Value} {vs : List Value} (h : Rds w lo hi size v n vs) (h' : RepL w lo hi ds vs) : Rep w lo hi (.row size n ds) v := by simp only [Rep]; exact ⟨vs, h, h'⟩
theorem Rep.shape {size n : Nat} {ds : List Dat} {v : Value} (h : Rep w lo hi (.row size n ds) v) : ∃ A c, v = .slice A n c ∧ n ≤ c ∧ c ≤ maxLen ∧ ds.length = n * size := by
  obtain ⟨vs, h1, h2⟩ := h.row_
  obtain ⟨A, c, hv, g1, g2, g3⟩ := h1.shape
  exact ⟨A, c, hv, g1, g2, by rw [← h2.len, g3]⟩
/-- element j of a row: where its cells lie and what they read as -/
theorem Rep.elem {size n j : Nat} {ds a e b : List Dat} {A : Option Addr} {c : Nat} (h : Rep w lo hi (.row size n ds) (.slice A n c)) (hj : j < n) (hds : ds = a ++ (e ++ b)) (ha : a.length = j * size) (he : e.length = size) :
    ∃ g off us, A = some ⟨g, off, none⟩ ∧ lo ≤ g ∧ g < hi ∧ us.length = size ∧ RepL w lo hi e us ∧ ∀ i u, us[i]? = some u → w.cell? ⟨g, off + j * size + i, none⟩ = some u := by
  obtain ⟨vs, h1, h2⟩ := h.row_
  subst hds
  obtain ⟨-, g2⟩ := h2.parts
  obtain ⟨g3, -⟩ := g2.parts
  obtain ⟨A', c', hv, k1, k2, k3, -, k4⟩ := h1
  injection hv with hA _ hc
  subst hA hc
  obtain ⟨g, off, hA, hg1, hg2, hcell⟩ := k4 (by omega)
  refine ⟨g, off, _, hA, hg1, hg2, by rw [g3.len, he], g3, fun i u hu => ?_⟩
  rw [List.getElem?_take] at hu
  split at hu
  · rw [List.getElem?_drop, ha] at hu
    rw [Nat.add_assoc]
    exact hcell _ u hu
  · cases hu
end

/-- the struct value x reads as the cells ds -/
def ARep (w : World) (lo hi : Nat) (ds : List Dat) (x : Value) : Prop := ∃ cs : List Value, x = .agg cs.toArray ∧ RepL w lo hi ds cs
section
variable {w w' : World} {lo hi : Nat} {ds : List Dat} {x : Value}
theorem ARep.keep (h : ARep w lo hi ds x) (hk : ∀ p : Addr, lo ≤ p.block → p.block < hi → w'.cell? p = w.cell? p) : ARep w' lo hi ds x := by obtain ⟨cs, hx, h1⟩ := h; exact ⟨cs, hx, h1.keep hk⟩
theorem ARep.below {B : Nat} (h : ARep w lo hi ds x) (hb : Below B w w') (hB : hi ≤ B) : ARep w' lo hi ds x := h.keep fun _ _ hp => hb.cell (by omega)
theorem ARep.same (h : ARep w lo hi ds x) (hs : Same w w') : ARep w' lo hi ds x := h.keep fun p _ _ => hs.cell p
theorem ARep.wide {lo' hi' : Nat} (h : ARep w lo hi ds x) (h1 : lo' ≤ lo) (h2 : hi ≤ hi') : ARep w lo' hi' ds x := by obtain ⟨cs, hx, g⟩ := h; exact ⟨cs, hx, g.wide h1 h2⟩
theorem ARep.alloc (h : ARep w lo hi ds x) (hB : hi ≤ w.heap.size) (o : Obj) : ARep (w.alloc o) lo hi ds x := h.below ((Below.refl w.heap.size w).alloc (Nat.le_refl _) o) hB
theorem ARep.setFar (h : ARep w lo hi ds x) {p : Addr} (hp : p.block < lo ∨ hi ≤ p.block) (u : Value) : ARep (w.setCell p u) lo hi ds x := by obtain ⟨cs, hx, g⟩ := h; exact ⟨cs, hx, g.setFar hp u⟩
theorem ARep.grown {row : Option Nat} (h : ARep w lo hi ds x) (hg : w.grownBy w' row) (hB : hi ≤ w.heap.size) (hr : ∀ g, row = some g → g < lo ∨ hi ≤ g) : ARep w' lo hi ds x := by obtain ⟨cs, hx, g⟩ := h; exact ⟨cs, hx, g.grown hg hB hr⟩
end
/-- cells p, p + 1, .. of block g written one after the other -/
def putAll (w : World) (g : Nat) : Nat → List Value → World
  | _, [] => w
  | p, u :: us => putAll (w.setCell ⟨g, p, none⟩ u) g (p + 1) us
def setAll : List Value → Nat → List Value → List Value
  | xs, _, [] => xs
  | xs, p, u :: us => setAll (xs.set p u) (p + 1) us
theorem own_putAll {base : Nat} {e : TypeId} {size n cap g : Nat} : ∀ (us : List Value) (w : World) (xs : List Value) (p : Nat), w.ownsRow base e size (.slice (some ⟨g, 0, none⟩) n cap) n xs → (putAll w g p us).ownsRow base e size (.slice (some ⟨g, 0, none⟩) n cap) n (setAll xs p us)
  | [], _, _, _, h => h
  | u :: us, _, _, p, h => own_putAll us _ _ (p + 1) (h.stored p u).1
theorem below_putAll {B g : Nat} (hg : B ≤ g) : ∀ (us : List Value) (w0 w : World) (p : Nat), Below B w0 w → Below B w0 (putAll w g p us)
  | [], _, _, _, h => h
  | u :: us, _, _, p, h => below_putAll hg us _ _ (p + 1) (h.setCell (p := ⟨g, p, none⟩) hg u)
theorem putAll_size (g : Nat) : ∀ (us : List Value) (w : World) (p : Nat), (putAll w g p us).heap.size = w.heap.size
  | [], _, _ => rfl
  | u :: us, w, p => (putAll_size g us _ (p + 1)).trans (by simp [World.setCell])
theorem RepL.putAll {lo hi g : Nat} {ds : List Dat} {vs : List Value} (hg : g < lo ∨ hi ≤ g) : ∀ (us : List Value) (w : World) (p : Nat), RepL w lo hi ds vs → RepL (putAll w g p us) lo hi ds vs
  | [], _, _, h => h
  | u :: us, _, p, h => RepL.putAll hg us _ (p + 1) (h.setFar (p := ⟨g, p, none⟩) hg u)
theorem setAll_fill {Z : List Value} : ∀ (us vs : List Value) (p : Nat), vs.length = p → p + us.length ≤ Z.length → setAll (vs ++ Z.drop p) p us = (vs ++ us) ++ Z.drop (p + us.length)
  | [], vs, p, _, _ => by simp [setAll]
  | u :: us, vs, p, hv, hz => by
    simp only [List.length_cons] at hz
    rw [setAll]
    have e : (vs ++ Z.drop p).set p u = (vs ++ [u]) ++ Z.drop (p + 1) := by
      rw [List.set_append_right _ _ (by omega), hv, Nat.sub_self, List.drop_eq_getElem_cons (by omega), List.set_cons_zero]
      simp
    rw [e, setAll_fill us (vs ++ [u]) (p + 1) (by simp [hv]) (by omega)]
    simp [Nat.add_assoc, Nat.add_comm 1]
theorem own_later {w w' : World} {base : Nat} {e : TypeId} {size n : Nat} {v : Value} {xs : List Value} (h : w.ownsRow base e size v n xs) (hb : Below w.heap.size w w') : w'.ownsRow base e size v n xs :=
  h.kept (grown_of_below hb none) (by cases v.ownBlock <;> simp)
/-- a cell of a row of the call's own: it is there, and it may be written -/
theorem own_at {w : World} {base : Nat} {e : TypeId} {size n g cap : Nat} {xs : List Value} (h : w.ownsRow base e size (.slice (some ⟨g, 0, none⟩) n cap) n xs) (j : Nat) (hj : j < n * size) : (∃ u, w.cell? ⟨g, j, none⟩ = some u) ∧ w.frozen? ⟨g, j, none⟩ = false :=
  ⟨⟨_, (h.cellAt j hj).trans (List.getElem?_eq_getElem (by rw [h.1]; exact hj))⟩, h.frozenAt j⟩
end Go.Proofs.YtekobbeoaalibaaGreatDoor
