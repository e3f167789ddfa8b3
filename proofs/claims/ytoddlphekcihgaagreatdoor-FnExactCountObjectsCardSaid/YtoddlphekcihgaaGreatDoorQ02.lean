/- Data in memory: one-cell data (numbers, texts, flags, rows of structs), and how a value reads as such. Plain lemmas, no program. What is left of a fT: the p -/
import Derived.Test.YtoddlphekcihgaaGreatDoorQSr
import Derived.Test.YtoddlphekcihgaaGreatDoorProg
import Derived.Test.YtoddlphekcihgaaGreatDoorShelf
import Derived.Lib.LaidTab
import Derived.WideMake
import Derived.MapKept
import Derived.StillTail
import Derived.Deep.RegionHeld3
import Derived.Deep.MidRow
set_option maxRecDepth 100000
set_option maxHeartbeats 8000000
set_option linter.unusedVariables false
set_option linter.unusedSimpArgs false
namespace Go.Proofs.YtoddlphekcihgaaGreatDoor
section
open Go.RowKit
inductive Dat where
 | int (k : IntKind) (n : Int)
 | str (s : ByteArray)
 | bool (b : Bool)
 | row (size n : Nat) (ds : List Dat)
mutual
def Rep (w : World) (lo hi : Nat) : Dat → Value → Prop
 | .int k n, v => v = .int k n
 | .str s, v => v = .string s
 | .bool b, v => v = .bool b
 | .row size n ds, v => ∃ vs, Rds w lo hi size v n vs ∧ eU w lo hi ds vs
def eU (w : World) (lo hi : Nat) : List Dat → List Value → Prop
 | [], vs => vs = []
 | d :: ds, vs => ∃ v vs', vs = v :: vs' ∧ Rep w lo hi d v ∧ eU w lo hi ds vs'
end
section
variable {w w' : World} {lo hi : Nat}
mutual
theorem Rep.mono {lo' hi' : Nat} (hk : ∀ (size n : Nat) (v : Value) (vs : List Value), Rds w lo hi size v n vs → Rds w' lo' hi' size v n vs) : ∀ (d : Dat) (v : Value), Rep w lo hi d v → Rep w' lo' hi' d v
 | .int _ _, _, h => by simp only [Rep] at h ⊢; exact h
 | .str _, _, h => by simp only [Rep] at h ⊢; exact h
 | .bool _, _, h => by simp only [Rep] at h ⊢; exact h
 | .row size n ds, v, h => by
   simp only [Rep] at h ⊢
   obtain ⟨vs, h1, h2⟩ := h
   exact ⟨vs, hk _ _ _ _ h1, eU.mono hk ds vs h2⟩
theorem eU.mono {lo' hi' : Nat} (hk : ∀ (size n : Nat) (v : Value) (vs : List Value), Rds w lo hi size v n vs → Rds w' lo' hi' size v n vs) : ∀ (ds : List Dat) (vs : List Value), eU w lo hi ds vs → eU w' lo' hi' ds vs
 | [], _, h => by simp only [eU] at h ⊢; exact h
 | d :: ds, _, h => by
   simp only [eU] at h ⊢
   obtain ⟨v, vs', rfl, h1, h2⟩ := h
   exact ⟨v, vs', rfl, Rep.mono hk d v h1, eU.mono hk ds vs' h2⟩
end
theorem Rep.keep {d : Dat} {v : Value} (h : Rep w lo hi d v) (hk : ∀ p : Addr, lo ≤ p.block → p.block < hi → w'.cell? p = w.cell? p) : Rep w' lo hi d v := Rep.mono (fun _ _ _ _ hr => hr.keep hk) d v h
theorem eU.keep {ds : List Dat} {vs : List Value} (h : eU w lo hi ds vs) (hk : ∀ p : Addr, lo ≤ p.block → p.block < hi → w'.cell? p = w.cell? p) : eU w' lo hi ds vs := eU.mono (fun _ _ _ _ hr => hr.keep hk) ds vs h
theorem Rep.below {B : Nat} {d : Dat} {v : Value} (h : Rep w lo hi d v) (hb : Below B w w') (hB : hi ≤ B) : Rep w' lo hi d v := h.keep fun _ _ hp => hb.cell (by omega)
theorem eU.below {B : Nat} {ds : List Dat} {vs : List Value} (h : eU w lo hi ds vs) (hb : Below B w w') (hB : hi ≤ B) : eU w' lo hi ds vs := h.keep fun _ _ hp => hb.cell (by omega)
theorem Rep.same {d : Dat} {v : Value} (h : Rep w lo hi d v) (hs : Same w w') : Rep w' lo hi d v := h.keep fun p _ _ => hs.cell p
theorem eU.same {ds : List Dat} {vs : List Value} (h : eU w lo hi ds vs) (hs : Same w w') : eU w' lo hi ds vs := h.keep fun p _ _ => hs.cell p
theorem Rep.wide {lo' hi' : Nat} {d : Dat} {v : Value} (h : Rep w lo hi d v) (h1 : lo' ≤ lo) (h2 : hi ≤ hi') : Rep w lo' hi' d v := Rep.mono (fun _ _ _ _ hr => hr.wide h1 h2) d v h
theorem eU.wide {lo' hi' : Nat} {ds : List Dat} {vs : List Value} (h : eU w lo hi ds vs) (h1 : lo' ≤ lo) (h2 : hi ≤ hi') : eU w lo' hi' ds vs := eU.mono (fun _ _ _ _ hr => hr.wide h1 h2) ds vs h
theorem Rep.alloc {d : Dat} {v : Value} (h : Rep w lo hi d v) (hB : hi ≤ w.heap.size) (o : Obj) : Rep (w.alloc o) lo hi d v := h.below ((Below.refl w.heap.size w).alloc (Nat.le_refl _) o) hB
theorem eU.alloc {ds : List Dat} {vs : List Value} (h : eU w lo hi ds vs) (hB : hi ≤ w.heap.size) (o : Obj) : eU (w.alloc o) lo hi ds vs := h.below ((Below.refl w.heap.size w).alloc (Nat.le_refl _) o) hB
theorem Rep.eY {d : Dat} {v : Value} (h : Rep w lo hi d v) {p : Addr} (hp : p.block < lo ∨ hi ≤ p.block) (u : Value) : Rep (w.setCell p u) lo hi d v := Rep.mono (fun _ _ _ _ hr => hr.eY hp u) d v h
theorem eU.eY {ds : List Dat} {vs : List Value} (h : eU w lo hi ds vs) {p : Addr} (hp : p.block < lo ∨ hi ≤ p.block) (u : Value) : eU (w.setCell p u) lo hi ds vs := eU.mono (fun _ _ _ _ hr => hr.eY hp u) ds vs h
theorem Rep.grown {row : Option Nat} {d : Dat} {v : Value} (h : Rep w lo hi d v) (hg : w.grownBy w' row) (hB : hi ≤ w.heap.size) (hr : ∀ g, row = some g → g < lo ∨ hi ≤ g) : Rep w' lo hi d v := Rep.mono (fun _ _ _ _ h => h.grown hg hB hr) d v h
theorem eU.grown {row : Option Nat} {ds : List Dat} {vs : List Value} (h : eU w lo hi ds vs) (hg : w.grownBy w' row) (hB : hi ≤ w.heap.size) (hr : ∀ g, row = some g → g < lo ∨ hi ≤ g) : eU w' lo hi ds vs := eU.mono (fun _ _ _ _ h => h.grown hg hB hr) ds vs h
theorem eU.len : ∀ {ds : List Dat} {vs : List Value}, eU w lo hi ds vs → vs.length = ds.length
 | [], _, h => by simp only [eU] at h; subst h; rfl
 | _ :: ds, _, h => by
   simp only [eU] at h
   obtain ⟨v, vs', rfl, _, h2⟩ := h
   simp [eU.len h2]
theorem eU.app : ∀ {ds es : List Dat} {vs us : List Value}, eU w lo hi ds vs → eU w lo hi es us → eU w lo hi (ds ++ es) (vs ++ us)
 | [], _, _, _, h, h' => by simp only [eU] at h; subst h; exact h'
 | _ :: ds, _, _, _, h, h' => by
   simp only [eU, List.cons_append] at h ⊢
   obtain ⟨v, vs', rfl, h1, h2⟩ := h
   exact ⟨v, vs' ++ _, rfl, h1, eU.app h2 h'⟩
theorem eU.parts : ∀ {ds es : List Dat} {vs : List Value}, eU w lo hi (ds ++ es) vs → eU w lo hi ds (vs.take ds.length) ∧ eU w lo hi es (vs.drop ds.length)
 | [], _, _, h => by simpa [eU] using h
 | d :: ds, _, _, h => by
   simp only [eU, List.cons_append] at h ⊢
   obtain ⟨v, vs', rfl, h1, h2⟩ := h
   obtain ⟨g1, g2⟩ := eU.parts h2
   exact ⟨⟨v, _, by simp, h1, g1⟩, by simpa using g2⟩
theorem eU.lu : eU w lo hi [] [] := by simp only [eU]
theorem eU.dJ {d : Dat} {ds : List Dat} {v : Value} {vs : List Value} (h : Rep w lo hi d v) (h' : eU w lo hi ds vs) : eU w lo hi (d :: ds) (v :: vs) := by simp only [eU]; exact ⟨v, vs, rfl, h, h'⟩
theorem eU.out {d : Dat} {ds : List Dat} {vs : List Value} (h : eU w lo hi (d :: ds) vs) : ∃ v vs', vs = v :: vs' ∧ Rep w lo hi d v ∧ eU w lo hi ds vs' := by simpa only [eU] using h
theorem eU.qI {vs : List Value} (h : eU w lo hi [] vs) : vs = [] := by simpa only [eU] using h
theorem Rep.gG {k : IntKind} {n : Int} {v : Value} (h : Rep w lo hi (.int k n) v) : v = .int k n := by simpa only [Rep] using h
theorem Rep.wD {s : ByteArray} {v : Value} (h : Rep w lo hi (.str s) v) : v = .string s := by simpa only [Rep] using h
theorem Rep.Ga {b : Bool} {v : Value} (h : Rep w lo hi (.bool b) v) : v = .bool b := by simpa only [Rep] using h
theorem Rep.rR {size n : Nat} {ds : List Dat} {v : Value} (h : Rep w lo hi (.row size n ds) v) : ∃ vs, Rds w lo hi size v n vs ∧ eU w lo hi ds vs := by simpa only [Rep] using h
theorem Rep.mkInt {k : IntKind} {n : Int} : Rep w lo hi (.int k n) (.int k n) := by simp only [Rep]
theorem Rep.mkStr {s : ByteArray} : Rep w lo hi (.str s) (.string s) := by simp only [Rep]
theorem Rep.zL {b : Bool} : Rep w lo hi (.bool b) (.bool b) := by simp only [Rep]
theorem Rep.u7 {size n : Nat} {ds : List Dat} {v : Value} {vs : List Value} (h : Rds w lo hi size v n vs) (h' : eU w lo hi ds vs) : Rep w lo hi (.row size n ds) v := by simp only [Rep]; exact ⟨vs, h, h'⟩
theorem Rep.shape {size n : Nat} {ds : List Dat} {v : Value} (h : Rep w lo hi (.row size n ds) v) : ∃ A c, v = .slice A n c ∧ n ≤ c ∧ c ≤ maxLen ∧ ds.length = n * size := by
 obtain ⟨vs, h1, h2⟩ := h.rR
 obtain ⟨A, c, hv, g1, g2, g3⟩ := h1.shape
 exact ⟨A, c, hv, g1, g2, by rw [← h2.len, g3]⟩
theorem Rep.elem {size n j : Nat} {ds a e b : List Dat} {A : Option Addr} {c : Nat} (h : Rep w lo hi (.row size n ds) (.slice A n c)) (hj : j < n) (hds : ds = a ++ (e ++ b)) (ha : a.length = j * size) (he : e.length = size) :
 ∃ g off us, A = some ⟨g, off, none⟩ ∧ lo ≤ g ∧ g < hi ∧ us.length = size ∧ eU w lo hi e us ∧ ∀ i u, us[i]? = some u → w.cell? ⟨g, off + j * size + i, none⟩ = some u := by
 obtain ⟨vs, h1, h2⟩ := h.rR
 subst hds
 obtain ⟨-, g2⟩ := h2.parts
 obtain ⟨g3, -⟩ := g2.parts
 obtain ⟨A', c', hv, k1, k2, k3, -, k4⟩ := h1
 injection hv with hA _ hc
 subst hA hc
 obtain ⟨g, off, hA, hg1, hg2, hcell⟩ := k4 (by omega)
 refine ⟨g, off, _, hA, hg1, hg2, by rw [g3.len, he], g3, fun i u hu => ?_⟩
 rw [List.getElem?_take] at hu
 split at hu
 ·rw [List.getElem?_drop, ha] at hu
  rw [Nat.add_assoc]
  exact hcell _ u hu
 ·cases hu
end
def rT (w : World) (lo hi : Nat) (ds : List Dat) (x : Value) : Prop := ∃ cs : List Value, x = .agg cs.toArray ∧ eU w lo hi ds cs
section
variable {w w' : World} {lo hi : Nat} {ds : List Dat} {x : Value}
theorem rT.keep (h : rT w lo hi ds x) (hk : ∀ p : Addr, lo ≤ p.block → p.block < hi → w'.cell? p = w.cell? p) : rT w' lo hi ds x := by obtain ⟨cs, hx, h1⟩ := h; exact ⟨cs, hx, h1.keep hk⟩
theorem rT.below {B : Nat} (h : rT w lo hi ds x) (hb : Below B w w') (hB : hi ≤ B) : rT w' lo hi ds x := h.keep fun _ _ hp => hb.cell (by omega)
theorem rT.same (h : rT w lo hi ds x) (hs : Same w w') : rT w' lo hi ds x := h.keep fun p _ _ => hs.cell p
theorem rT.wide {lo' hi' : Nat} (h : rT w lo hi ds x) (h1 : lo' ≤ lo) (h2 : hi ≤ hi') : rT w lo' hi' ds x := by obtain ⟨cs, hx, g⟩ := h; exact ⟨cs, hx, g.wide h1 h2⟩
theorem rT.alloc (h : rT w lo hi ds x) (hB : hi ≤ w.heap.size) (o : Obj) : rT (w.alloc o) lo hi ds x := h.below ((Below.refl w.heap.size w).alloc (Nat.le_refl _) o) hB
theorem rT.eY (h : rT w lo hi ds x) {p : Addr} (hp : p.block < lo ∨ hi ≤ p.block) (u : Value) : rT (w.setCell p u) lo hi ds x := by obtain ⟨cs, hx, g⟩ := h; exact ⟨cs, hx, g.eY hp u⟩
theorem rT.grown {row : Option Nat} (h : rT w lo hi ds x) (hg : w.grownBy w' row) (hB : hi ≤ w.heap.size) (hr : ∀ g, row = some g → g < lo ∨ hi ≤ g) : rT w' lo hi ds x := by obtain ⟨cs, hx, g⟩ := h; exact ⟨cs, hx, g.grown hg hB hr⟩
end
def gq (w : World) (g : Nat) : Nat → List Value → World
 | _, [] => w
 | p, u :: us => gq (w.setCell ⟨g, p, none⟩ u) g (p + 1) us
def yE : List Value → Nat → List Value → List Value
 | xs, _, [] => xs
 | xs, p, u :: us => yE (xs.set p u) (p + 1) us
theorem qc {base : Nat} {e : TypeId} {size n cap g : Nat} : ∀ (us : List Value) (w : World) (xs : List Value) (p : Nat), w.ownsRow base e size (.slice (some ⟨g, 0, none⟩) n cap) n xs → (gq w g p us).ownsRow base e size (.slice (some ⟨g, 0, none⟩) n cap) n (yE xs p us)
 | [], _, _, _, h => h
 | u :: us, _, _, p, h => qc us _ _ (p + 1) (h.stored p u).1
theorem lK {B g : Nat} (hg : B ≤ g) : ∀ (us : List Value) (w0 w : World) (p : Nat), Below B w0 w → Below B w0 (gq w g p us)
 | [], _, _, _, h => h
 | u :: us, _, _, p, h => lK hg us _ _ (p + 1) (h.setCell (p := ⟨g, p, none⟩) hg u)
theorem kK (g : Nat) : ∀ (us : List Value) (w : World) (p : Nat), (gq w g p us).heap.size = w.heap.size
 | [], _, _ => rfl
 | u :: us, w, p => (kK g us _ (p + 1)).trans (by simp [World.setCell])
theorem eU.gq {lo hi g : Nat} {ds : List Dat} {vs : List Value} (hg : g < lo ∨ hi ≤ g) : ∀ (us : List Value) (w : World) (p : Nat), eU w lo hi ds vs → eU (gq w g p us) lo hi ds vs
 | [], _, _, h => h
 | u :: us, _, p, h => eU.gq hg us _ (p + 1) (h.eY (p := ⟨g, p, none⟩) hg u)
theorem oq {Z : List Value} : ∀ (us vs : List Value) (p : Nat), vs.length = p → p + us.length ≤ Z.length → yE (vs ++ Z.drop p) p us = (vs ++ us) ++ Z.drop (p + us.length)
 | [], vs, p, _, _ => by simp [yE]
 | u :: us, vs, p, hv, hz => by
   simp only [List.length_cons] at hz
   rw [yE]
   have e : (vs ++ Z.drop p).set p u = (vs ++ [u]) ++ Z.drop (p + 1) := by
    rw [List.set_append_right _ _ (by omega), hv, Nat.sub_self, List.drop_eq_getElem_cons (by omega), List.set_cons_zero]
    simp
   rw [e, oq us (vs ++ [u]) (p + 1) (by simp [hv]) (by omega)]
   simp [Nat.add_assoc, Nat.add_comm 1]
theorem pG {w w' : World} {base : Nat} {e : TypeId} {size n : Nat} {v : Value} {xs : List Value} (h : w.ownsRow base e size v n xs) (hb : Below w.heap.size w w') : w'.ownsRow base e size v n xs :=
 h.kept (BJ hb none) (by cases v.ownBlock <;> simp)
theorem gM {w : World} {base : Nat} {e : TypeId} {size n g cap : Nat} {xs : List Value} (h : w.ownsRow base e size (.slice (some ⟨g, 0, none⟩) n cap) n xs) (j : Nat) (hj : j < n * size) : (∃ u, w.cell? ⟨g, j, none⟩ = some u) ∧ w.frozen? ⟨g, j, none⟩ = false :=
 ⟨⟨_, (h.cellAt j hj).trans (List.getElem?_eq_getElem (by rw [h.1]; exact hj))⟩, h.frozenAt j⟩
end
def leftOf (left : Int) (b : Nat) : Int := if left < b then -1 else left - b
theorem dM {left : Int} {b : Nat} (h : left < b) : leftOf left b = -1 := by simp [leftOf, h]
theorem ep {left : Int} {b : Nat} (h : ¬ left < b) : leftOf left b = left - b := by simp [leftOf, h]
section
open Go.RowKit
section
variable {α : Type} {f : α → List Dat} {k : Nat}
def flat (f : α → List Dat) (l : List α) : List Dat := l.flatMap f
theorem oP : flat f [] = [] := rfl
theorem ru (c : α) (l : List α) : flat f (c :: l) = f c ++ flat f l := by simp [flat]
theorem xD (a b : List α) : flat f (a ++ b) = flat f a ++ flat f b := by simp [flat]
theorem qJ (hf : ∀ x, (f x).length = k) (l : List α) : (flat f l).length = l.length * k := by
 induction l with
 | nil => simp [flat]
 | cons c l ih => rw [ru, List.length_append, hf, ih, List.length_cons, Nat.succ_mul, Nat.add_comm]
theorem M7 {l : List α} {j : Nat} {c : α} (h : l[j]? = some c) : flat f l = flat f (l.take j) ++ (f c ++ flat f (l.drop (j + 1))) := by
 obtain ⟨hj, rfl⟩ := List.getElem?_eq_some_iff.1 h
 have e : l = l.take j ++ (l[j] :: l.drop (j + 1)) := by rw [← List.drop_eq_getElem_cons hj, List.take_append_drop]
 conv => lhs; rw [e]
 rw [xD, ru]
theorem rz {l : List α} {j : Nat} {c : α} (h : l[j]? = some c) : flat f (l.take (j + 1)) = flat f (l.take j) ++ f c := by
 rw [qB h, xD, ru, oP, List.append_nil]
def sumOf (b : α → Nat) : List α → Nat
 | [] => 0
 | c :: l => b c + sumOf b l
theorem Ef (b : α → Nat) (x y : List α) : sumOf b (x ++ y) = sumOf b x + sumOf b y := by
 induction x with
 | nil => simp [sumOf]
 | cons c l ih => simp [sumOf, ih]; omega
theorem rM {b : α → Nat} {l : List α} {j : Nat} {c : α} (h : l[j]? = some c) : sumOf b (l.take (j + 1)) = sumOf b (l.take j) + b c := by
 rw [qB h, Ef]; simp [sumOf]
theorem pX (b : α → Nat) (l : List α) (j : Nat) : sumOf b (l.take j) ≤ sumOf b l := by
 have := Ef b (l.take j) (l.drop j)
 rw [List.take_append_drop] at this
 omega
theorem qK {b : α → Nat} {l : List α} {c : α} (h : c ∈ l) : b c ≤ sumOf b l := by
 induction l with
 | nil => cases h
 | cons x l ih =>
   simp only [sumOf]
   rcases List.mem_cons.1 h with rfl | h
   ·omega
   ·have := ih h; omega
end
def dz {α : Type} (w : World) (lo hi k : Nat) (f : α → List Dat) (v : Value) (l : List α) : Prop := Rep w lo hi (.row k l.length (flat f l)) v
def fA {α : Type} (w : World) (lo hi : Nat) (f : α → List Dat) (x : Value) (c : α) : Prop := rT w lo hi (f c) x
section
variable {α : Type} {f : α → List Dat} {k : Nat} {w w' : World} {lo hi : Nat} {x v : Value} {c : α} {l : List α}
theorem dz.keep (h : dz w lo hi k f v l) (hk : ∀ p : Addr, lo ≤ p.block → p.block < hi → w'.cell? p = w.cell? p) : dz w' lo hi k f v l := Rep.keep h hk
theorem dz.below {B : Nat} (h : dz w lo hi k f v l) (hb : Below B w w') (hB : hi ≤ B) : dz w' lo hi k f v l := Rep.below h hb hB
theorem dz.wide {lo' hi' : Nat} (h : dz w lo hi k f v l) (h1 : lo' ≤ lo) (h2 : hi ≤ hi') : dz w lo' hi' k f v l := Rep.wide h h1 h2
theorem dz.same (h : dz w lo hi k f v l) (hs : Same w w') : dz w' lo hi k f v l := Rep.same h hs
theorem dz.alloc (h : dz w lo hi k f v l) (hB : hi ≤ w.heap.size) (o : Obj) : dz (w.alloc o) lo hi k f v l := Rep.alloc h hB o
theorem dz.eY (h : dz w lo hi k f v l) {p : Addr} (hp : p.block < lo ∨ hi ≤ p.block) (u : Value) : dz (w.setCell p u) lo hi k f v l := Rep.eY h hp u
theorem dz.grown {row : Option Nat} (h : dz w lo hi k f v l) (hg : w.grownBy w' row) (hB : hi ≤ w.heap.size) (hr : ∀ g, row = some g → g < lo ∨ hi ≤ g) : dz w' lo hi k f v l := Rep.grown h hg hB hr
theorem dz.shape (h : dz w lo hi k f v l) : ∃ A c, v = .slice A l.length c ∧ l.length ≤ c ∧ c ≤ maxLen := by
 obtain ⟨A, c, h1, h2, h3, -⟩ := Rep.shape h; exact ⟨A, c, h1, h2, h3⟩
theorem fA.keep (h : fA w lo hi f x c) (hk : ∀ p : Addr, lo ≤ p.block → p.block < hi → w'.cell? p = w.cell? p) : fA w' lo hi f x c := rT.keep h hk
theorem fA.below {B : Nat} (h : fA w lo hi f x c) (hb : Below B w w') (hB : hi ≤ B) : fA w' lo hi f x c := rT.below h hb hB
theorem fA.wide {lo' hi' : Nat} (h : fA w lo hi f x c) (h1 : lo' ≤ lo) (h2 : hi ≤ hi') : fA w lo' hi' f x c := rT.wide h h1 h2
theorem fA.same (h : fA w lo hi f x c) (hs : Same w w') : fA w' lo hi f x c := rT.same h hs
theorem fA.alloc (h : fA w lo hi f x c) (hB : hi ≤ w.heap.size) (o : Obj) : fA (w.alloc o) lo hi f x c := rT.alloc h hB o
theorem fA.eY (h : fA w lo hi f x c) {p : Addr} (hp : p.block < lo ∨ hi ≤ p.block) (u : Value) : fA (w.setCell p u) lo hi f x c := rT.eY h hp u
theorem fA.grown {row : Option Nat} (h : fA w lo hi f x c) (hg : w.grownBy w' row) (hB : hi ≤ w.heap.size) (hr : ∀ g, row = some g → g < lo ∨ hi ≤ g) : fA w' lo hi f x c := rT.grown h hg hB hr
theorem dz.elem {A : Option Addr} {cap j : Nat} (hf : ∀ y, (f y).length = k) (h : dz w lo hi k f (.slice A l.length cap) l) (hc : l[j]? = some c) :
 ∃ g off us, A = some ⟨g, off, none⟩ ∧ lo ≤ g ∧ g < hi ∧ us.length = k ∧ eU w lo hi (f c) us ∧ ∀ i u, us[i]? = some u → w.cell? ⟨g, off + j * k + i, none⟩ = some u := by
 have hj := (List.getElem?_eq_some_iff.1 hc).1
 exact Rep.elem h hj (M7 hc) (by rw [qJ hf, List.length_take, Nat.min_eq_left (by omega)]) (hf c)
end
def eF (s : ByteArray) : List Dat := [.str s]
theorem Gb (s : ByteArray) : (eF s).length = 1 := rfl
theorem dz.text {w : World} {lo hi cap j : Nat} {A : Option Addr} {l : List ByteArray} {s : ByteArray} (h : dz w lo hi 1 eF (.slice A l.length cap) l) (hc : l[j]? = some s) :
 ∃ g off, A = some ⟨g, off, none⟩ ∧ lo ≤ g ∧ g < hi ∧ w.cell? ⟨g, off + j, none⟩ = some (.string s) := by
 obtain ⟨g, off, us, hA, h1, h2, h3, h4, h5⟩ := h.elem Gb hc
 obtain ⟨v0, t0, rfl, a0, h4⟩ := eU.out h4
 obtain rfl := a0.wD
 refine ⟨g, off, hA, h1, h2, ?_⟩
 have := h5 0 _ rfl
 rwa [Nat.mul_one, Nat.add_zero] at this
def gW (n : Int) : List Dat := [.int .i64 n]
theorem Gc (n : Int) : (gW n).length = 1 := rfl
def oL (_ : Int) : Nat := 0
theorem wN {α : Type} {b : α → Nat} (h : ∀ c, b c = 0) (l : List α) : sumOf b l = 0 := by
 induction l with
 | nil => rfl
 | cons c l ih => simp only [sumOf, h, ih]
theorem dz.num {w : World} {lo hi cap j : Nat} {A : Option Addr} {l : List Int} {s : Int} (h : dz w lo hi 1 gW (.slice A l.length cap) l) (hc : l[j]? = some s) :
 ∃ g off, A = some ⟨g, off, none⟩ ∧ lo ≤ g ∧ g < hi ∧ w.cell? ⟨g, off + j, none⟩ = some (.int .i64 s) := by
 obtain ⟨g, off, us, hA, h1, h2, h3, h4, h5⟩ := h.elem Gc hc
 obtain ⟨v0, t0, rfl, a0, h4⟩ := eU.out h4
 obtain rfl := a0.gG
 refine ⟨g, off, hA, h1, h2, ?_⟩
 have := h5 0 _ rfl
 rwa [Nat.mul_one, Nat.add_zero] at this
theorem uH {w : World} {lo hi : Nat} : ∀ {l : List ByteArray} {vs : List Value}, eU w lo hi (flat eF l) vs ↔ vs = l.map .string
 | [], vs => by simp [flat, eU]
 | s :: l, vs => by
   rw [ru]
   constructor
   ·intro h
    obtain ⟨v, vs', rfl, h1, h2⟩ := eU.out (d := .str s) (ds := flat eF l) h
    obtain rfl := h1.wD
    rw [uH.1 h2]; rfl
   ·intro h
    subst h
    exact eU.dJ Rep.mkStr (uH.2 rfl)
theorem dz.rds {w : World} {lo hi : Nat} {v : Value} {l : List ByteArray} : dz w lo hi 1 eF v l ↔ Rds w lo hi 1 v l.length (l.map .string) := by
 constructor
 ·intro h
  obtain ⟨vs, h1, h2⟩ := Rep.rR h
  rw [uH.1 h2] at h1
  exact h1
 ·intro h
  exact Rep.u7 h (uH.2 rfl)
structure rZ (w W : World) (t1 t2 : TypeId) (pc rc oc : Array Value) : Prop where
 bel : Below w.heap.size w W
 arg : Blk W w.heap.size t1 pc
 res : Blk W (w.heap.size + 1) t2 rc
 var : Blk W (w.heap.size + 1 + 1) t2 oc
theorem rZ.new (w : World) (t1 t2 : TypeId) (pc rc oc : Array Value) : rZ w (((w.alloc (.cells pc t1)).alloc (.cells rc t2)).alloc (.cells oc t2)) t1 t2 pc rc oc :=
 ⟨((bA _ _).alloc (by simp) _).alloc (by simp; omega) _, ((Blk.new w _ _).alloc _).alloc _, (Blk.newAt _ _ _ _ (by simp)).alloc _, Blk.newAt _ _ _ _ (by simp)⟩
theorem rZ.later {w W W' : World} {t1 t2 : TypeId} {pc rc oc : Array Value} (h : rZ w W t1 t2 pc rc oc) (hb : Below W.heap.size W W') : rZ w W' t1 t2 pc rc oc :=
 ⟨h.bel.trans (hb.mono h.bel.size), h.arg.later hb, h.res.later hb, h.var.later hb⟩
theorem rZ.set {w W : World} {t1 t2 : TypeId} {pc rc oc : Array Value} (h : rZ w W t1 t2 pc rc oc) (i : Nat) (u : Value) : rZ w (W.setCell ⟨w.heap.size + 1 + 1, i, none⟩ u) t1 t2 pc rc (oc.setIfInBounds i u) :=
 ⟨h.bel.setCell (by simp; omega) _, h.arg.far (by simp; omega) _, h.res.far (by simp) _, h.var.M6 i u⟩
theorem rZ.rJ {w W : World} {t1 t2 : TypeId} {pc rc oc : Array Value} (h : rZ w W t1 t2 pc rc oc) : (∀ i, W.cell? ⟨w.heap.size, i, none⟩ = pc[i]?) ∧ (∀ i, W.cell? ⟨w.heap.size + 1 + 1, i, none⟩ = oc[i]?) ∧ (∀ i, W.frozen? ⟨w.heap.size + 1 + 1, i, none⟩ = false) ∧ (∀ i, W.cell? ⟨w.heap.size + 1, i, none⟩ = rc[i]?) ∧ (∀ i, W.frozen? ⟨w.heap.size + 1, i, none⟩ = false) ∧ w.heap.size < W.heap.size ∧ w.heap.size + 1 + 1 < W.heap.size :=
 ⟨h.arg.cell, h.var.cell, h.var.frozen, h.res.cell, h.res.frozen, h.arg.lt, h.var.lt⟩
def Ro {α : Type} (f : α → List Dat) (c : α) (w : World) (e : Ending) (w' : World) : Prop := ∃ x, e = .returned x ∧ fA w' w.heap.size w'.heap.size f x c ∧ Below w.heap.size w w'
def Uq {α : Type} (k : Nat) (f : α → List Dat) (l : List α) (w : World) (e : Ending) (w' : World) : Prop := ∃ v, e = .returned v ∧ dz w' w.heap.size w'.heap.size k f v l ∧ Below w.heap.size w w'
end
section
section
open Go.RowKit
structure jF where
 name : ByteArray
 params : Int
 slots : Int
 entry : Int
def jF.ay (c : jF) : List Dat := [.str c.name, .int .i64 c.params, .int .i64 c.slots, .int .i64 c.entry]
theorem jF.gK (c : jF) : c.ay.length = 4 := rfl
def jF.dX (c : jF) : Nat := c.name.size
def jF.Fits (c : jF) : Prop := (c.name.size ≤ 9223372036854775807)
section
variable {w : World} {lo hi : Nat} {x : Value} {c : jF}
theorem jF.form (h : fA w lo hi jF.ay x c) : x = .agg #[Value.string c.name, .int .i64 c.params, .int .i64 c.slots, .int .i64 c.entry] := by
 obtain ⟨cs, rfl, h1⟩ := h
 unfold jF.ay at h1
 obtain ⟨v0, t0, rfl, a0, h1⟩ := h1.out
 obtain ⟨v1, t1, rfl, a1, h1⟩ := h1.out
 obtain ⟨v2, t2, rfl, a2, h1⟩ := h1.out
 obtain ⟨v3, t3, rfl, a3, h1⟩ := h1.out
 obtain rfl := h1.qI
 obtain rfl := a0.wD
 obtain rfl := a1.gG
 obtain rfl := a2.gG
 obtain rfl := a3.gG
 exact rfl
theorem jF.mk_  : fA w lo hi jF.ay (.agg #[Value.string c.name, .int .i64 c.params, .int .i64 c.slots, .int .i64 c.entry]) c :=
 ⟨[_, _, _, _], rfl, .dJ .mkStr (.dJ .mkInt (.dJ .mkInt (.dJ .mkInt .lu)))⟩
theorem jF.at_ {A : Option Addr} {cap j : Nat} {l : List jF} (h : dz w lo hi 4 jF.ay (.slice A l.length cap) l) (hc : l[j]? = some c) :
 ∃ g off, A = some ⟨g, off, none⟩ ∧ lo ≤ g ∧ g < hi ∧ c ∈ l ∧ fA w lo hi jF.ay (.agg #[Value.string c.name, .int .i64 c.params, .int .i64 c.slots, .int .i64 c.entry]) c ∧ w.cell? ⟨g, off + j * 4, none⟩ = some (.string c.name) ∧ w.cell? ⟨g, off + j * 4 + 1, none⟩ = some (.int .i64 c.params) ∧ w.cell? ⟨g, off + j * 4 + 2, none⟩ = some (.int .i64 c.slots) ∧ w.cell? ⟨g, off + j * 4 + 3, none⟩ = some (.int .i64 c.entry) := by
 obtain ⟨g, off, us, hA, h1, h2, h3, h4, h5⟩ := h.elem jF.gK hc
 obtain hx := jF.form (w := w) (lo := lo) (hi := hi) (c := c) (x := .agg us.toArray) ⟨us, rfl, h4⟩
 injection hx with hx
 obtain rfl : us = [_, _, _, _] := congrArg Array.toList hx
 exact ⟨g, off, hA, h1, h2, mG hc, jF.mk_, h5 0 _ rfl, h5 1 _ rfl, h5 2 _ rfl, h5 3 _ rfl⟩
end
end
section
open Go.RowKit
structure gU where
 name : ByteArray
 fields : List ByteArray
 line : Int
def gU.ay (c : gU) : List Dat := [.str c.name, .row 1 c.fields.length (flat eF c.fields), .int .i64 c.line]
theorem gU.gK (c : gU) : c.ay.length = 3 := rfl
def gU.dX (c : gU) : Nat := c.name.size + (c.fields.length + sumOf ByteArray.size c.fields)
def gU.Fits (c : gU) : Prop := (c.name.size ≤ 9223372036854775807) ∧ (∀ s ∈ c.fields, s.size ≤ 9223372036854775807)
section
variable {w : World} {lo hi : Nat} {x : Value} {c : gU}
theorem gU.form (h : fA w lo hi gU.ay x c) : ∃ lX nfields, x = .agg #[Value.string c.name, .slice lX c.fields.length nfields, .int .i64 c.line] ∧ dz w lo hi 1 eF (.slice lX c.fields.length nfields) c.fields ∧ c.fields.length ≤ nfields ∧ nfields ≤ maxLen := by
 obtain ⟨cs, rfl, h1⟩ := h
 unfold gU.ay at h1
 obtain ⟨v0, t0, rfl, a0, h1⟩ := h1.out
 obtain ⟨v1, t1, rfl, a1, h1⟩ := h1.out
 obtain ⟨v2, t2, rfl, a2, h1⟩ := h1.out
 obtain rfl := h1.qI
 obtain rfl := a0.wD
 obtain ⟨A1, c1, rfl, g1, k1⟩ := dz.shape (f := eF) a1
 obtain rfl := a2.gG
 exact ⟨A1, c1, rfl, a1, g1, k1⟩
theorem gU.mk_ {lX : Option Addr} {nfields : Nat} (wO : dz w lo hi 1 eF (.slice lX c.fields.length nfields) c.fields) : fA w lo hi gU.ay (.agg #[Value.string c.name, .slice lX c.fields.length nfields, .int .i64 c.line]) c :=
 ⟨[_, _, _], rfl, .dJ .mkStr (.dJ wO (.dJ .mkInt .lu))⟩
theorem gU.rows {lX : Option Addr} {nfields : Nat} (h : fA w lo hi gU.ay (.agg #[Value.string c.name, .slice lX c.fields.length nfields, .int .i64 c.line]) c) : dz w lo hi 1 eF (.slice lX c.fields.length nfields) c.fields := by
 obtain ⟨X0, y0, hx, l0, _, _⟩ := gU.form h
 injection hx with hx
 have hx := congrArg Array.toList hx
 simp only [List.cons.injEq, Value.slice.injEq, and_true, true_and] at hx
 obtain ⟨rfl, rfl⟩ := hx
 exact l0
theorem gU.at_ {A : Option Addr} {cap j : Nat} {l : List gU} (h : dz w lo hi 3 gU.ay (.slice A l.length cap) l) (hc : l[j]? = some c) :
 ∃ g off lX nfields, A = some ⟨g, off, none⟩ ∧ lo ≤ g ∧ g < hi ∧ c ∈ l ∧ fA w lo hi gU.ay (.agg #[Value.string c.name, .slice lX c.fields.length nfields, .int .i64 c.line]) c ∧ w.cell? ⟨g, off + j * 3, none⟩ = some (.string c.name) ∧ w.cell? ⟨g, off + j * 3 + 1, none⟩ = some (.slice lX c.fields.length nfields) ∧ w.cell? ⟨g, off + j * 3 + 2, none⟩ = some (.int .i64 c.line) := by
 obtain ⟨g, off, us, hA, h1, h2, h3, h4, h5⟩ := h.elem gU.gK hc
 obtain ⟨B0, m0, hx, l0, _, _⟩ := gU.form (w := w) (lo := lo) (hi := hi) (c := c) (x := .agg us.toArray) ⟨us, rfl, h4⟩
 injection hx with hx
 obtain rfl : us = [_, _, _] := congrArg Array.toList hx
 exact ⟨g, off, B0, m0, hA, h1, h2, mG hc, gU.mk_ l0, h5 0 _ rfl, h5 1 _ rfl, h5 2 _ rfl⟩
end
end
section
open Go.RowKit
structure eO where
 op : Int
 a : Int
 b : Int
 line : Int
 text : ByteArray
def eO.ay (c : eO) : List Dat := [.int .i64 c.op, .int .i64 c.a, .int .i64 c.b, .int .i64 c.line, .str c.text]
theorem eO.gK (c : eO) : c.ay.length = 5 := rfl
def eO.dX (c : eO) : Nat := c.text.size
def eO.Fits (c : eO) : Prop := (c.text.size ≤ 9223372036854775807)
section
variable {w : World} {lo hi : Nat} {x : Value} {c : eO}
theorem eO.form (h : fA w lo hi eO.ay x c) : x = .agg #[Value.int .i64 c.op, .int .i64 c.a, .int .i64 c.b, .int .i64 c.line, .string c.text] := by
 obtain ⟨cs, rfl, h1⟩ := h
 unfold eO.ay at h1
 obtain ⟨v0, t0, rfl, a0, h1⟩ := h1.out
 obtain ⟨v1, t1, rfl, a1, h1⟩ := h1.out
 obtain ⟨v2, t2, rfl, a2, h1⟩ := h1.out
 obtain ⟨v3, t3, rfl, a3, h1⟩ := h1.out
 obtain ⟨v4, t4, rfl, a4, h1⟩ := h1.out
 obtain rfl := h1.qI
 obtain rfl := a0.gG
 obtain rfl := a1.gG
 obtain rfl := a2.gG
 obtain rfl := a3.gG
 obtain rfl := a4.wD
 exact rfl
theorem eO.mk_  : fA w lo hi eO.ay (.agg #[Value.int .i64 c.op, .int .i64 c.a, .int .i64 c.b, .int .i64 c.line, .string c.text]) c :=
 ⟨[_, _, _, _, _], rfl, .dJ .mkInt (.dJ .mkInt (.dJ .mkInt (.dJ .mkInt (.dJ .mkStr .lu))))⟩
theorem eO.at_ {A : Option Addr} {cap j : Nat} {l : List eO} (h : dz w lo hi 5 eO.ay (.slice A l.length cap) l) (hc : l[j]? = some c) :
 ∃ g off, A = some ⟨g, off, none⟩ ∧ lo ≤ g ∧ g < hi ∧ c ∈ l ∧ fA w lo hi eO.ay (.agg #[Value.int .i64 c.op, .int .i64 c.a, .int .i64 c.b, .int .i64 c.line, .string c.text]) c ∧ w.cell? ⟨g, off + j * 5, none⟩ = some (.int .i64 c.op) ∧ w.cell? ⟨g, off + j * 5 + 1, none⟩ = some (.int .i64 c.a) ∧ w.cell? ⟨g, off + j * 5 + 2, none⟩ = some (.int .i64 c.b) ∧ w.cell? ⟨g, off + j * 5 + 3, none⟩ = some (.int .i64 c.line) ∧ w.cell? ⟨g, off + j * 5 + 4, none⟩ = some (.string c.text) := by
 obtain ⟨g, off, us, hA, h1, h2, h3, h4, h5⟩ := h.elem eO.gK hc
 obtain hx := eO.form (w := w) (lo := lo) (hi := hi) (c := c) (x := .agg us.toArray) ⟨us, rfl, h4⟩
 injection hx with hx
 obtain rfl : us = [_, _, _, _, _] := congrArg Array.toList hx
 exact ⟨g, off, hA, h1, h2, mG hc, eO.mk_, h5 0 _ rfl, h5 1 _ rfl, h5 2 _ rfl, h5 3 _ rfl, h5 4 _ rfl⟩
end
end
section
open Go.RowKit
structure sj where
 kind : Int
 place : Int
def sj.ay (c : sj) : List Dat := [.int .i64 c.kind, .int .i64 c.place]
theorem sj.gK (c : sj) : c.ay.length = 2 := rfl
def sj.dX (c : sj) : Nat := 0
def sj.Fits (c : sj) : Prop := True
section
variable {w : World} {lo hi : Nat} {x : Value} {c : sj}
theorem sj.form (h : fA w lo hi sj.ay x c) : x = .agg #[Value.int .i64 c.kind, .int .i64 c.place] := by
 obtain ⟨cs, rfl, h1⟩ := h
 unfold sj.ay at h1
 obtain ⟨v0, t0, rfl, a0, h1⟩ := h1.out
 obtain ⟨v1, t1, rfl, a1, h1⟩ := h1.out
 obtain rfl := h1.qI
 obtain rfl := a0.gG
 obtain rfl := a1.gG
 exact rfl
theorem sj.mk_  : fA w lo hi sj.ay (.agg #[Value.int .i64 c.kind, .int .i64 c.place]) c :=
 ⟨[_, _], rfl, .dJ .mkInt (.dJ .mkInt .lu)⟩
theorem sj.at_ {A : Option Addr} {cap j : Nat} {l : List sj} (h : dz w lo hi 2 sj.ay (.slice A l.length cap) l) (hc : l[j]? = some c) :
 ∃ g off, A = some ⟨g, off, none⟩ ∧ lo ≤ g ∧ g < hi ∧ c ∈ l ∧ fA w lo hi sj.ay (.agg #[Value.int .i64 c.kind, .int .i64 c.place]) c ∧ w.cell? ⟨g, off + j * 2, none⟩ = some (.int .i64 c.kind) ∧ w.cell? ⟨g, off + j * 2 + 1, none⟩ = some (.int .i64 c.place) := by
 obtain ⟨g, off, us, hA, h1, h2, h3, h4, h5⟩ := h.elem sj.gK hc
 obtain hx := sj.form (w := w) (lo := lo) (hi := hi) (c := c) (x := .agg us.toArray) ⟨us, rfl, h4⟩
 injection hx with hx
 obtain rfl : us = [_, _] := congrArg Array.toList hx
 exact ⟨g, off, hA, h1, h2, mG hc, sj.mk_, h5 0 _ rfl, h5 1 _ rfl⟩
end
end
section
open Go.RowKit
structure dK where
 au : List jF
 aA : List gU
 aB : List ByteArray
 main : Int
 av : List eO
def dK.ay (c : dK) : List Dat := [.row 4 c.au.length (flat jF.ay c.au), .row 3 c.aA.length (flat gU.ay c.aA), .row 1 c.aB.length (flat eF c.aB), .int .i64 c.main, .row 5 c.av.length (flat eO.ay c.av)]
theorem dK.gK (c : dK) : c.ay.length = 5 := rfl
def dK.dX (c : dK) : Nat := (c.au.length + sumOf jF.dX c.au) + (c.aA.length + sumOf gU.dX c.aA) + (c.aB.length + sumOf ByteArray.size c.aB) + (c.av.length + sumOf eO.dX c.av)
def dK.Fits (c : dK) : Prop := (∀ y ∈ c.au, y.Fits) ∧ (∀ y ∈ c.aA, y.Fits) ∧ (∀ s ∈ c.aB, s.size ≤ 9223372036854775807) ∧ (∀ y ∈ c.av, y.Fits)
section
variable {w : World} {lo hi : Nat} {x : Value} {c : dK}
theorem dK.form (h : fA w lo hi dK.ay x c) : ∃ bT bI bE aY bH aZ dS dN, x = .agg #[Value.slice bT c.au.length bI, .slice bE c.aA.length aY, .slice bH c.aB.length aZ, .int .i64 c.main, .slice dS c.av.length dN] ∧ dz w lo hi 4 jF.ay (.slice bT c.au.length bI) c.au ∧ c.au.length ≤ bI ∧ bI ≤ maxLen ∧ dz w lo hi 3 gU.ay (.slice bE c.aA.length aY) c.aA ∧ c.aA.length ≤ aY ∧ aY ≤ maxLen ∧ dz w lo hi 1 eF (.slice bH c.aB.length aZ) c.aB ∧ c.aB.length ≤ aZ ∧ aZ ≤ maxLen ∧ dz w lo hi 5 eO.ay (.slice dS c.av.length dN) c.av ∧ c.av.length ≤ dN ∧ dN ≤ maxLen := by
 obtain ⟨cs, rfl, h1⟩ := h
 unfold dK.ay at h1
 obtain ⟨v0, t0, rfl, a0, h1⟩ := h1.out
 obtain ⟨v1, t1, rfl, a1, h1⟩ := h1.out
 obtain ⟨v2, t2, rfl, a2, h1⟩ := h1.out
 obtain ⟨v3, t3, rfl, a3, h1⟩ := h1.out
 obtain ⟨v4, t4, rfl, a4, h1⟩ := h1.out
 obtain rfl := h1.qI
 obtain ⟨A0, c0, rfl, g0, k0⟩ := dz.shape (f := jF.ay) a0
 obtain ⟨A1, c1, rfl, g1, k1⟩ := dz.shape (f := gU.ay) a1
 obtain ⟨A2, c2, rfl, g2, k2⟩ := dz.shape (f := eF) a2
 obtain rfl := a3.gG
 obtain ⟨A4, c4, rfl, g4, k4⟩ := dz.shape (f := eO.ay) a4
 exact ⟨A0, c0, A1, c1, A2, c2, A4, c4, rfl, a0, g0, k0, a1, g1, k1, a2, g2, k2, a4, g4, k4⟩
theorem dK.mk_ {bT : Option Addr} {bI : Nat} (tZ : dz w lo hi 4 jF.ay (.slice bT c.au.length bI) c.au) {bE : Option Addr} {aY : Nat} (qd : dz w lo hi 3 gU.ay (.slice bE c.aA.length aY) c.aA) {bH : Option Addr} {aZ : Nat} (qg : dz w lo hi 1 eF (.slice bH c.aB.length aZ) c.aB) {dS : Option Addr} {dN : Nat} (wP : dz w lo hi 5 eO.ay (.slice dS c.av.length dN) c.av) : fA w lo hi dK.ay (.agg #[Value.slice bT c.au.length bI, .slice bE c.aA.length aY, .slice bH c.aB.length aZ, .int .i64 c.main, .slice dS c.av.length dN]) c :=
 ⟨[_, _, _, _, _], rfl, .dJ tZ (.dJ qd (.dJ qg (.dJ .mkInt (.dJ wP .lu))))⟩
theorem dK.rows {bT : Option Addr} {bI : Nat} {bE : Option Addr} {aY : Nat} {bH : Option Addr} {aZ : Nat} {dS : Option Addr} {dN : Nat} (h : fA w lo hi dK.ay (.agg #[Value.slice bT c.au.length bI, .slice bE c.aA.length aY, .slice bH c.aB.length aZ, .int .i64 c.main, .slice dS c.av.length dN]) c) : dz w lo hi 4 jF.ay (.slice bT c.au.length bI) c.au ∧ dz w lo hi 3 gU.ay (.slice bE c.aA.length aY) c.aA ∧ dz w lo hi 1 eF (.slice bH c.aB.length aZ) c.aB ∧ dz w lo hi 5 eO.ay (.slice dS c.av.length dN) c.av := by
 obtain ⟨X0, y0, X1, y1, X2, y2, X3, y3, hx, l0, _, _, l1, _, _, l2, _, _, l3, _, _⟩ := dK.form h
 injection hx with hx
 have hx := congrArg Array.toList hx
 simp only [List.cons.injEq, Value.slice.injEq, and_true, true_and] at hx
 obtain ⟨⟨rfl, rfl⟩, ⟨rfl, rfl⟩, ⟨rfl, rfl⟩, ⟨rfl, rfl⟩⟩ := hx
 exact ⟨l0, l1, l2, l3⟩
theorem dK.at_ {A : Option Addr} {cap j : Nat} {l : List dK} (h : dz w lo hi 5 dK.ay (.slice A l.length cap) l) (hc : l[j]? = some c) :
 ∃ g off bT bI bE aY bH aZ dS dN, A = some ⟨g, off, none⟩ ∧ lo ≤ g ∧ g < hi ∧ c ∈ l ∧ fA w lo hi dK.ay (.agg #[Value.slice bT c.au.length bI, .slice bE c.aA.length aY, .slice bH c.aB.length aZ, .int .i64 c.main, .slice dS c.av.length dN]) c ∧ w.cell? ⟨g, off + j * 5, none⟩ = some (.slice bT c.au.length bI) ∧ w.cell? ⟨g, off + j * 5 + 1, none⟩ = some (.slice bE c.aA.length aY) ∧ w.cell? ⟨g, off + j * 5 + 2, none⟩ = some (.slice bH c.aB.length aZ) ∧ w.cell? ⟨g, off + j * 5 + 3, none⟩ = some (.int .i64 c.main) ∧ w.cell? ⟨g, off + j * 5 + 4, none⟩ = some (.slice dS c.av.length dN) := by
 obtain ⟨g, off, us, hA, h1, h2, h3, h4, h5⟩ := h.elem dK.gK hc
 obtain ⟨B0, m0, B1, m1, B2, m2, B3, m3, hx, l0, _, _, l1, _, _, l2, _, _, l3, _, _⟩ := dK.form (w := w) (lo := lo) (hi := hi) (c := c) (x := .agg us.toArray) ⟨us, rfl, h4⟩
 injection hx with hx
 obtain rfl : us = [_, _, _, _, _] := congrArg Array.toList hx
 exact ⟨g, off, B0, m0, B1, m1, B2, m2, B3, m3, hA, h1, h2, mG hc, dK.mk_ l0 l1 l2 l3, h5 0 _ rfl, h5 1 _ rfl, h5 2 _ rfl, h5 3 _ rfl, h5 4 _ rfl⟩
end
end
end
section
open Go.RowKit
structure kZ where
 routine : Int
 frame : Int
def kZ.ay (c : kZ) : List Dat := [.int .i64 c.routine, .int .i64 c.frame]
theorem kZ.gK (c : kZ) : c.ay.length = 2 := rfl
def kZ.dX (c : kZ) : Nat := 0
def kZ.Fits (c : kZ) : Prop := True
section
variable {w : World} {lo hi : Nat} {x : Value} {c : kZ}
theorem kZ.form (h : fA w lo hi kZ.ay x c) : x = .agg #[Value.int .i64 c.routine, .int .i64 c.frame] := by
 obtain ⟨cs, rfl, h1⟩ := h
 unfold kZ.ay at h1
 obtain ⟨v0, t0, rfl, a0, h1⟩ := h1.out
 obtain ⟨v1, t1, rfl, a1, h1⟩ := h1.out
 obtain rfl := h1.qI
 obtain rfl := a0.gG
 obtain rfl := a1.gG
 exact rfl
theorem kZ.mk_  : fA w lo hi kZ.ay (.agg #[Value.int .i64 c.routine, .int .i64 c.frame]) c :=
 ⟨[_, _], rfl, .dJ .mkInt (.dJ .mkInt .lu)⟩
theorem kZ.at_ {A : Option Addr} {cap j : Nat} {l : List kZ} (h : dz w lo hi 2 kZ.ay (.slice A l.length cap) l) (hc : l[j]? = some c) :
 ∃ g off, A = some ⟨g, off, none⟩ ∧ lo ≤ g ∧ g < hi ∧ c ∈ l ∧ fA w lo hi kZ.ay (.agg #[Value.int .i64 c.routine, .int .i64 c.frame]) c ∧ w.cell? ⟨g, off + j * 2, none⟩ = some (.int .i64 c.routine) ∧ w.cell? ⟨g, off + j * 2 + 1, none⟩ = some (.int .i64 c.frame) := by
 obtain ⟨g, off, us, hA, h1, h2, h3, h4, h5⟩ := h.elem kZ.gK hc
 obtain hx := kZ.form (w := w) (lo := lo) (hi := hi) (c := c) (x := .agg us.toArray) ⟨us, rfl, h4⟩
 injection hx with hx
 obtain rfl : us = [_, _] := congrArg Array.toList hx
 exact ⟨g, off, hA, h1, h2, mG hc, kZ.mk_, h5 0 _ rfl, h5 1 _ rfl⟩
end
end
section
open Go.RowKit
structure CsT where
 low : Int
 high : Int
def CsT.ay (c : CsT) : List Dat := [.int .i64 c.low, .int .i64 c.high]
theorem CsT.gK (c : CsT) : c.ay.length = 2 := rfl
def CsT.dX (c : CsT) : Nat := 0
def CsT.Fits (c : CsT) : Prop := True
section
variable {w : World} {lo hi : Nat} {x : Value} {c : CsT}
theorem CsT.form (h : fA w lo hi CsT.ay x c) : x = .agg #[Value.int .i64 c.low, .int .i64 c.high] := by
 obtain ⟨cs, rfl, h1⟩ := h
 unfold CsT.ay at h1
 obtain ⟨v0, t0, rfl, a0, h1⟩ := h1.out
 obtain ⟨v1, t1, rfl, a1, h1⟩ := h1.out
 obtain rfl := h1.qI
 obtain rfl := a0.gG
 obtain rfl := a1.gG
 exact rfl
theorem CsT.mk_  : fA w lo hi CsT.ay (.agg #[Value.int .i64 c.low, .int .i64 c.high]) c :=
 ⟨[_, _], rfl, .dJ .mkInt (.dJ .mkInt .lu)⟩
theorem CsT.at_ {A : Option Addr} {cap j : Nat} {l : List CsT} (h : dz w lo hi 2 CsT.ay (.slice A l.length cap) l) (hc : l[j]? = some c) :
 ∃ g off, A = some ⟨g, off, none⟩ ∧ lo ≤ g ∧ g < hi ∧ c ∈ l ∧ fA w lo hi CsT.ay (.agg #[Value.int .i64 c.low, .int .i64 c.high]) c ∧ w.cell? ⟨g, off + j * 2, none⟩ = some (.int .i64 c.low) ∧ w.cell? ⟨g, off + j * 2 + 1, none⟩ = some (.int .i64 c.high) := by
 obtain ⟨g, off, us, hA, h1, h2, h3, h4, h5⟩ := h.elem CsT.gK hc
 obtain hx := CsT.form (w := w) (lo := lo) (hi := hi) (c := c) (x := .agg us.toArray) ⟨us, rfl, h4⟩
 injection hx with hx
 obtain rfl : us = [_, _] := congrArg Array.toList hx
 exact ⟨g, off, hA, h1, h2, mG hc, CsT.mk_, h5 0 _ rfl, h5 1 _ rfl⟩
end
end
section
open Go.RowKit
structure aQ where
 kind : Int
 number : Int
 index : Int
 text : ByteArray
 set : CsT
abbrev aQ.eB (c : aQ) : Int := c.set.low
abbrev aQ.dW (c : aQ) : Int := c.set.high
def aQ.ay (c : aQ) : List Dat := [.int .i64 c.kind, .int .i64 c.number, .int .i64 c.index, .str c.text, .int .i64 c.eB, .int .i64 c.dW]
theorem aQ.gK (c : aQ) : c.ay.length = 6 := rfl
def aQ.dX (c : aQ) : Nat := c.text.size
def aQ.Fits (c : aQ) : Prop := (c.text.size ≤ 9223372036854775807)
section
variable {w : World} {lo hi : Nat} {x : Value} {c : aQ}
theorem aQ.form (h : fA w lo hi aQ.ay x c) : x = .agg #[Value.int .i64 c.kind, .int .i64 c.number, .int .i64 c.index, .string c.text, .int .i64 c.eB, .int .i64 c.dW] := by
 obtain ⟨cs, rfl, h1⟩ := h
 unfold aQ.ay at h1
 obtain ⟨v0, t0, rfl, a0, h1⟩ := h1.out
 obtain ⟨v1, t1, rfl, a1, h1⟩ := h1.out
 obtain ⟨v2, t2, rfl, a2, h1⟩ := h1.out
 obtain ⟨v3, t3, rfl, a3, h1⟩ := h1.out
 obtain ⟨v4, t4, rfl, a4, h1⟩ := h1.out
 obtain ⟨v5, t5, rfl, a5, h1⟩ := h1.out
 obtain rfl := h1.qI
 obtain rfl := a0.gG
 obtain rfl := a1.gG
 obtain rfl := a2.gG
 obtain rfl := a3.wD
 obtain rfl := a4.gG
 obtain rfl := a5.gG
 exact rfl
theorem aQ.mk_  : fA w lo hi aQ.ay (.agg #[Value.int .i64 c.kind, .int .i64 c.number, .int .i64 c.index, .string c.text, .int .i64 c.eB, .int .i64 c.dW]) c :=
 ⟨[_, _, _, _, _, _], rfl, .dJ .mkInt (.dJ .mkInt (.dJ .mkInt (.dJ .mkStr (.dJ .mkInt (.dJ .mkInt .lu)))))⟩
theorem aQ.at_ {A : Option Addr} {cap j : Nat} {l : List aQ} (h : dz w lo hi 6 aQ.ay (.slice A l.length cap) l) (hc : l[j]? = some c) :
 ∃ g off, A = some ⟨g, off, none⟩ ∧ lo ≤ g ∧ g < hi ∧ c ∈ l ∧ fA w lo hi aQ.ay (.agg #[Value.int .i64 c.kind, .int .i64 c.number, .int .i64 c.index, .string c.text, .int .i64 c.eB, .int .i64 c.dW]) c ∧ w.cell? ⟨g, off + j * 6, none⟩ = some (.int .i64 c.kind) ∧ w.cell? ⟨g, off + j * 6 + 1, none⟩ = some (.int .i64 c.number) ∧ w.cell? ⟨g, off + j * 6 + 2, none⟩ = some (.int .i64 c.index) ∧ w.cell? ⟨g, off + j * 6 + 3, none⟩ = some (.string c.text) ∧ w.cell? ⟨g, off + j * 6 + 4, none⟩ = some (.int .i64 c.eB) ∧ w.cell? ⟨g, off + j * 6 + 5, none⟩ = some (.int .i64 c.dW) := by
 obtain ⟨g, off, us, hA, h1, h2, h3, h4, h5⟩ := h.elem aQ.gK hc
 obtain hx := aQ.form (w := w) (lo := lo) (hi := hi) (c := c) (x := .agg us.toArray) ⟨us, rfl, h4⟩
 injection hx with hx
 obtain rfl : us = [_, _, _, _, _, _] := congrArg Array.toList hx
 exact ⟨g, off, hA, h1, h2, mG hc, aQ.mk_, h5 0 _ rfl, h5 1 _ rfl, h5 2 _ rfl, h5 3 _ rfl, h5 4 _ rfl, h5 5 _ rfl⟩
end
end
section
open Go.RowKit
structure kG where
 ret : Int
 frame : Int
 routine : Int
 height : Int
 dU : Int
 dx : Int
 eT : Int
 line : Int
def kG.ay (c : kG) : List Dat := [.int .i64 c.ret, .int .i64 c.frame, .int .i64 c.routine, .int .i64 c.height, .int .i64 c.dU, .int .i64 c.dx, .int .i64 c.eT, .int .i64 c.line]
theorem kG.gK (c : kG) : c.ay.length = 8 := rfl
def kG.dX (c : kG) : Nat := 0
def kG.Fits (c : kG) : Prop := True
section
variable {w : World} {lo hi : Nat} {x : Value} {c : kG}
theorem kG.form (h : fA w lo hi kG.ay x c) : x = .agg #[Value.int .i64 c.ret, .int .i64 c.frame, .int .i64 c.routine, .int .i64 c.height, .int .i64 c.dU, .int .i64 c.dx, .int .i64 c.eT, .int .i64 c.line] := by
 obtain ⟨cs, rfl, h1⟩ := h
 unfold kG.ay at h1
 obtain ⟨v0, t0, rfl, a0, h1⟩ := h1.out
 obtain ⟨v1, t1, rfl, a1, h1⟩ := h1.out
 obtain ⟨v2, t2, rfl, a2, h1⟩ := h1.out
 obtain ⟨v3, t3, rfl, a3, h1⟩ := h1.out
 obtain ⟨v4, t4, rfl, a4, h1⟩ := h1.out
 obtain ⟨v5, t5, rfl, a5, h1⟩ := h1.out
 obtain ⟨v6, t6, rfl, a6, h1⟩ := h1.out
 obtain ⟨v7, t7, rfl, a7, h1⟩ := h1.out
 obtain rfl := h1.qI
 obtain rfl := a0.gG
 obtain rfl := a1.gG
 obtain rfl := a2.gG
 obtain rfl := a3.gG
 obtain rfl := a4.gG
 obtain rfl := a5.gG
 obtain rfl := a6.gG
 obtain rfl := a7.gG
 exact rfl
theorem kG.mk_  : fA w lo hi kG.ay (.agg #[Value.int .i64 c.ret, .int .i64 c.frame, .int .i64 c.routine, .int .i64 c.height, .int .i64 c.dU, .int .i64 c.dx, .int .i64 c.eT, .int .i64 c.line]) c :=
 ⟨[_, _, _, _, _, _, _, _], rfl, .dJ .mkInt (.dJ .mkInt (.dJ .mkInt (.dJ .mkInt (.dJ .mkInt (.dJ .mkInt (.dJ .mkInt (.dJ .mkInt .lu)))))))⟩
theorem kG.at_ {A : Option Addr} {cap j : Nat} {l : List kG} (h : dz w lo hi 8 kG.ay (.slice A l.length cap) l) (hc : l[j]? = some c) :
 ∃ g off, A = some ⟨g, off, none⟩ ∧ lo ≤ g ∧ g < hi ∧ c ∈ l ∧ fA w lo hi kG.ay (.agg #[Value.int .i64 c.ret, .int .i64 c.frame, .int .i64 c.routine, .int .i64 c.height, .int .i64 c.dU, .int .i64 c.dx, .int .i64 c.eT, .int .i64 c.line]) c ∧ w.cell? ⟨g, off + j * 8, none⟩ = some (.int .i64 c.ret) ∧ w.cell? ⟨g, off + j * 8 + 1, none⟩ = some (.int .i64 c.frame) ∧ w.cell? ⟨g, off + j * 8 + 2, none⟩ = some (.int .i64 c.routine) ∧ w.cell? ⟨g, off + j * 8 + 3, none⟩ = some (.int .i64 c.height) ∧ w.cell? ⟨g, off + j * 8 + 4, none⟩ = some (.int .i64 c.dU) ∧ w.cell? ⟨g, off + j * 8 + 5, none⟩ = some (.int .i64 c.dx) ∧ w.cell? ⟨g, off + j * 8 + 6, none⟩ = some (.int .i64 c.eT) ∧ w.cell? ⟨g, off + j * 8 + 7, none⟩ = some (.int .i64 c.line) := by
 obtain ⟨g, off, us, hA, h1, h2, h3, h4, h5⟩ := h.elem kG.gK hc
 obtain hx := kG.form (w := w) (lo := lo) (hi := hi) (c := c) (x := .agg us.toArray) ⟨us, rfl, h4⟩
 injection hx with hx
 obtain rfl : us = [_, _, _, _, _, _, _, _] := congrArg Array.toList hx
 exact ⟨g, off, hA, h1, h2, mG hc, kG.mk_, h5 0 _ rfl, h5 1 _ rfl, h5 2 _ rfl, h5 3 _ rfl, h5 4 _ rfl, h5 5 _ rfl, h5 6 _ rfl, h5 7 _ rfl⟩
end
end
section
open Go.RowKit
structure kH where
 fail : Int
 height : Int
 dx : Int
 eT : Int
 count : Int
def kH.ay (c : kH) : List Dat := [.int .i64 c.fail, .int .i64 c.height, .int .i64 c.dx, .int .i64 c.eT, .int .i64 c.count]
theorem kH.gK (c : kH) : c.ay.length = 5 := rfl
def kH.dX (c : kH) : Nat := 0
def kH.Fits (c : kH) : Prop := True
section
variable {w : World} {lo hi : Nat} {x : Value} {c : kH}
theorem kH.form (h : fA w lo hi kH.ay x c) : x = .agg #[Value.int .i64 c.fail, .int .i64 c.height, .int .i64 c.dx, .int .i64 c.eT, .int .i64 c.count] := by
 obtain ⟨cs, rfl, h1⟩ := h
 unfold kH.ay at h1
 obtain ⟨v0, t0, rfl, a0, h1⟩ := h1.out
 obtain ⟨v1, t1, rfl, a1, h1⟩ := h1.out
 obtain ⟨v2, t2, rfl, a2, h1⟩ := h1.out
 obtain ⟨v3, t3, rfl, a3, h1⟩ := h1.out
 obtain ⟨v4, t4, rfl, a4, h1⟩ := h1.out
 obtain rfl := h1.qI
 obtain rfl := a0.gG
 obtain rfl := a1.gG
 obtain rfl := a2.gG
 obtain rfl := a3.gG
 obtain rfl := a4.gG
 exact rfl
theorem kH.mk_  : fA w lo hi kH.ay (.agg #[Value.int .i64 c.fail, .int .i64 c.height, .int .i64 c.dx, .int .i64 c.eT, .int .i64 c.count]) c :=
 ⟨[_, _, _, _, _], rfl, .dJ .mkInt (.dJ .mkInt (.dJ .mkInt (.dJ .mkInt (.dJ .mkInt .lu))))⟩
theorem kH.at_ {A : Option Addr} {cap j : Nat} {l : List kH} (h : dz w lo hi 5 kH.ay (.slice A l.length cap) l) (hc : l[j]? = some c) :
 ∃ g off, A = some ⟨g, off, none⟩ ∧ lo ≤ g ∧ g < hi ∧ c ∈ l ∧ fA w lo hi kH.ay (.agg #[Value.int .i64 c.fail, .int .i64 c.height, .int .i64 c.dx, .int .i64 c.eT, .int .i64 c.count]) c ∧ w.cell? ⟨g, off + j * 5, none⟩ = some (.int .i64 c.fail) ∧ w.cell? ⟨g, off + j * 5 + 1, none⟩ = some (.int .i64 c.height) ∧ w.cell? ⟨g, off + j * 5 + 2, none⟩ = some (.int .i64 c.dx) ∧ w.cell? ⟨g, off + j * 5 + 3, none⟩ = some (.int .i64 c.eT) ∧ w.cell? ⟨g, off + j * 5 + 4, none⟩ = some (.int .i64 c.count) := by
 obtain ⟨g, off, us, hA, h1, h2, h3, h4, h5⟩ := h.elem kH.gK hc
 obtain hx := kH.form (w := w) (lo := lo) (hi := hi) (c := c) (x := .agg us.toArray) ⟨us, rfl, h4⟩
 injection hx with hx
 obtain rfl : us = [_, _, _, _, _] := congrArg Array.toList hx
 exact ⟨g, off, hA, h1, h2, mG hc, kH.mk_, h5 0 _ rfl, h5 1 _ rfl, h5 2 _ rfl, h5 3 _ rfl, h5 4 _ rfl⟩
end
end
section
open Go.RowKit
theorem Hq : Tryz.prog.globalNamed "strings.asciiSpace" = some 0 := by kernel_rfl
def iw (w : World) : Prop := Lib.TabIs Tryz.prog w "strings.asciiSpace" .u8 Lib.asciiSpaceTab ∧ 0 < w.heap.size
theorem iw.below {w w' : World} {B : Nat} (h : iw w) (hb : Below B w w') (hB : 0 < B) : iw w' :=
 ⟨var?_below hb Hq hB h.1, nL h.2 hb.size⟩
theorem iw.later {w w' : World} (h : iw w) (hb : Below w.heap.size w w') : iw w' := h.below hb h.2
theorem sZ {s : ByteArray} {w : World} {Q : Ending → World → Prop} (n : Nat) (hs : s.size < 4294967281) (ha : (s.data.toList.all fun b => decide (b.toNat < 128)) = true)
 (hn : (Lib.fields s.data.toList).length = n) (hne : ((Lib.fields s.data.toList).all fun l => !l.isEmpty && decide (l.length ≤ 20)) = true) (ht : iw w)
 (h : ∀ (l : List ByteArray) (w' : World), l = (Lib.fields s.data.toList).map (fun x => (⟨x.toArray⟩ : ByteArray)) → l.length = n → (∀ t ∈ l, t.toList.isEmpty = false ∧ t.size ≤ 20) → Blk w' w.heap.size 9 (l.map .string).toArray → Below w.heap.size w w' → Q (.returned (.slice (some ⟨w.heap.size, 0, none⟩) n n)) w') :
 Calls Tryz.prog 166 #[.string s] w Q := by
 refine (Tryz.strings_Fields_laid s w hs (fun j b hj => ?_) ht.1).mono fun e w' ⟨he, hw⟩ => ?_
 ·have := List.all_eq_true.1 ha b (mG hj)
  simpa using this
 ·subst he hw
  rw [hn]
  refine h ((Lib.fields s.data.toList).map fun l => ⟨l.toArray⟩) _ rfl (by rw [List.length_map, hn]) (fun t ht => ?_) ?_ (bA _ _)
  ·obtain ⟨l, hl, rfl⟩ := List.mem_map.1 ht
   have := List.all_eq_true.1 hne l hl
   simp only [Bool.and_eq_true, Bool.not_eq_true', decide_eq_true_eq] at this
   exact ⟨by rw [ByteArray.toList_eq]; exact this.1, by simpa [ByteArray.size] using this.2⟩
  ·rw [List.map_map]
   exact Blk.new w _ _
theorem sF {w : World} {g : Nat} {l : List ByteArray} (h : Blk w g 9 (l.map Value.string).toArray) (j : Nat) (hj : j < l.length) : w.cell? ⟨g, j, none⟩ = some (.string (l.getD j ByteArray.empty)) := by
 rw [h.cell, List.getElem?_toArray, List.getElem?_map, List.getD, gE hj]
 rfl
def EG (op : Int) : Bool := decide ((1 ≤ op ∧ op ≤ 11) ∨ (20 ≤ op ∧ op ≤ 25) ∨ (30 ≤ op ∧ op ≤ 35) ∨ (40 ≤ op ∧ op ≤ 47) ∨ (50 ≤ op ∧ op ≤ 54) ∨ (60 ≤ op ∧ op ≤ 63) ∨ (70 ≤ op ∧ op ≤ 79) ∨ op = 81 ∨ (220 ≤ op ∧ op ≤ 225) ∨ (250 ≤ op ∧ op ≤ 254))
def iZ (op : Int) : Int := if EG op = false then 0 else if op ≤ 11 ∨ op = 81 then 1 else if op = 71 ∨ op = 72 then 3 else if op = 73 then 2 else if op = 74 then 0 else 2
def jc (op : Int) : Int := if EG op = false then -1 else if op ≤ 11 ∨ op = 81 then 1 else if op = 71 ∨ op = 72 then 3 else if op = 73 then 8 else if op = 74 then 8 else 2
def uI (b : Nat) (op : Int) (w : World) (e : Ending) (w' : World) : Prop := ∃ t : ByteArray, e = .returned (.string t) ∧ t.toList.isEmpty = !EG op ∧ t.size ≤ b ∧ Below w.heap.size w w'
def kW (op : Int) : World → Ending → World → Prop := uI 22 op
theorem uI.up {b : Nat} {op : Int} {w w' : World} {e : Ending} (h : uI b op w e w') (hb : b ≤ 22) : kW op w e w' := by obtain ⟨t, h1, h2, h3, h4⟩ := h; exact ⟨t, h1, h2, by omega, h4⟩
theorem uT {op : Int} (h : (1 ≤ op ∧ op ≤ 11) ∨ (20 ≤ op ∧ op ≤ 25) ∨ (30 ≤ op ∧ op ≤ 35) ∨ (40 ≤ op ∧ op ≤ 47) ∨ (50 ≤ op ∧ op ≤ 54) ∨ (60 ≤ op ∧ op ≤ 63) ∨ (70 ≤ op ∧ op ≤ 79) ∨ op = 81 ∨ (220 ≤ op ∧ op ≤ 225) ∨ (250 ≤ op ∧ op ≤ 254)) : EG op = true := dT h
theorem tV {op : Int} (h : ¬ ((1 ≤ op ∧ op ≤ 11) ∨ (20 ≤ op ∧ op ≤ 25) ∨ (30 ≤ op ∧ op ≤ 35) ∨ (40 ≤ op ∧ op ≤ 47) ∨ (50 ≤ op ∧ op ≤ 54) ∨ (60 ≤ op ∧ op ≤ 63) ∨ (70 ≤ op ∧ op ≤ 79) ∨ op = 81 ∨ (220 ≤ op ∧ op ≤ 225) ∨ (250 ≤ op ∧ op ≤ 254))) : EG op = false := dF h
end
section
open Go Go.RowKit
structure Kept (B : Nat) (w : World) where
 out : World
 below : Below B w out
instance {B : Nat} {w : World} : Nonempty (Kept B w) := ⟨⟨w, bR B w⟩⟩
theorem Kept.of {B0 B : Nat} {w0 w : World} (h : Below B0 w0 w) (hB : B0 ≤ B) (v : Kept B w) : Below B0 w0 v.out := h.trans (v.below.mono hB)
theorem Kept.cell {B : Nat} {w : World} (v : Kept B w) {g o : Nat} (h : g < B) : v.out.cell? ⟨g, o, none⟩ = w.cell? ⟨g, o, none⟩ := v.below.cell (p := ⟨g, o, none⟩) h
theorem aW {B : Nat} {w : World} {g o : Nat} {u : Value} (h : w.cell? ⟨g, o, none⟩ = some u) (hg : g < B) : ∀ v : Kept B w, v.out.cell? ⟨g, o, none⟩ = some u := fun v => (v.cell hg).trans h
theorem qC {B : Nat} {w : World} {g : Nat} {t : TypeId} {cs : Array Value} (h : Blk w g t cs) (hg : g < B) : ∀ (v : Kept B w) (i : Nat), v.out.cell? ⟨g, i, none⟩ = cs[i]? := fun v i => (v.cell hg).trans (h.cell i)
section
variable {P : Program} {B : Nat} {w : World}
theorem fI {id : Nat} {Q : Exit → Act → World → Prop} {a : Act} {l : List Oper} (hm : P.follows .mixedOrders = true) (hB : Region.lexB .any l.toArray = true)
 (h : wpQuiet P l.toArray (fun w' => ∃ v : Kept B w, w' = v.out) (fun a' => ∀ w', (∃ v : Kept B w, w' = v.out) → Q .normal a' w') l a) : (Code.region id l.toArray true).wp P Q a w :=
 wp_region_quiet (C := fun w' => ∃ v : Kept B w, w' = v.out) hm hB ⟨⟨_, (bR B w).trans ((Same.refl w).drew.below B)⟩, rfl⟩ (by simpa using h)
theorem fB {f : FuncId} {args : Array Value} {x : Value} {v : Kept B w} (hB : B ≤ w.heap.size)
 (h : Calls P f args v.out fun e w' => e = .returned x ∧ Below v.out.heap.size v.out w') : Calls P f args v.out fun e w'' => e = .returned x ∧ ∃ v' : Kept B w, w'' = v'.out :=
 h.mono fun _ w' ⟨he, hb⟩ => ⟨he, ⟨w', v.below.trans (hb.mono (nT hB v.below.size))⟩, rfl⟩
theorem dB {f : FuncId} {args : Array Value} {x : Value} {v : Kept B w}
 (h : Calls P f args v.out fun e w' => e = .returned x ∧ v.out = w') : Calls P f args v.out fun e w'' => e = .returned x ∧ ∃ v' : Kept B w, w'' = v'.out :=
 h.mono fun _ w' ⟨he, hb⟩ => ⟨he, v, hb.symm⟩
end
end
section
open Go.RowKit
def Dh (x : Int × Value × Nat) : MapEntry := { key := .int .i64 x.1, val := x.2.1, born := x.2.2 }
def vk (l : List (Int × Value × Nat)) : Array MapEntry := (l.map Dh).toArray
def tq : List (Int × Value × Nat) → Int → Nat → Option (Nat × Value)
 | [], _, _ => none
 | x :: l, n, i => if n = x.1 then some (i, x.2.1) else tq l n (i + 1)
def EH (l : List (Int × Value × Nat)) (c : Nat) (n : Int) (val : Value) : List (Int × Value × Nat) :=
 match tq l n 0 with
 | some (i, _) => l.modify i fun x => (n, val, x.2.2)
 | none => l ++ [(n, val, c)]
def Jr (l : List (Int × Value × Nat)) (c : Nat) (n : Int) : Nat := if (tq l n 0).isSome then c else c + 1
def BL (l : List (Int × Value × Nat)) (n : Int) (z : Value) : Value := match tq l n 0 with | some (_, v) => v | none => z
theorem Av (n : Int) : ∀ (l : List (Int × Value × Nat)) (i : Nat), Instr.findNow (.int .i64) (.int .i64 n) (l.map Dh) i = some (tq l n i) := by
 intro l
 induction l with
 | nil => intro i; rfl
 | cons x l ih =>
   intro i
   by_cases h : n = x.1
   ·simp [Instr.findNow, Instr.sameNow, Dh, tq, h]
   ·have hb : (n == x.1) = false := bF h
    simp [Instr.findNow, Instr.sameNow, Dh, tq, h, hb]
    exact ih (i + 1)
theorem Hr (f : Int × Value × Nat → Int × Value × Nat) (g : MapEntry → MapEntry) (h : ∀ x, Dh (f x) = g (Dh x)) : ∀ (l : List (Int × Value × Nat)) (i : Nat), (l.modify i f).map Dh = (l.map Dh).modify i g := by
 intro l
 induction l with
 | nil => intro i; simp
 | cons x l ih =>
   intro i
   cases i with
   | zero => simp [h]
   | succ i => simp [ih]
section
variable {P : Program}
theorem Bd (t : TypeId) (w : World) : (Instr.makeMap t none).run P w = .ok (.map (some w.heap.size)) (w.alloc (.map (vk []) 0)) := run_makeMap_plain w t
theorem Js : ∀ (l : List (Int × Value × Nat)) (n : Int) (i j : Nat) (v : Value), tq l n i = some (j, v) → i ≤ j ∧ (l[j - i]?).map (·.1) = some n := by
 intro l
 induction l with
 | nil => intro n i j v h; cases h
 | cons x l ih =>
   intro n i j v h
   rw [tq] at h
   split at h
   ·rename_i hx; injection h with h; injection h with h1 h2; subst h1; simp [hx]
   ·have := ih n (i + 1) j v h
    refine ⟨by omega, ?_⟩
    rw [show j - i = (j - (i + 1)) + 1 by omega]
    exact this.2
end
def Vk (M : List (Int × Value × Nat) × Nat) : Obj := .map (vk M.1) M.2
def Vl (M : List (Int × Value × Nat) × Nat) (n : Int) (val : Value) : List (Int × Value × Nat) × Nat := (EH M.1 M.2 n val, Jr M.1 M.2 n)
def Va (M : List (Int × Value × Nat) × Nat) (n : Int) (z : Value) : Value := BL M.1 n z
end
section
open Go.RowKit
theorem Jt {w w' : World} {base : Nat} {e : TypeId} {size n : Nat} {v : Value} {xs : List Value} (h : w.ownsRow base e size v n xs) (hk : ∀ g, v.ownBlock = some g → w'.heap[g]? = w.heap[g]?) : w'.ownsRow base e size v n xs := by
 refine ⟨h.1, ?_⟩
 rcases h.2 with h | ⟨g, cap, cur, rfl, hb, hg, h⟩
 ·exact .inl h
 ·exact .inr ⟨g, cap, cur, rfl, hb, by rw [hk g rfl]; exact hg, h⟩
theorem KH {w : World} {base base' : Nat} {e : TypeId} {size n : Nat} {v : Value} {xs : List Value} (h : w.ownsRow base e size v n xs) (hb : ∀ g, v.ownBlock = some g → base' ≤ g) : w.ownsRow base' e size v n xs := by
 refine ⟨h.1, ?_⟩
 rcases h.2 with h | ⟨g, cap, cur, rfl, _, hg, h⟩
 ·exact .inl h
 ·exact .inr ⟨g, cap, cur, rfl, hb g rfl, hg, h⟩
theorem Rds.OP {w : World} {base lo hi : Nat} {e : TypeId} {size n : Nat} {v : Value} {xs : List Value} (h : w.ownsRow base e size v n xs) (hb : ∀ g, v.ownBlock = some g → lo ≤ g ∧ g < hi) : Rds w lo hi size v n xs := by
 obtain ⟨A, c, hv, h1, h2, h3, h5, h4⟩ := Rds.KE h
 refine ⟨A, c, hv, h1, h2, h3, h5, fun hn => ?_⟩
 obtain ⟨g, off, hA, hg1, hg2, hc⟩ := h4 hn
 subst hv hA
 have ho : off = 0 := by
  rcases h.2 with ⟨h, _⟩ | ⟨g', cap, cur, h, _⟩
  ·cases h
  ·injection h with h; injection h with h; injection h
 subst ho
 obtain ⟨b1, b2⟩ := hb g rfl
 exact ⟨g, 0, rfl, b1, b2, hc⟩
mutual
def oQ (w : World) : Dat → List Nat → Value → Prop
 | .int k n, F, v => F = [] ∧ v = .int k n
 | .str s, F, v => F = [] ∧ v = .string s
 | .bool b, F, v => F = [] ∧ v = .bool b
 | .row size n ds, F, v => ∃ e vs F', w.ownsRow 0 e size v n vs ∧ F = v.ownBlock.toList ++ F' ∧ kX w ds F' vs
def kX (w : World) : List Dat → List Nat → List Value → Prop
 | [], F, vs => F = [] ∧ vs = []
 | d :: ds, F, vs => ∃ F1 F2 v vs', F = F1 ++ F2 ∧ vs = v :: vs' ∧ oQ w d F1 v ∧ kX w ds F2 vs'
end
section
variable {w w' : World}
mutual
theorem oQ.kept : ∀ {d : Dat} {F : List Nat} {v : Value}, oQ w d F v → (∀ g ∈ F, w'.heap[g]? = w.heap[g]?) → oQ w' d F v
 | .int _ _, _, _, h, _ => by simp only [oQ] at h ⊢; exact h
 | .str _, _, _, h, _ => by simp only [oQ] at h ⊢; exact h
 | .bool _, _, _, h, _ => by simp only [oQ] at h ⊢; exact h
 | .row size n ds, F, v, h, hk => by
   simp only [oQ] at h ⊢
   obtain ⟨e, vs, F', h1, h2, h3⟩ := h
   exact ⟨e, vs, F', Jt h1 fun g hg => hk g (by rw [h2, hg]; simp), h2, kX.kept h3 fun g hg => hk g (by rw [h2]; simp [hg])⟩
theorem kX.kept : ∀ {ds : List Dat} {F : List Nat} {vs : List Value}, kX w ds F vs → (∀ g ∈ F, w'.heap[g]? = w.heap[g]?) → kX w' ds F vs
 | [], _, _, h, _ => by simp only [kX] at h ⊢; exact h
 | d :: ds, F, vs, h, hk => by
   simp only [kX] at h ⊢
   obtain ⟨F1, F2, v, vs', h1, h2, h3, h4⟩ := h
   exact ⟨F1, F2, v, vs', h1, h2, oQ.kept h3 fun g hg => hk g (by rw [h1]; simp [hg]), kX.kept h4 fun g hg => hk g (by rw [h1]; simp [hg])⟩
end
mutual
theorem oQ.rep {lo hi : Nat} : ∀ {d : Dat} {F : List Nat} {v : Value}, oQ w d F v → (∀ g ∈ F, lo ≤ g ∧ g < hi) → Rep w lo hi d v
 | .int _ _, _, _, h, _ => by simp only [oQ] at h; rw [h.2]; exact .mkInt
 | .str _, _, _, h, _ => by simp only [oQ] at h; rw [h.2]; exact .mkStr
 | .bool _, _, _, h, _ => by simp only [oQ] at h; rw [h.2]; exact .zL
 | .row size n ds, F, v, h, hk => by
   simp only [oQ] at h
   obtain ⟨e, vs, F', h1, h2, h3⟩ := h
   exact .u7 (Rds.OP h1 fun g hg => hk g (by rw [h2, hg]; simp)) (kX.rep h3 fun g hg => hk g (by rw [h2]; simp [hg]))
theorem kX.rep {lo hi : Nat} : ∀ {ds : List Dat} {F : List Nat} {vs : List Value}, kX w ds F vs → (∀ g ∈ F, lo ≤ g ∧ g < hi) → eU w lo hi ds vs
 | [], _, _, h, _ => by simp only [kX] at h; rw [h.2]; exact .lu
 | d :: ds, F, vs, h, hk => by
   simp only [kX] at h
   obtain ⟨F1, F2, v, vs', h1, rfl, h3, h4⟩ := h
   exact .dJ (oQ.rep h3 fun g hg => hk g (by rw [h1]; simp [hg])) (kX.rep h4 fun g hg => hk g (by rw [h1]; simp [hg]))
end
mutual
theorem oQ.lt : ∀ {d : Dat} {F : List Nat} {v : Value}, oQ w d F v → ∀ g ∈ F, g < w.heap.size
 | .int _ _, _, _, h => by simp only [oQ] at h; rw [h.1]; simp
 | .str _, _, _, h => by simp only [oQ] at h; rw [h.1]; simp
 | .bool _, _, _, h => by simp only [oQ] at h; rw [h.1]; simp
 | .row size n ds, F, v, h => by
   simp only [oQ] at h
   obtain ⟨e, vs, F', h1, h2, h3⟩ := h
   intro g hg
   rw [h2] at hg
   rcases List.mem_append.1 hg with hg | hg
   ·exact (h1.lt g (by simpa using hg)).2
   ·exact kX.lt h3 g hg
theorem kX.lt : ∀ {ds : List Dat} {F : List Nat} {vs : List Value}, kX w ds F vs → ∀ g ∈ F, g < w.heap.size
 | [], _, _, h => by simp only [kX] at h; rw [h.1]; simp
 | d :: ds, F, vs, h => by
   simp only [kX] at h
   obtain ⟨F1, F2, v, vs', h1, rfl, h3, h4⟩ := h
   intro g hg
   rw [h1] at hg
   rcases List.mem_append.1 hg with hg | hg
   ·exact oQ.lt h3 g hg
   ·exact kX.lt h4 g hg
end
theorem kX.lu : kX w [] [] [] := by simp [kX]
theorem kX.dJ {d : Dat} {ds : List Dat} {F1 F2 : List Nat} {v : Value} {vs : List Value} (h : oQ w d F1 v) (h' : kX w ds F2 vs) : kX w (d :: ds) (F1 ++ F2) (v :: vs) := by simp only [kX]; exact ⟨F1, F2, v, vs, rfl, rfl, h, h'⟩
theorem kX.out {d : Dat} {ds : List Dat} {F : List Nat} {vs : List Value} (h : kX w (d :: ds) F vs) : ∃ F1 F2 v vs', F = F1 ++ F2 ∧ vs = v :: vs' ∧ oQ w d F1 v ∧ kX w ds F2 vs' := by simpa only [kX] using h
theorem kX.qI {F : List Nat} {vs : List Value} (h : kX w [] F vs) : F = [] ∧ vs = [] := by simpa only [kX] using h
theorem oQ.gG {k : IntKind} {n : Int} {F : List Nat} {v : Value} (h : oQ w (.int k n) F v) : F = [] ∧ v = .int k n := by simpa only [oQ] using h
theorem oQ.wD {s : ByteArray} {F : List Nat} {v : Value} (h : oQ w (.str s) F v) : F = [] ∧ v = .string s := by simpa only [oQ] using h
theorem oQ.Ga {b : Bool} {F : List Nat} {v : Value} (h : oQ w (.bool b) F v) : F = [] ∧ v = .bool b := by simpa only [oQ] using h
theorem oQ.rR {size n : Nat} {ds : List Dat} {F : List Nat} {v : Value} (h : oQ w (.row size n ds) F v) : ∃ e vs F', w.ownsRow 0 e size v n vs ∧ F = v.ownBlock.toList ++ F' ∧ kX w ds F' vs := by simpa only [oQ] using h
theorem oQ.mkInt {k : IntKind} {n : Int} : oQ w (.int k n) [] (.int k n) := by simp [oQ]
theorem oQ.mkStr {s : ByteArray} : oQ w (.str s) [] (.string s) := by simp [oQ]
theorem oQ.zL {b : Bool} : oQ w (.bool b) [] (.bool b) := by simp [oQ]
theorem oQ.u7 {base size n : Nat} {e : TypeId} {ds : List Dat} {F : List Nat} {v : Value} {vs : List Value} (h : w.ownsRow base e size v n vs) (h' : kX w ds F vs) : oQ w (.row size n ds) (v.ownBlock.toList ++ F) v := by
 simp only [oQ]
 exact ⟨e, vs, F, KH h fun _ _ => nZ _, rfl, h'⟩
theorem kX.len : ∀ {ds : List Dat} {F : List Nat} {vs : List Value}, kX w ds F vs → vs.length = ds.length
 | [], _, _, h => by rw [h.qI.2]; rfl
 | _ :: ds, _, _, h => by
   obtain ⟨F1, F2, v, vs', -, rfl, -, h4⟩ := h.out
   simp [kX.len h4]
theorem kX.app : ∀ {ds es : List Dat} {F G : List Nat} {vs us : List Value}, kX w ds F vs → kX w es G us → kX w (ds ++ es) (F ++ G) (vs ++ us)
 | [], _, _, _, _, _, h, h' => by obtain ⟨rfl, rfl⟩ := h.qI; exact h'
 | _ :: ds, _, _, _, _, _, h, h' => by
   obtain ⟨F1, F2, v, vs', rfl, rfl, h3, h4⟩ := h.out
   rw [List.append_assoc]
   exact .dJ h3 (kX.app h4 h')
theorem kX.parts : ∀ {ds es : List Dat} {F : List Nat} {vs : List Value}, kX w (ds ++ es) F vs → ∃ F1 F2 v1 v2, F = F1 ++ F2 ∧ vs = v1 ++ v2 ∧ kX w ds F1 v1 ∧ kX w es F2 v2
 | [], _, F, vs, h => ⟨[], F, [], vs, rfl, rfl, .lu, h⟩
 | _ :: ds, _, _, _, h => by
   obtain ⟨F1, F2, v, vs', rfl, rfl, h3, h4⟩ := kX.out h
   obtain ⟨G1, G2, v1, v2, rfl, rfl, h5, h6⟩ := kX.parts h4
   exact ⟨F1 ++ G1, G2, v :: v1, v2, by simp, by simp, .dJ h3 h5, h6⟩
end
def gZ (w : World) (lo hi : Nat) (ds : List Dat) (vs : List Value) : Prop := ∃ F : List Nat, kX w ds F vs ∧ F.Nodup ∧ ∀ g ∈ F, lo ≤ g ∧ g < hi
section
variable {w w' : World} {lo mid hi : Nat} {ds es : List Dat} {vs us : List Value}
theorem gZ.rep (h : gZ w lo hi ds vs) : eU w lo hi ds vs := by obtain ⟨F, h1, _, h3⟩ := h; exact h1.rep h3
theorem gZ.len (h : gZ w lo hi ds vs) : vs.length = ds.length := by obtain ⟨F, h1, _⟩ := h; exact h1.len
theorem gZ.wide {lo' hi' : Nat} (h : gZ w lo hi ds vs) (h1 : lo' ≤ lo) (h2 : hi ≤ hi') : gZ w lo' hi' ds vs := by
 obtain ⟨F, g1, g2, g3⟩ := h
 exact ⟨F, g1, g2, fun g hg => ⟨nT h1 (g3 g hg).1, nL (g3 g hg).2 h2⟩⟩
theorem gZ.kept (h : gZ w lo hi ds vs) (hk : ∀ g, lo ≤ g → g < hi → w'.heap[g]? = w.heap[g]?) : gZ w' lo hi ds vs := by
 obtain ⟨F, g1, g2, g3⟩ := h
 exact ⟨F, g1.kept fun g hg => hk g (g3 g hg).1 (g3 g hg).2, g2, g3⟩
theorem gZ.below {B : Nat} (h : gZ w lo hi ds vs) (hb : Below B w w') (hB : hi ≤ B) : gZ w' lo hi ds vs := h.kept fun g _ h2 => hb.block g (nL h2 hB)
theorem gZ.same (h : gZ w lo hi ds vs) (hs : Same w w') : gZ w' lo hi ds vs := h.kept fun g _ _ => by rw [hs.heap]
theorem gZ.eY (h : gZ w lo hi ds vs) {p : Addr} (hp : p.block < lo ∨ hi ≤ p.block) (u : Value) : gZ (w.setCell p u) lo hi ds vs := h.kept fun g h1 h2 => Below.heap_setCell w p u g (by omega)
theorem gZ.alloc (h : gZ w lo hi ds vs) (hB : hi ≤ w.heap.size) (o : Obj) : gZ (w.alloc o) lo hi ds vs := h.below ((bR w.heap.size w).alloc (nR _) o) hB
theorem gZ.gq {g : Nat} (hg : g < lo ∨ hi ≤ g) : ∀ (us : List Value) (w : World) (p : Nat), gZ w lo hi ds vs → gZ (gq w g p us) lo hi ds vs
 | [], _, _, h => h
 | u :: us, w, p, h => gZ.gq hg us _ (p + 1) (h.eY (p := ⟨g, p, none⟩) hg u)
theorem gZ.lu : gZ w lo hi [] [] := ⟨[], .lu, List.nodup_nil, by simp⟩
theorem xE {F G : List Nat} (hF : F.Nodup) (hG : G.Nodup) (h1 : ∀ g ∈ F, g < mid) (h2 : ∀ g ∈ G, mid ≤ g) : (F ++ G).Nodup := by
 refine List.nodup_append.2 ⟨hF, hG, fun a ha b hb e => ?_⟩
 subst e
 have := h1 a ha; have := h2 a hb; omega
theorem gZ.app (h : gZ w lo mid ds vs) (h' : gZ w mid hi es us) (h1 : lo ≤ mid) (h2 : mid ≤ hi) : gZ w lo hi (ds ++ es) (vs ++ us) := by
 obtain ⟨F, a1, a2, a3⟩ := h
 obtain ⟨G, b1, b2, b3⟩ := h'
 refine ⟨F ++ G, a1.app b1, xE a2 b2 (fun g hg => (a3 g hg).2) (fun g hg => (b3 g hg).1), fun g hg => ?_⟩
 rcases List.mem_append.1 hg with hg | hg
 ·have := a3 g hg; omega
 ·have := b3 g hg; omega
theorem gZ.gG {k : IntKind} {n : Int} (h : gZ w lo hi ds vs) : gZ w lo hi (.int k n :: ds) (.int k n :: vs) := by
 obtain ⟨F, a1, a2, a3⟩ := h; exact ⟨[] ++ F, .dJ .mkInt a1, a2, a3⟩
theorem gZ.wD {s : ByteArray} (h : gZ w lo hi ds vs) : gZ w lo hi (.str s :: ds) (.string s :: vs) := by
 obtain ⟨F, a1, a2, a3⟩ := h; exact ⟨[] ++ F, .dJ .mkStr a1, a2, a3⟩
theorem gZ.Ga {b : Bool} (h : gZ w lo hi ds vs) : gZ w lo hi (.bool b :: ds) (.bool b :: vs) := by
 obtain ⟨F, a1, a2, a3⟩ := h; exact ⟨[] ++ F, .dJ .zL a1, a2, a3⟩
end
def dI {α : Type} (w : World) (lo hi k : Nat) (f : α → List Dat) (v : Value) (l : List α) : Prop := ∃ F : List Nat, oQ w (.row k l.length (flat f l)) F v ∧ F.Nodup ∧ ∀ g ∈ F, lo ≤ g ∧ g < hi
section
variable {α : Type} {f : α → List Dat} {k : Nat} {w w' : World} {lo mid hi : Nat} {v : Value} {l : List α} {ds : List Dat} {vs : List Value}
theorem dI.rep (h : dI w lo hi k f v l) : dz w lo hi k f v l := by obtain ⟨F, h1, _, h3⟩ := h; exact h1.rep h3
theorem dI.wide {lo' hi' : Nat} (h : dI w lo hi k f v l) (h1 : lo' ≤ lo) (h2 : hi ≤ hi') : dI w lo' hi' k f v l := by
 obtain ⟨F, g1, g2, g3⟩ := h
 exact ⟨F, g1, g2, fun g hg => ⟨nT h1 (g3 g hg).1, nL (g3 g hg).2 h2⟩⟩
theorem dI.kept (h : dI w lo hi k f v l) (hk : ∀ g, lo ≤ g → g < hi → w'.heap[g]? = w.heap[g]?) : dI w' lo hi k f v l := by
 obtain ⟨F, g1, g2, g3⟩ := h
 exact ⟨F, g1.kept fun g hg => hk g (g3 g hg).1 (g3 g hg).2, g2, g3⟩
theorem dI.below {B : Nat} (h : dI w lo hi k f v l) (hb : Below B w w') (hB : hi ≤ B) : dI w' lo hi k f v l := h.kept fun g _ h2 => hb.block g (nL h2 hB)
theorem dI.same (h : dI w lo hi k f v l) (hs : Same w w') : dI w' lo hi k f v l := h.kept fun g _ _ => by rw [hs.heap]
theorem dI.eY (h : dI w lo hi k f v l) {p : Addr} (hp : p.block < lo ∨ hi ≤ p.block) (u : Value) : dI (w.setCell p u) lo hi k f v l := h.kept fun g h1 h2 => Below.heap_setCell w p u g (by omega)
theorem dI.alloc (h : dI w lo hi k f v l) (hB : hi ≤ w.heap.size) (o : Obj) : dI (w.alloc o) lo hi k f v l := h.below ((bR w.heap.size w).alloc (nR _) o) hB
theorem dI.mk_ {e : TypeId} (h : w.ownsRow lo e k v l.length vs) (h' : gZ w mid hi (flat f l) vs) (hg : ∀ g, v.ownBlock = some g → g < mid) (h1 : lo ≤ mid) (h2 : mid ≤ hi) : dI w lo hi k f v l := by
 obtain ⟨F, a1, a2, a3⟩ := h'
 refine ⟨_, oQ.u7 h a1, xE (mid := mid) ?_ a2 (fun g hv => hg g (by simpa using hv)) (fun g hv => (a3 g hv).1), fun g hv => ?_⟩
 ·cases v.ownBlock <;> simp
 ·rcases List.mem_append.1 hv with hv | hv
  ·have hv : v.ownBlock = some g := by simpa using hv
   have := (h.lt g hv).1; have := hg g hv; omega
  ·have := a3 g hv; omega
theorem gZ.rR (h : dI w lo mid k f v l) (h' : gZ w mid hi ds vs) (h1 : lo ≤ mid) (h2 : mid ≤ hi) : gZ w lo hi (.row k l.length (flat f l) :: ds) (v :: vs) := by
 obtain ⟨F, a1, a2, a3⟩ := h
 obtain ⟨G, b1, b2, b3⟩ := h'
 refine ⟨F ++ G, .dJ a1 b1, xE a2 b2 (fun g hg => (a3 g hg).2) (fun g hg => (b3 g hg).1), fun g hg => ?_⟩
 rcases List.mem_append.1 hg with hg | hg
 ·have := a3 g hg; omega
 ·have := b3 g hg; omega
end
theorem gZ.texts {w : World} {lo hi : Nat} : ∀ (l : List ByteArray), gZ w lo hi (flat eF l) (l.map .string)
 | [] => by rw [oP]; exact .lu
 | s :: l => by rw [ru]; exact gZ.wD (gZ.texts l)
theorem dI.texts {w : World} {lo hi : Nat} {e : TypeId} {v : Value} {l : List ByteArray} (h : w.ownsRow lo e 1 v l.length (l.map .string)) (hhi : w.heap.size ≤ hi) : dI w lo hi 1 eF v l := by
 obtain ⟨F, a1, a2, a3⟩ := gZ.texts (w := w) (lo := 0) (hi := 0) l
 have hF : F = [] := List.eq_nil_iff_forall_not_mem.2 fun g hg => by have := a3 g hg; omega
 subst hF
 refine ⟨_, oQ.u7 h a1, ?_, fun g hv => ?_⟩
 ·cases v.ownBlock <;> simp
 ·have hv : v.ownBlock = some g := by simpa using hv
  have := h.lt g hv; omega
def uN {α : Type} (f : α → List Dat) (c : α) (w : World) (e : Ending) (w' : World) : Prop := ∃ cs : List Value, e = .returned (.agg cs.toArray) ∧ gZ w' w.heap.size w'.heap.size (f c) cs ∧ Below w.heap.size w w'
def vT {α : Type} (k : Nat) (f : α → List Dat) (l : List α) (w : World) (e : Ending) (w' : World) : Prop := ∃ v, e = .returned v ∧ dI w' w.heap.size w'.heap.size k f v l ∧ Below w.heap.size w w'
theorem uN.own {α : Type} {f : α → List Dat} {c : α} {w w' : World} {e : Ending} (h : uN f c w e w') : Ro f c w e w' := by
 obtain ⟨cs, he, h1, hb⟩ := h; exact ⟨_, he, ⟨cs, rfl, h1.rep⟩, hb⟩
theorem vT.own {α : Type} {k : Nat} {f : α → List Dat} {l : List α} {w w' : World} {e : Ending} (h : vT k f l w e w') : Uq k f l w e w' := by
 obtain ⟨v, he, h1, hb⟩ := h; exact ⟨_, he, h1.rep, hb⟩
end
section
open Go Go.RowKit
section
variable {P : Program} {ops : Array Oper} {md : Region.Mode} {C : World → Prop}
def Rp (md : Region.Mode) (ops : Array Oper) (n : Nat) : Bool := (List.range ops.size).all fun t => decide (t ≤ n) || (List.range t).any fun u => decide (n ≤ u) && Region.waitsFor md ops t u
def M8 (P : Program) (md : Region.Mode) (ops : Array Oper) (C : World → Prop) (n : Nat) (L : Array Bool → Act → Prop) : Nat → Array Bool → Act → Prop
 | 0, listed, a => L listed a
 | f + 1, listed, a => Region.ready md ops listed ≠ [] ∧ ∀ i ∈ Region.ready md ops listed, i < n ∧ qOp P ops C i (M8 P md ops C n L f (listed.setIfInBounds i true)) a
def Eg (md : Region.Mode) (ops : Array Oper) (g : Nat) : Nat → Nat → Array Bool → Bool
 | 0, k, listed => Region.lexFrom md ops g k listed
 | m + 1, k, listed => decide (Region.ready md ops listed = [k]) && Eg md ops g m (k + 1) (listed.setIfInBounds k true)
def Ov (md : Region.Mode) (ops : Array Oper) (g m : Nat) : Nat → Nat → Array Bool → Bool
 | 0, k, listed => Eg md ops g m k listed
 | f + 1, k, listed => (Region.ready md ops listed).contains k && Region.free md ops listed k && Ov md ops g m f (k + 1) (listed.setIfInBounds k true)
def rY (P : Program) (ops : Array Oper) (Q : Exit → Act → World → Prop) (K : Act → World → Prop) : List Oper → Act → World → Prop
 | [], a, w => K a w
 | o :: rest, a, w => if Region.wanted o (yielded ops a.tmps) then o.wp P a w (rY P ops Q K rest) Q ∨ (o.asks P a w ∧ LetsOut Q) else rY P ops Q K rest (a.put o.dst undef) w
theorem wQ {Q : Exit → Act → World → Prop} {K : Act → World → Prop} {a : Act} {w : World} (h : K a w) : rY P ops Q K [] a w := h
theorem ou {Q : Exit → Act → World → Prop} {K : Act → World → Prop} {o : Oper} {rest : List Oper} {a : Act} {w : World} (hw : Region.wanted o (yielded ops a.tmps) = true)
 (h : ∀ K' : Act → World → Prop, Shut (∀ b v, rY P ops Q K rest b v → K' b v) → o.wp P a w K' Q) : rY P ops Q K (o :: rest) a w := by
 show (if _ then _ else _)
 rw [if_pos hw]
 exact Or.inl (h _ fun _ _ h => h)
theorem yt {Q' : Exit → Act → World → Prop} {K : Act → World → Prop} {g : Nat} :
 ∀ (l : List Oper) (k : Nat) (listed : Array Bool) (a : Act) (w : World), (∀ j, j < l.length → l[j]? = ops[k + j]?) → Eg md ops g l.length k listed = true →
  (∀ listed a w, Region.lexFrom md ops g (k + l.length) listed = true → K a w → wpAny P md ops Q' g listed a w) → rY P ops Q' K l a w → wpAny P md ops Q' (l.length + g) listed a w
 | [], k, listed, a, w, _, hB, hK, h => by rw [List.length_nil, Nat.zero_add]; exact hK listed a w (by simpa [Eg] using hB) h
 | o :: l, k, listed, a, w, hl, hB, hK, h => by
   have h0 : ops[k]? = some o := by simpa using (hl 0 (by simp)).symm
   simp only [List.length_cons, Eg, Bool.and_eq_true, decide_eq_true_eq] at hB
   rw [show (o :: l).length + g = (l.length + g) + 1 by simp; omega]
   refine ⟨fun h1 => (by rw [hB.1] at h1; cases h1), fun i hi => ?_⟩
   rw [hB.1] at hi
   obtain rfl : i = k := by simpa using hi
   have hw : wpOp P ops Q' i (rY P ops Q' K l) a w := by unfold wpOp; simp only [h0]; exact h
   refine wpOp_mono (fun a' w' h' => yt l (i + 1) _ a' w' (fun j hj => ?_) hB.2 (fun listed a w hx => hK listed a w ?_) h') hw
   ·have := hl (j + 1) (by simp; omega)
    simpa [Nat.add_assoc, Nat.add_comm 1 j] using this
   ·rw [List.length_cons, show i + (l.length + 1) = i + 1 + l.length by omega]; exact hx
def Vm (ops : Array Oper) (n m : Nat) : Bool :=
 Region.noSelect ops && decide (n + (m + 1) ≤ ops.size) && Region.sinkB .any ops n && Rp .any ops n && Ov .any ops (ops.size - (n + (m + 1))) (m + 1) n 0 (Array.replicate ops.size false)
end
end
section
open Go.RowKit
theorem Blk.wR {g q : Nat} {t : TypeId} {cs : Array Value} (hne : q ≠ g) : ∀ (us : List Value) (w : World) (p : Nat), Blk w g t cs → Blk (gq w q p us) g t cs
 | [], _, _, h => h
 | u :: us, w, p, h => Blk.wR hne us _ (p + 1) (h.far (p := ⟨q, p, none⟩) (Ne.symm hne) u)
theorem Blk.yF {g : Nat} {t : TypeId} : ∀ (us : List Value) (w : World) (p : Nat) (xs : List Value), Blk w g t xs.toArray → Blk (gq w g p us) g t (yE xs p us).toArray
 | [], _, _, _, h => h
 | u :: us, w, p, xs, h => by
   have h1 := h.M6 p u
   rw [show xs.toArray.setIfInBounds p u = (xs.set p u).toArray by simp] at h1
   exact Blk.yF us _ (p + 1) _ h1
theorem Blk.BM {w : World} {g : Nat} {t : TypeId} {cs : Array Value} (h : Blk w g t cs) (us : List Value) (hl : us.length = cs.size) : Blk (gq w g 0 us) g t us.toArray := by
 have h1 := Blk.yF us w 0 cs.toList (by simpa using h)
 have h2 := oq (Z := cs.toList) us [] 0 rfl (by simp [hl])
 simp only [List.nil_append, List.drop_zero, Nat.zero_add] at h2
 rw [h2, List.drop_eq_nil_of_le (by simp [hl]), List.append_nil] at h1
 exact h1
theorem dI.gq {α : Type} {f : α → List Dat} {k lo hi g : Nat} {v : Value} {l : List α} (hg : g < lo ∨ hi ≤ g) : ∀ (us : List Value) (w : World) (p : Nat), dI w lo hi k f v l → dI (gq w g p us) lo hi k f v l
 | [], _, _, h => h
 | u :: us, w, p, h => dI.gq hg us _ (p + 1) (h.eY (p := ⟨g, p, none⟩) hg u)
theorem rZ.put {w W : World} {t1 t2 : TypeId} {pc rc : Array Value} {xs : List Value} (h : rZ w W t1 t2 pc rc xs.toArray) (p : Nat) (us : List Value) : rZ w (gq W (w.heap.size + 1 + 1) p us) t1 t2 pc rc (yE xs p us).toArray :=
 ⟨lK (by omega) us _ _ p h.bel, Blk.wR (by omega) us _ p h.arg, Blk.wR (by omega) us _ p h.res, Blk.yF us _ p xs h.var⟩
theorem uU (g : Nat) : ∀ (us : List Value) (w : World) (p : Nat), w.setCells g p us = gq w g p us
 | [], _, _ => rfl
 | _ :: us, _, p => uU g us _ (p + 1)
theorem Blk.rO {w : World} {g : Nat} {t : TypeId} {cs : List Value} (h : Blk w g t cs.toArray) : w.rangeAt g 0 cs := fun j v hv => by rw [Nat.zero_add, h.cell]; simpa using hv
theorem Blk.KI {w : World} {g : Nat} {t : TypeId} {cs : List Value} (h : Blk w g t cs.toArray) (n : Nat) (hn : n ≤ cs.length) : w.there g 0 n := fun j hj => ⟨by rw [Nat.zero_add, h.cell]; simp; omega, h.frozen _⟩
theorem EI {P : Program} {fn : Func} {tmps : Array Value} {W : World} {n : Nat} {ty : TypeId} {p : Addr} {v : Value} (hf : fn.results = #[.cell n ty]) (ha : tmps.getD n undef = .pointer (some p)) (hl : (loadVar ty p).run P W = .ok v W) : Sem.run P (results fn tmps) W = .ok v W := by
 rw [Array.getD_eq_getD_getElem?] at ha
 simp [results, hf, asAddr, Sem.run_bind]
 rw [ha]
 simp [hl]
end
section
open Go.RowKit
theorem Gd (c : CsT) (x : Value) (w : World) (lo hi : Nat) (h : fA w lo hi CsT.ay x c) (hhi : hi ≤ w.heap.size) (hbk : c.dX ≤ 1048576) :
 Calls Tryz.prog 48 #[x] w (uN CsT.ay c w) := by
 obtain rfl := CsT.form h
 go_enter Tryz.func48, Tryz.ntmps48
 go_wp2_with fail
 refine bodyPost_ret (v := .agg #[Value.int .i64 c.low, .int .i64 c.high]) ?_ rfl ⟨[Value.int .i64 c.low, .int .i64 c.high], rfl, (.gG (.gG .lu)), ?_⟩
 ·simp [results, Tryz.results48, go_sem]
 ·exact ((bA _ _).alloc (by simp) _).alloc (by simp; omega) _
end
end Go.Proofs.YtoddlphekcihgaaGreatDoor
