/- WX words for what the walks lay often (boxes laid one after the other; the facts of a box). Data in memory: one-cell data (numbers, texts, flags, rows of str -/
import Derived.Test.YthbcamfejgghhaaGreatDoorQ00
import Derived.Test.YthbcamfejgghhaaGreatDoorQSr
import Derived.Test.YthbcamfejgghhaaGreatDoorProg
import Derived.Test.YthbcamfejgghhaaGreatDoorShelf
set_option maxRecDepth 100000
set_option maxHeartbeats 8000000
set_option linter.unusedVariables false
set_option linter.unusedSimpArgs false
namespace Go.Proofs.YthbcamfejgghhaaGreatDoor
open Go.IntKind (i64)
open Go.RowKit
theorem Blk.all {w : World} {g : Nat} {t : TypeId} {cs : Array Value} (h : Blk w g t cs) : (∀ i, w.cell? ⟨g, i, none⟩ = cs[i]?) ∧ g < w.heap.size ∧ ∀ i, w.frozen? ⟨g, i, none⟩ = false := ⟨h.cell, h.lt, h.frozen⟩
section
inductive Dat where
 | int (k : IntKind) (n : Int)
 | str (s : ByteArray)
 | bool (b : Bool)
 | row (size n : Nat) (ds : List Dat)
mutual
def Rep (w : World) (lo hi : Nat) : Dat → Value → Prop
 | .int k n, v => v = .int k n
 | .str s, v => v = .string s
 | .bool b, v => v = .bool b
 | .row size n ds, v => ∃ vs, Rds w lo hi size v n vs ∧ eU w lo hi ds vs
def eU (w : World) (lo hi : Nat) : List Dat → List Value → Prop
 | [], vs => vs = []
 | d :: ds, vs => ∃ v vs', vs = v :: vs' ∧ Rep w lo hi d v ∧ eU w lo hi ds vs'
end
section
variable {w w' : World} {lo hi : Nat}
mutual
theorem Rep.mono {lo' hi' : Nat} (hk : ∀ (size n : Nat) (v : Value) (vs : List Value), Rds w lo hi size v n vs → Rds w' lo' hi' size v n vs) : ∀ (d : Dat) (v : Value), Rep w lo hi d v → Rep w' lo' hi' d v
 | .int _ _, _, h => by simp only [Rep] at h ⊢; exact h
 | .str _, _, h => by simp only [Rep] at h ⊢; exact h
 | .bool _, _, h => by simp only [Rep] at h ⊢; exact h
 | .row size n ds, v, h => by
   simp only [Rep] at h ⊢
   obtain ⟨vs, h1, h2⟩ := h
   exact ⟨vs, hk _ _ _ _ h1, eU.mono hk ds vs h2⟩
theorem eU.mono {lo' hi' : Nat} (hk : ∀ (size n : Nat) (v : Value) (vs : List Value), Rds w lo hi size v n vs → Rds w' lo' hi' size v n vs) : ∀ (ds : List Dat) (vs : List Value), eU w lo hi ds vs → eU w' lo' hi' ds vs
 | [], _, h => by simp only [eU] at h ⊢; exact h
 | d :: ds, _, h => by
   simp only [eU] at h ⊢
   obtain ⟨v, vs', rfl, h1, h2⟩ := h
   exact ⟨v, vs', rfl, Rep.mono hk d v h1, eU.mono hk ds vs' h2⟩
end
theorem Rep.keep {d : Dat} {v : Value} (h : Rep w lo hi d v) (hk : ∀ p : Addr, lo ≤ p.block → p.block < hi → w'.cell? p = w.cell? p) : Rep w' lo hi d v := Rep.mono (fun _ _ _ _ hr => hr.keep hk) d v h
theorem eU.keep {ds : List Dat} {vs : List Value} (h : eU w lo hi ds vs) (hk : ∀ p : Addr, lo ≤ p.block → p.block < hi → w'.cell? p = w.cell? p) : eU w' lo hi ds vs := eU.mono (fun _ _ _ _ hr => hr.keep hk) ds vs h
theorem Rep.below {B : Nat} {d : Dat} {v : Value} (h : Rep w lo hi d v) (hb : Below B w w') (hB : hi ≤ B) : Rep w' lo hi d v := h.keep fun _ _ hp => hb.cell ah
theorem eU.below {B : Nat} {ds : List Dat} {vs : List Value} (h : eU w lo hi ds vs) (hb : Below B w w') (hB : hi ≤ B) : eU w' lo hi ds vs := h.keep fun _ _ hp => hb.cell ah
theorem Rep.same {d : Dat} {v : Value} (h : Rep w lo hi d v) (hs : Same w w') : Rep w' lo hi d v := h.keep fun p _ _ => hs.cell p
theorem eU.same {ds : List Dat} {vs : List Value} (h : eU w lo hi ds vs) (hs : Same w w') : eU w' lo hi ds vs := h.keep fun p _ _ => hs.cell p
theorem Rep.wide {lo' hi' : Nat} {d : Dat} {v : Value} (h : Rep w lo hi d v) (h1 : lo' ≤ lo) (h2 : hi ≤ hi') : Rep w lo' hi' d v := Rep.mono (fun _ _ _ _ hr => hr.wide h1 h2) d v h
theorem eU.wide {lo' hi' : Nat} {ds : List Dat} {vs : List Value} (h : eU w lo hi ds vs) (h1 : lo' ≤ lo) (h2 : hi ≤ hi') : eU w lo' hi' ds vs := eU.mono (fun _ _ _ _ hr => hr.wide h1 h2) ds vs h
theorem Rep.alloc {d : Dat} {v : Value} (h : Rep w lo hi d v) (hB : hi ≤ w.heap.size) (o : Obj) : Rep (w.alloc o) lo hi d v := h.below ((Below.refl w.heap.size w).alloc (Nat.le_refl _) o) hB
theorem eU.alloc {ds : List Dat} {vs : List Value} (h : eU w lo hi ds vs) (hB : hi ≤ w.heap.size) (o : Obj) : eU (w.alloc o) lo hi ds vs := h.below ((Below.refl w.heap.size w).alloc (Nat.le_refl _) o) hB
theorem Rep.gQ {d : Dat} {v : Value} (h : Rep w lo hi d v) {p : Addr} (hp : p.block < lo ∨ hi ≤ p.block) (u : Value) : Rep (w.setCell p u) lo hi d v := Rep.mono (fun _ _ _ _ hr => hr.gQ hp u) d v h
theorem eU.gQ {ds : List Dat} {vs : List Value} (h : eU w lo hi ds vs) {p : Addr} (hp : p.block < lo ∨ hi ≤ p.block) (u : Value) : eU (w.setCell p u) lo hi ds vs := eU.mono (fun _ _ _ _ hr => hr.gQ hp u) ds vs h
theorem Rep.grown {row : Option Nat} {d : Dat} {v : Value} (h : Rep w lo hi d v) (hg : w.grownBy w' row) (hB : hi ≤ w.heap.size) (hr : ∀ g, row = some g → g < lo ∨ hi ≤ g) : Rep w' lo hi d v := Rep.mono (fun _ _ _ _ h => h.grown hg hB hr) d v h
theorem eU.grown {row : Option Nat} {ds : List Dat} {vs : List Value} (h : eU w lo hi ds vs) (hg : w.grownBy w' row) (hB : hi ≤ w.heap.size) (hr : ∀ g, row = some g → g < lo ∨ hi ≤ g) : eU w' lo hi ds vs := eU.mono (fun _ _ _ _ h => h.grown hg hB hr) ds vs h
theorem eU.len : ∀ {ds : List Dat} {vs : List Value}, eU w lo hi ds vs → vs.length = ds.length
 | [], _, h => by simp only [eU] at h; subst h; rfl
 | _ :: ds, _, h => by
   simp only [eU] at h
   obtain ⟨v, vs', rfl, _, h2⟩ := h
   simp [eU.len h2]
theorem eU.app : ∀ {ds es : List Dat} {vs us : List Value}, eU w lo hi ds vs → eU w lo hi es us → eU w lo hi (ds ++ es) (vs ++ us)
 | [], _, _, _, h, h' => by simp only [eU] at h; subst h; exact h'
 | _ :: ds, _, _, _, h, h' => by
   simp only [eU, List.cons_append] at h ⊢
   obtain ⟨v, vs', rfl, h1, h2⟩ := h
   exact ⟨v, vs' ++ _, rfl, h1, eU.app h2 h'⟩
theorem eU.parts : ∀ {ds es : List Dat} {vs : List Value}, eU w lo hi (ds ++ es) vs → eU w lo hi ds (vs.take ds.length) ∧ eU w lo hi es (vs.drop ds.length)
 | [], _, _, h => by simpa [eU] using h
 | d :: ds, _, _, h => by
   simp only [eU, List.cons_append] at h ⊢
   obtain ⟨v, vs', rfl, h1, h2⟩ := h
   obtain ⟨g1, g2⟩ := eU.parts h2
   exact ⟨⟨v, _, av, h1, g1⟩, by simpa using g2⟩
theorem eU.eO : eU w lo hi [] [] := by simp only [eU]
theorem eU.aN {d : Dat} {ds : List Dat} {v : Value} {vs : List Value} (h : Rep w lo hi d v) (h' : eU w lo hi ds vs) : eU w lo hi (d :: ds) (v :: vs) := by simp only [eU]; exact ⟨v, vs, rfl, h, h'⟩
theorem eU.out {d : Dat} {ds : List Dat} {vs : List Value} (h : eU w lo hi (d :: ds) vs) : ∃ v vs', vs = v :: vs' ∧ Rep w lo hi d v ∧ eU w lo hi ds vs' := by simpa only [eU] using h
theorem eU.jc {vs : List Value} (h : eU w lo hi [] vs) : vs = [] := by simpa only [eU] using h
theorem Rep.iF {k : IntKind} {n : Int} {v : Value} (h : Rep w lo hi (.int k n) v) : v = .int k n := by simpa only [Rep] using h
theorem Rep.oq {s : ByteArray} {v : Value} (h : Rep w lo hi (.str s) v) : v = .string s := by simpa only [Rep] using h
theorem Rep.Kz {b : Bool} {v : Value} (h : Rep w lo hi (.bool b) v) : v = .bool b := by simpa only [Rep] using h
theorem Rep.uG {size n : Nat} {ds : List Dat} {v : Value} (h : Rep w lo hi (.row size n ds) v) : ∃ vs, Rds w lo hi size v n vs ∧ eU w lo hi ds vs := by simpa only [Rep] using h
theorem Rep.mkInt {k : IntKind} {n : Int} : Rep w lo hi (.int k n) (.int k n) := by simp only [Rep]
theorem Rep.mkStr {s : ByteArray} : Rep w lo hi (.str s) (.string s) := by simp only [Rep]
theorem Rep.MC {b : Bool} : Rep w lo hi (.bool b) (.bool b) := by simp only [Rep]
theorem Rep.iV {size n : Nat} {ds : List Dat} {v : Value} {vs : List Value} (h : Rds w lo hi size v n vs) (h' : eU w lo hi ds vs) : Rep w lo hi (.row size n ds) v := by simp only [Rep]; exact ⟨vs, h, h'⟩
theorem Rep.shape {size n : Nat} {ds : List Dat} {v : Value} (h : Rep w lo hi (.row size n ds) v) : ∃ A c, v = .slice A n c ∧ n ≤ c ∧ c ≤ maxLen ∧ ds.length = n * size := by
 obtain ⟨vs, h1, h2⟩ := h.uG
 obtain ⟨A, c, hv, g1, g2, g3⟩ := h1.shape
 exact ⟨A, c, hv, g1, g2, by rw [← h2.len, g3]⟩
theorem Rep.elem {size n j : Nat} {ds a e b : List Dat} {A : Option Addr} {c : Nat} (h : Rep w lo hi (.row size n ds) (.slice A n c)) (hj : j < n) (hds : ds = a ++ (e ++ b)) (ha : a.length = j * size) (he : e.length = size) :
 ∃ g off us, A = some ⟨g, off, none⟩ ∧ lo ≤ g ∧ g < hi ∧ us.length = size ∧ eU w lo hi e us ∧ ∀ i u, us[i]? = some u → w.cell? (aj g (off + j * size + i)) = some u := by
 obtain ⟨vs, h1, h2⟩ := h.uG
 subst hds
 obtain ⟨-, g2⟩ := h2.parts
 obtain ⟨g3, -⟩ := g2.parts
 obtain ⟨A', c', hv, k1, k2, k3, -, k4⟩ := h1
 injection hv with hA _ hc
 subst hA hc
 obtain ⟨g, off, hA, hg1, hg2, hcell⟩ := k4 ah
 refine ⟨g, off, _, hA, hg1, hg2, by rw [g3.len, he], g3, fun i u hu => ?_⟩
 rw [List.getElem?_take] at hu
 split at hu
 ·rw [List.getElem?_drop, ha] at hu
  rw [Nat.add_assoc]
  exact hcell _ u hu
 cases hu
end
def kU (w : World) (lo hi : Nat) (ds : List Dat) (x : Value) : Prop := ∃ cs : List Value, x = .agg cs.toArray ∧ eU w lo hi ds cs
section
variable {w w' : World} {lo hi : Nat} {ds : List Dat} {x : Value}
theorem kU.keep (h : kU w lo hi ds x) (hk : ∀ p : Addr, lo ≤ p.block → p.block < hi → w'.cell? p = w.cell? p) : kU w' lo hi ds x := by obtain ⟨cs, hx, h1⟩ := h; exact ⟨cs, hx, h1.keep hk⟩
theorem kU.below {B : Nat} (h : kU w lo hi ds x) (hb : Below B w w') (hB : hi ≤ B) : kU w' lo hi ds x := h.keep fun _ _ hp => hb.cell ah
theorem kU.same (h : kU w lo hi ds x) (hs : Same w w') : kU w' lo hi ds x := h.keep fun p _ _ => hs.cell p
theorem kU.wide {lo' hi' : Nat} (h : kU w lo hi ds x) (h1 : lo' ≤ lo) (h2 : hi ≤ hi') : kU w lo' hi' ds x := by obtain ⟨cs, hx, g⟩ := h; exact ⟨cs, hx, g.wide h1 h2⟩
theorem kU.alloc (h : kU w lo hi ds x) (hB : hi ≤ w.heap.size) (o : Obj) : kU (w.alloc o) lo hi ds x := h.below ((Below.refl w.heap.size w).alloc (Nat.le_refl _) o) hB
theorem kU.gQ (h : kU w lo hi ds x) {p : Addr} (hp : p.block < lo ∨ hi ≤ p.block) (u : Value) : kU (w.setCell p u) lo hi ds x := by obtain ⟨cs, hx, g⟩ := h; exact ⟨cs, hx, g.gQ hp u⟩
theorem kU.grown {row : Option Nat} (h : kU w lo hi ds x) (hg : w.grownBy w' row) (hB : hi ≤ w.heap.size) (hr : ∀ g, row = some g → g < lo ∨ hi ≤ g) : kU w' lo hi ds x := by obtain ⟨cs, hx, g⟩ := h; exact ⟨cs, hx, g.grown hg hB hr⟩
end
def ku (w : World) (g : Nat) : Nat → List Value → World
 | _, [] => w
 | p, u :: us => ku (w.setCell ⟨g, p, none⟩ u) g (p + 1) us
def sS : List Value → Nat → List Value → List Value
 | xs, _, [] => xs
 | xs, p, u :: us => sS (xs.set p u) (p + 1) us
theorem xB {base : Nat} {e : TypeId} {size n cap g : Nat} : ∀ (us : List Value) (w : World) (xs : List Value) (p : Nat), w.ownsRow base e size (.slice (some (aj g 0)) n cap) n xs → (ku w g p us).ownsRow base e size (.slice (some (aj g 0)) n cap) n (sS xs p us)
 | [], _, _, _, h => h
 | u :: us, _, _, p, h => xB us _ _ (p + 1) (h.stored p u).1
theorem eU.ku {lo hi g : Nat} {ds : List Dat} {vs : List Value} (hg : g < lo ∨ hi ≤ g) : ∀ (us : List Value) (w : World) (p : Nat), eU w lo hi ds vs → eU (ku w g p us) lo hi ds vs
 | [], _, _, h => h
 | u :: us, _, p, h => eU.ku hg us _ (p + 1) (h.gQ (p := ⟨g, p, none⟩) hg u)
theorem fA {w w' : World} {base : Nat} {e : TypeId} {size n : Nat} {v : Value} {xs : List Value} (h : w.ownsRow base e size v n xs) (hb : Below w.heap.size w w') : w'.ownsRow base e size v n xs :=
 h.kept (iE hb none) (by cases v.ownBlock <;> simp)
theorem Vn {w : World} {base : Nat} {e : TypeId} {size n g cap : Nat} {xs : List Value} (h : w.ownsRow base e size (.slice (some (aj g 0)) n cap) n xs) (j : Nat) (hj : j < n * size) : (∃ u, w.cell? (aj g j) = some u) ∧ w.frozen? (aj g j) = false :=
 ⟨⟨_, (h.cellAt j hj).trans (List.getElem?_eq_getElem (by rw [h.1]; exact hj))⟩, h.frozenAt j⟩
end
theorem ME : Tryz.prog.globalNamed "strings.asciiSpace" = some 0 := aI
def bT (w : World) : Prop := Lib.TabIs Tryz.prog w "strings.asciiSpace" .u8 Lib.asciiSpaceTab ∧ 0 < w.heap.size
theorem bT.below {w w' : World} {B : Nat} (h : bT w) (hb : Below B w w') (hB : 0 < B) : bT w' :=
 ⟨var?_below hb ME hB h.1, nL h.2 hb.size⟩
theorem bT.later {w w' : World} (h : bT w) (hb : Below w.heap.size w w') : bT w' := h.below hb h.2
theorem kV {s : ByteArray} {w : World} {Q : Ending → World → Prop} (n : Nat) (hs : s.size < 4294967281) (ha : (s.data.toList.all fun b => decide (b.toNat < 128)) = true)
 (hn : (Lib.fields s.data.toList).length = n) (hne : ((Lib.fields s.data.toList).all fun l => !l.isEmpty && decide (l.length ≤ 20)) = true) (ht : bT w)
 (h : ∀ (l : List ByteArray) (w' : World), l = (Lib.fields s.data.toList).map (fun x => (⟨x.toArray⟩ : ByteArray)) → l.length = n → (∀ t ∈ l, t.toList.isEmpty = false ∧ t.size ≤ 20) → Blk w' w.heap.size 9 (l.map .string).toArray → Below w.heap.size w w' → Q (.returned (.slice (some (aj w.heap.size 0)) n n)) w') :
 Calls Tryz.prog 39 #[.string s] w Q := by
 refine (Tryz.strings_Fields_laid s w hs (fun j b hj => ?_) ht.1).mono fun e w' ⟨he, hw⟩ => ?_
 ·have := List.all_eq_true.1 ha b (mG hj)
  simpa using this
 subst he hw
 rw [hn]
 refine h ((Lib.fields s.data.toList).map fun l => ⟨l.toArray⟩) _ rfl (by rw [List.length_map, hn]) (fun t ht => ?_) ?_ (bA _ _)
 ·obtain ⟨l, hl, rfl⟩ := List.mem_map.1 ht
  have := List.all_eq_true.1 hne l hl
  simp only [Bool.and_eq_true, Bool.not_eq_true', decide_eq_true_eq] at this
  exact ⟨by rw [ByteArray.toList_eq]; exact this.1, by simpa [ByteArray.size] using this.2⟩
 rw [List.map_map]
 exact Blk.new w _ _
theorem lS {w : World} {g : Nat} {l : List ByteArray} (h : Blk w g 9 (l.map Value.string).toArray) (j : Nat) (hj : j < l.length) : w.cell? (aj g j) = some (.string (l.getD j ByteArray.empty)) := by
 rw [h.cell, List.getElem?_toArray, List.getElem?_map, List.getD, gE hj]
 rfl
def sU (op : Int) : Bool := decide ((1 ≤ op ∧ op ≤ 11) ∨ (20 ≤ op ∧ op ≤ 25) ∨ (30 ≤ op ∧ op ≤ 35) ∨ (40 ≤ op ∧ op ≤ 47) ∨ (50 ≤ op ∧ op ≤ 54) ∨ (60 ≤ op ∧ op ≤ 63) ∨ (70 ≤ op ∧ op ≤ 79) ∨ op = 81 ∨ (220 ≤ op ∧ op ≤ 225) ∨ (250 ≤ op ∧ op ≤ 254))
def dH (op : Int) : Int := if sU op = false then 0 else if op ≤ 11 ∨ op = 81 then 1 else if op = 71 ∨ op = 72 then 3 else if op = 73 then 2 else if op = 74 then 0 else 2
def dM (op : Int) : Int := if sU op = false then -1 else if op ≤ 11 ∨ op = 81 then 1 else if op = 71 ∨ op = 72 then 3 else if op = 73 then 8 else if op = 74 then 8 else 2
def GH (b : Nat) (op : Int) (w : World) (e : Ending) (w' : World) : Prop := ∃ t : ByteArray, e = .returned (.string t) ∧ t.toList.isEmpty = !sU op ∧ t.size ≤ b ∧ Below w.heap.size w w'
def iN (op : Int) : World → Ending → World → Prop := GH 22 op
theorem GH.up {b : Nat} {op : Int} {w w' : World} {e : Ending} (h : GH b op w e w') (hb : b ≤ 22) : iN op w e w' := by obtain ⟨t, h1, h2, h3, h4⟩ := h; exact ⟨t, h1, h2, ah, h4⟩
theorem qh {op : Int} (h : (1 ≤ op ∧ op ≤ 11) ∨ (20 ≤ op ∧ op ≤ 25) ∨ (30 ≤ op ∧ op ≤ 35) ∨ (40 ≤ op ∧ op ≤ 47) ∨ (50 ≤ op ∧ op ≤ 54) ∨ (60 ≤ op ∧ op ≤ 63) ∨ (70 ≤ op ∧ op ≤ 79) ∨ op = 81 ∨ (220 ≤ op ∧ op ≤ 225) ∨ (250 ≤ op ∧ op ≤ 254)) : sU op = true := dT h
theorem UR {op : Int} (h : ¬ ((1 ≤ op ∧ op ≤ 11) ∨ (20 ≤ op ∧ op ≤ 25) ∨ (30 ≤ op ∧ op ≤ 35) ∨ (40 ≤ op ∧ op ≤ 47) ∨ (50 ≤ op ∧ op ≤ 54) ∨ (60 ≤ op ∧ op ≤ 63) ∨ (70 ≤ op ∧ op ≤ 79) ∨ op = 81 ∨ (220 ≤ op ∧ op ≤ 225) ∨ (250 ≤ op ∧ op ≤ 254))) : sU op = false := dF h
end Go.Proofs.YthbcamfejgghhaaGreatDoor
