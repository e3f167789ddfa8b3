/- Data of a call's own, block by block: every row lies in a block of its own. Plain lemmas, no program. Za, YR of the laws. -/
import Derived.Test.YthbcamfejgghhaaGreatDoorQ04
set_option maxRecDepth 100000
set_option maxHeartbeats 8000000
set_option linter.unusedVariables false
set_option linter.unusedSimpArgs false
namespace Go.Proofs.YthbcamfejgghhaaGreatDoor
open Go.IntKind (i64)
open Go.RowKit
section
theorem dR {w w' : World} {base : Nat} {e : TypeId} {size n : Nat} {v : Value} {xs : List Value} (h : w.ownsRow base e size v n xs) (hk : ∀ g, v.ownBlock = some g → w'.heap[g]? = w.heap[g]?) : w'.ownsRow base e size v n xs := by
 refine ⟨h.1, ?_⟩
 rcases h.2 with h | ⟨g, cap, cur, rfl, hb, hg, h⟩
 ·exact .inl h
 exact .inr ⟨g, cap, cur, rfl, hb, by rw [hk g rfl]; exact hg, h⟩
theorem qx {w : World} {base base' : Nat} {e : TypeId} {size n : Nat} {v : Value} {xs : List Value} (h : w.ownsRow base e size v n xs) (hb : ∀ g, v.ownBlock = some g → base' ≤ g) : w.ownsRow base' e size v n xs := by
 refine ⟨h.1, ?_⟩
 rcases h.2 with h | ⟨g, cap, cur, rfl, _, hg, h⟩
 ·exact .inl h
 exact .inr ⟨g, cap, cur, rfl, hb g rfl, hg, h⟩
theorem Rds.MK {w : World} {base lo hi : Nat} {e : TypeId} {size n : Nat} {v : Value} {xs : List Value} (h : w.ownsRow base e size v n xs) (hb : ∀ g, v.ownBlock = some g → lo ≤ g ∧ g < hi) : Rds w lo hi size v n xs := by
 obtain ⟨A, c, hv, h1, h2, h3, h5, h4⟩ := Rds.dU h
 refine ⟨A, c, hv, h1, h2, h3, h5, fun hn => ?_⟩
 obtain ⟨g, off, hA, hg1, hg2, hc⟩ := h4 hn
 subst hv hA
 have ho : off = 0 := by
  rcases h.2 with ⟨h, _⟩ | ⟨g', cap, cur, h, _⟩
  ·cases h
  injection h with h; injection h with h; injection h
 subst ho
 obtain ⟨b1, b2⟩ := hb g rfl
 exact ⟨g, 0, rfl, b1, b2, hc⟩
mutual
def dK (w : World) : Dat → List Nat → Value → Prop
 | .int k n, F, v => F = [] ∧ v = .int k n
 | .str s, F, v => F = [] ∧ v = .string s
 | .bool b, F, v => F = [] ∧ v = .bool b
 | .row size n ds, F, v => ∃ e vs F', w.ownsRow 0 e size v n vs ∧ F = v.ownBlock.toList ++ F' ∧ aO w ds F' vs
def aO (w : World) : List Dat → List Nat → List Value → Prop
 | [], F, vs => F = [] ∧ vs = []
 | d :: ds, F, vs => ∃ F1 F2 v vs', F = F1 ++ F2 ∧ vs = v :: vs' ∧ dK w d F1 v ∧ aO w ds F2 vs'
end
section
variable {w w' : World}
mutual
theorem dK.kept : ∀ {d : Dat} {F : List Nat} {v : Value}, dK w d F v → (∀ g ∈ F, w'.heap[g]? = w.heap[g]?) → dK w' d F v
 | .int _ _, _, _, h, _ => by simp only [dK] at h ⊢; exact h
 | .str _, _, _, h, _ => by simp only [dK] at h ⊢; exact h
 | .bool _, _, _, h, _ => by simp only [dK] at h ⊢; exact h
 | .row size n ds, F, v, h, hk => by
   simp only [dK] at h ⊢
   obtain ⟨e, vs, F', h1, h2, h3⟩ := h
   exact ⟨e, vs, F', dR h1 fun g hg => hk g (by rw [h2, hg]; simp), h2, aO.kept h3 fun g hg => hk g (by rw [h2]; simp [hg])⟩
theorem aO.kept : ∀ {ds : List Dat} {F : List Nat} {vs : List Value}, aO w ds F vs → (∀ g ∈ F, w'.heap[g]? = w.heap[g]?) → aO w' ds F vs
 | [], _, _, h, _ => by simp only [aO] at h ⊢; exact h
 | d :: ds, F, vs, h, hk => by
   simp only [aO] at h ⊢
   obtain ⟨F1, F2, v, vs', h1, h2, h3, h4⟩ := h
   exact ⟨F1, F2, v, vs', h1, h2, dK.kept h3 fun g hg => hk g (by rw [h1]; simp [hg]), aO.kept h4 fun g hg => hk g (by rw [h1]; simp [hg])⟩
end
mutual
theorem dK.rep {lo hi : Nat} : ∀ {d : Dat} {F : List Nat} {v : Value}, dK w d F v → (∀ g ∈ F, lo ≤ g ∧ g < hi) → Rep w lo hi d v
 | .int _ _, _, _, h, _ => by simp only [dK] at h; rw [h.2]; exact .mkInt
 | .str _, _, _, h, _ => by simp only [dK] at h; rw [h.2]; exact .mkStr
 | .bool _, _, _, h, _ => by simp only [dK] at h; rw [h.2]; exact .MC
 | .row size n ds, F, v, h, hk => by
   simp only [dK] at h
   obtain ⟨e, vs, F', h1, h2, h3⟩ := h
   exact .iV (Rds.MK h1 fun g hg => hk g (by rw [h2, hg]; simp)) (aO.rep h3 fun g hg => hk g (by rw [h2]; simp [hg]))
theorem aO.rep {lo hi : Nat} : ∀ {ds : List Dat} {F : List Nat} {vs : List Value}, aO w ds F vs → (∀ g ∈ F, lo ≤ g ∧ g < hi) → eU w lo hi ds vs
 | [], _, _, h, _ => by simp only [aO] at h; rw [h.2]; exact .eO
 | d :: ds, F, vs, h, hk => by
   simp only [aO] at h
   obtain ⟨F1, F2, v, vs', h1, rfl, h3, h4⟩ := h
   exact .aN (dK.rep h3 fun g hg => hk g (by rw [h1]; simp [hg])) (aO.rep h4 fun g hg => hk g (by rw [h1]; simp [hg]))
end
mutual
theorem dK.lt : ∀ {d : Dat} {F : List Nat} {v : Value}, dK w d F v → ∀ g ∈ F, g < w.heap.size
 | .int _ _, _, _, h => by simp only [dK] at h; rw [h.1]; simp
 | .str _, _, _, h => by simp only [dK] at h; rw [h.1]; simp
 | .bool _, _, _, h => by simp only [dK] at h; rw [h.1]; simp
 | .row size n ds, F, v, h => by
   simp only [dK] at h
   obtain ⟨e, vs, F', h1, h2, h3⟩ := h
   intro g hg
   rw [h2] at hg
   rcases mA hg with hg | hg
   ·exact (h1.lt g jK).2
   exact aO.lt h3 g hg
theorem aO.lt : ∀ {ds : List Dat} {F : List Nat} {vs : List Value}, aO w ds F vs → ∀ g ∈ F, g < w.heap.size
 | [], _, _, h => by simp only [aO] at h; rw [h.1]; simp
 | d :: ds, F, vs, h => by
   simp only [aO] at h
   obtain ⟨F1, F2, v, vs', h1, rfl, h3, h4⟩ := h
   intro g hg
   rw [h1] at hg
   rcases mA hg with hg | hg
   ·exact dK.lt h3 g hg
   exact aO.lt h4 g hg
end
theorem aO.eO : aO w [] [] [] := by simp [aO]
theorem aO.aN {d : Dat} {ds : List Dat} {F1 F2 : List Nat} {v : Value} {vs : List Value} (h : dK w d F1 v) (h' : aO w ds F2 vs) : aO w (d :: ds) (F1 ++ F2) (v :: vs) := by simp only [aO]; exact ⟨F1, F2, v, vs, rfl, rfl, h, h'⟩
theorem aO.out {d : Dat} {ds : List Dat} {F : List Nat} {vs : List Value} (h : aO w (d :: ds) F vs) : ∃ F1 F2 v vs', F = F1 ++ F2 ∧ vs = v :: vs' ∧ dK w d F1 v ∧ aO w ds F2 vs' := by simpa only [aO] using h
theorem aO.jc {F : List Nat} {vs : List Value} (h : aO w [] F vs) : F = [] ∧ vs = [] := by simpa only [aO] using h
theorem dK.iF {k : IntKind} {n : Int} {F : List Nat} {v : Value} (h : dK w (.int k n) F v) : F = [] ∧ v = .int k n := by simpa only [dK] using h
theorem dK.oq {s : ByteArray} {F : List Nat} {v : Value} (h : dK w (.str s) F v) : F = [] ∧ v = .string s := by simpa only [dK] using h
theorem dK.Kz {b : Bool} {F : List Nat} {v : Value} (h : dK w (.bool b) F v) : F = [] ∧ v = .bool b := by simpa only [dK] using h
theorem dK.uG {size n : Nat} {ds : List Dat} {F : List Nat} {v : Value} (h : dK w (.row size n ds) F v) : ∃ e vs F', w.ownsRow 0 e size v n vs ∧ F = v.ownBlock.toList ++ F' ∧ aO w ds F' vs := by simpa only [dK] using h
theorem dK.mkInt {k : IntKind} {n : Int} : dK w (.int k n) [] (.int k n) := by simp [dK]
theorem dK.mkStr {s : ByteArray} : dK w (.str s) [] (.string s) := by simp [dK]
theorem dK.MC {b : Bool} : dK w (.bool b) [] (.bool b) := by simp [dK]
theorem dK.iV {base size n : Nat} {e : TypeId} {ds : List Dat} {F : List Nat} {v : Value} {vs : List Value} (h : w.ownsRow base e size v n vs) (h' : aO w ds F vs) : dK w (.row size n ds) (v.ownBlock.toList ++ F) v := by
 simp only [dK]
 exact ⟨e, vs, F, qx h fun _ _ => nZ _, rfl, h'⟩
theorem dK.rH {size : Nat} : dK w (.row size 0 []) [] (.slice none 0 0) := dK.iV (World.ownsRow_nil w 0 0 size) .eO
theorem aO.len : ∀ {ds : List Dat} {F : List Nat} {vs : List Value}, aO w ds F vs → vs.length = ds.length
 | [], _, _, h => by rw [h.jc.2]; rfl
 | _ :: ds, _, _, h => by
   obtain ⟨F1, F2, v, vs', -, rfl, -, h4⟩ := h.out
   simp [aO.len h4]
theorem aO.app : ∀ {ds es : List Dat} {F G : List Nat} {vs us : List Value}, aO w ds F vs → aO w es G us → aO w (ds ++ es) (F ++ G) (vs ++ us)
 | [], _, _, _, _, _, h, h' => by obtain ⟨rfl, rfl⟩ := h.jc; exact h'
 | _ :: ds, _, _, _, _, _, h, h' => by
   obtain ⟨F1, F2, v, vs', rfl, rfl, h3, h4⟩ := h.out
   rw [List.append_assoc]
   exact .aN h3 (aO.app h4 h')
theorem aO.parts : ∀ {ds es : List Dat} {F : List Nat} {vs : List Value}, aO w (ds ++ es) F vs → ∃ F1 F2 v1 v2, F = F1 ++ F2 ∧ vs = v1 ++ v2 ∧ aO w ds F1 v1 ∧ aO w es F2 v2
 | [], _, F, vs, h => ⟨[], F, [], vs, rfl, rfl, .eO, h⟩
 | _ :: ds, _, _, _, h => by
   obtain ⟨F1, F2, v, vs', rfl, rfl, h3, h4⟩ := aO.out h
   obtain ⟨G1, G2, v1, v2, rfl, rfl, h5, h6⟩ := aO.parts h4
   exact ⟨F1 ++ G1, G2, v :: v1, v2, av, av, .aN h3 h5, h6⟩
theorem aO.yZ : ∀ {ds : List Dat} {F : List Nat} {vs : List Value}, aO w ds F vs → (∀ d ∈ ds, (match d with | .row _ _ _ => False | _ => True)) → F = []
 | [], _, _, h, _ => h.jc.1
 | d :: ds, _, _, h, hd => by
   obtain ⟨F1, F2, v, vs', rfl, rfl, h3, h4⟩ := h.out
   have h2 := aO.yZ h4 fun d hd' => hd d (by simp [hd'])
   have h1 := hd d av
   cases d with
   | int => rw [h2, h3.iF.1]; rfl
   | str => rw [h2, h3.oq.1]; rfl
   | bool => rw [h2, h3.Kz.1]; rfl
   | row => exact absurd h1 av
end
def eu (w : World) (lo hi : Nat) (ds : List Dat) (vs : List Value) : Prop := ∃ F : List Nat, aO w ds F vs ∧ F.Nodup ∧ ∀ g ∈ F, lo ≤ g ∧ g < hi
section
variable {w w' : World} {lo mid hi : Nat} {ds es : List Dat} {vs us : List Value}
theorem eu.rep (h : eu w lo hi ds vs) : eU w lo hi ds vs := by obtain ⟨F, h1, _, h3⟩ := h; exact h1.rep h3
theorem eu.len (h : eu w lo hi ds vs) : vs.length = ds.length := by obtain ⟨F, h1, _⟩ := h; exact h1.len
theorem eu.wide {lo' hi' : Nat} (h : eu w lo hi ds vs) (h1 : lo' ≤ lo) (h2 : hi ≤ hi') : eu w lo' hi' ds vs := by
 exact Jm
theorem eu.kept (h : eu w lo hi ds vs) (hk : ∀ g, lo ≤ g → g < hi → w'.heap[g]? = w.heap[g]?) : eu w' lo hi ds vs := by
 exact Jo
theorem eu.below {B : Nat} (h : eu w lo hi ds vs) (hb : Below B w w') (hB : hi ≤ B) : eu w' lo hi ds vs := h.kept fun g _ h2 => hb.block g (nL h2 hB)
theorem eu.same (h : eu w lo hi ds vs) (hs : Same w w') : eu w' lo hi ds vs := h.kept fun g _ _ => by rw [hs.heap]
theorem eu.gQ (h : eu w lo hi ds vs) {p : Addr} (hp : p.block < lo ∨ hi ≤ p.block) (u : Value) : eu (w.setCell p u) lo hi ds vs := h.kept fun g h1 h2 => Below.heap_setCell w p u g ah
theorem eu.alloc (h : eu w lo hi ds vs) (hB : hi ≤ w.heap.size) (o : Obj) : eu (w.alloc o) lo hi ds vs := h.below ((bR w.heap.size w).alloc (nR _) o) hB
theorem eu.ku {g : Nat} (hg : g < lo ∨ hi ≤ g) : ∀ (us : List Value) (w : World) (p : Nat), eu w lo hi ds vs → eu (ku w g p us) lo hi ds vs
 | [], _, _, h => h
 | u :: us, w, p, h => eu.ku hg us _ (p + 1) (h.gQ (p := ⟨g, p, none⟩) hg u)
theorem eu.eO : eu w lo hi [] [] := ⟨[], .eO, List.nodup_nil, av⟩
theorem qX {F G : List Nat} (hF : F.Nodup) (hG : G.Nodup) (h1 : ∀ g ∈ F, g < mid) (h2 : ∀ g ∈ G, mid ≤ g) : (F ++ G).Nodup := by
 refine List.nodup_append.2 ⟨hF, hG, fun a ha b hb e => ?_⟩
 subst e
 have := h1 a ha; have := h2 a hb; omega
theorem eu.app (h : eu w lo mid ds vs) (h' : eu w mid hi es us) (h1 : lo ≤ mid) (h2 : mid ≤ hi) : eu w lo hi (ds ++ es) (vs ++ us) := by
 obtain ⟨F, a1, a2, a3⟩ := h
 obtain ⟨G, b1, b2, b3⟩ := h'
 refine ⟨F ++ G, a1.app b1, qX a2 b2 (fun g hg => (a3 g hg).2) (fun g hg => (b3 g hg).1), fun g hg => ?_⟩
 rcases mA hg with hg | hg
 ·have := a3 g hg; omega
 have := b3 g hg; omega
theorem eu.iF {k : IntKind} {n : Int} (h : eu w lo hi ds vs) : eu w lo hi (.int k n :: ds) (.int k n :: vs) := by
 obtain ⟨F, a1, a2, a3⟩ := h; exact ⟨[] ++ F, .aN .mkInt a1, a2, a3⟩
theorem eu.oq {s : ByteArray} (h : eu w lo hi ds vs) : eu w lo hi (.str s :: ds) (.string s :: vs) := by
 obtain ⟨F, a1, a2, a3⟩ := h; exact ⟨[] ++ F, .aN .mkStr a1, a2, a3⟩
theorem eu.Kz {b : Bool} (h : eu w lo hi ds vs) : eu w lo hi (.bool b :: ds) (.bool b :: vs) := by
 obtain ⟨F, a1, a2, a3⟩ := h; exact ⟨[] ++ F, .aN .MC a1, a2, a3⟩
end
def gD {α : Type} (w : World) (lo hi k : Nat) (f : α → List Dat) (v : Value) (l : List α) : Prop := ∃ F : List Nat, dK w (.row k l.length (flat f l)) F v ∧ F.Nodup ∧ ∀ g ∈ F, lo ≤ g ∧ g < hi
section
variable {α : Type} {f : α → List Dat} {k : Nat} {w w' : World} {lo mid hi : Nat} {v : Value} {l : List α} {ds : List Dat} {vs : List Value}
theorem gD.rep (h : gD w lo hi k f v l) : aW w lo hi k f v l := by obtain ⟨F, h1, _, h3⟩ := h; exact h1.rep h3
theorem gD.wide {lo' hi' : Nat} (h : gD w lo hi k f v l) (h1 : lo' ≤ lo) (h2 : hi ≤ hi') : gD w lo' hi' k f v l := by
 exact Jm
theorem gD.kept (h : gD w lo hi k f v l) (hk : ∀ g, lo ≤ g → g < hi → w'.heap[g]? = w.heap[g]?) : gD w' lo hi k f v l := by
 exact Jo
theorem gD.below {B : Nat} (h : gD w lo hi k f v l) (hb : Below B w w') (hB : hi ≤ B) : gD w' lo hi k f v l := h.kept fun g _ h2 => hb.block g (nL h2 hB)
theorem gD.same (h : gD w lo hi k f v l) (hs : Same w w') : gD w' lo hi k f v l := h.kept fun g _ _ => by rw [hs.heap]
theorem gD.gQ (h : gD w lo hi k f v l) {p : Addr} (hp : p.block < lo ∨ hi ≤ p.block) (u : Value) : gD (w.setCell p u) lo hi k f v l := h.kept fun g h1 h2 => Below.heap_setCell w p u g ah
theorem gD.alloc (h : gD w lo hi k f v l) (hB : hi ≤ w.heap.size) (o : Obj) : gD (w.alloc o) lo hi k f v l := h.below ((bR w.heap.size w).alloc (nR _) o) hB
theorem gD.mk_ {e : TypeId} (h : w.ownsRow lo e k v l.length vs) (h' : eu w mid hi (flat f l) vs) (hg : ∀ g, v.ownBlock = some g → g < mid) (h1 : lo ≤ mid) (h2 : mid ≤ hi) : gD w lo hi k f v l := by
 obtain ⟨F, a1, a2, a3⟩ := h'
 refine ⟨_, dK.iV h a1, qX (mid := mid) ?_ a2 (fun g hv => hg g (by simpa using hv)) (fun g hv => (a3 g hv).1), fun g hv => ?_⟩
 ·cases v.ownBlock <;> simp
 rcases mA hv with hv | hv
 ·have hv : v.ownBlock = some g := by simpa using hv
  have := (h.lt g hv).1; have := hg g hv; omega
 have := a3 g hv; omega
theorem eu.uG (h : gD w lo mid k f v l) (h' : eu w mid hi ds vs) (h1 : lo ≤ mid) (h2 : mid ≤ hi) : eu w lo hi (.row k l.length (flat f l) :: ds) (v :: vs) := by
 obtain ⟨F, a1, a2, a3⟩ := h
 obtain ⟨G, b1, b2, b3⟩ := h'
 refine ⟨F ++ G, .aN a1 b1, qX a2 b2 (fun g hg => (a3 g hg).2) (fun g hg => (b3 g hg).1), fun g hg => ?_⟩
 rcases mA hg with hg | hg
 ·have := a3 g hg; omega
 have := b3 g hg; omega
end
theorem eu.texts {w : World} {lo hi : Nat} : ∀ (l : List ByteArray), eu w lo hi (flat aR l) (l.map .string)
 | [] => by rw [fC]; exact .eO
 | s :: l => by rw [cK]; exact eu.oq (eu.texts l)
theorem gD.texts {w : World} {lo hi : Nat} {e : TypeId} {v : Value} {l : List ByteArray} (h : w.ownsRow lo e 1 v l.length (l.map .string)) (hhi : w.heap.size ≤ hi) : gD w lo hi 1 aR v l := by
 obtain ⟨F, a1, a2, a3⟩ := eu.texts (w := w) (lo := 0) (hi := 0) l
 have hF : F = [] := List.eq_nil_iff_forall_not_mem.2 fun g hg => by have := a3 g hg; omega
 subst hF
 refine ⟨_, dK.iV h a1, ?_, fun g hv => ?_⟩
 ·cases v.ownBlock <;> simp
 have hv : v.ownBlock = some g := by simpa using hv
 have := h.lt g hv; omega
def FK {α : Type} (f : α → List Dat) (c : α) (w : World) (e : Ending) (w' : World) : Prop := ∃ cs : List Value, e = .returned (.agg cs.toArray) ∧ eu w' w.heap.size w'.heap.size (f c) cs ∧ Below w.heap.size w w'
def Rx {α : Type} (k : Nat) (f : α → List Dat) (l : List α) (w : World) (e : Ending) (w' : World) : Prop := ∃ v, e = .returned v ∧ gD w' w.heap.size w'.heap.size k f v l ∧ Below w.heap.size w w'
theorem FK.own {α : Type} {f : α → List Dat} {c : α} {w w' : World} {e : Ending} (h : FK f c w e w') : Y2 f c w e w' := by
 obtain ⟨cs, he, h1, hb⟩ := h; exact ⟨_, he, ⟨cs, rfl, h1.rep⟩, hb⟩
theorem Rx.own {α : Type} {k : Nat} {f : α → List Dat} {l : List α} {w w' : World} {e : Ending} (h : Rx k f l w e w') : Y3 k f l w e w' := by
 obtain ⟨v, he, h1, hb⟩ := h; exact ⟨_, he, h1.rep, hb⟩
end
section
open Go.RowKit
end
end Go.Proofs.YthbcamfejgghhaaGreatDoor
