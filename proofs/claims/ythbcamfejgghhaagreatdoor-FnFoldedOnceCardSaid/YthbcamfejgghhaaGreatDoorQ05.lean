/- A region that draws its order: whatever the order, each operation yields a value of its kind, and what is known stays true. Plain lemmas, no program. The cursor -/
import Derived.Test.YthbcamfejgghhaaGreatDoorQ04
import Derived.Orders
import Derived.StillTail
set_option maxRecDepth 100000
set_option maxHeartbeats 8000000
set_option linter.unusedVariables false
set_option linter.unusedSimpArgs false
namespace Go.Proofs.YthbcamfejgghhaaGreatDoor
open Go.IntKind (i64)
section
open Go Go.RowKit
section
variable {P : Program} {ops : Array Oper} {R : World → World → Prop} {w0 : World} {Q : Act → World → Prop}
def Vo (P : Program) (R : World → World → Prop) (T : Value → World → Prop) (w : World) : Result Next → Prop
 | .ok (.value u) w' => R w w' ∧ T u w'
 | .ok .skip w' => R w w' ∧ T undef w'
 | .ok (.enter f args) w' => Calls P f args w' fun e w'' => ∃ v, e = .returned v ∧ R w w'' ∧ T v w''
 | .ok (.row r args) w' => Rows P r args w' fun v w'' => R w w'' ∧ T v w''
 | _ => False
def Y4 (P : Program) (R : World → World → Prop) (ops : Array Oper) (o : Oper) (a : Act) (T : Value → World → Prop) (w : World) : Prop :=
 if Region.wanted o (yielded ops a.tmps) = true then Vo P R T w ((execOp a.eval o).run P w) else T undef w
def knows (fs : List (World → Prop)) (w : World) : List Edge → Prop
 | [] => True
 | e :: es => (Region.binds .any e = true → (fs.getD e.on fun _ => True) w) ∧ knows fs w es
def UU (w : World) : List (World → Prop) → Prop
 | [] => True
 | f :: fs => f w ∧ UU w fs
def wpTy (P : Program) (R : World → World → Prop) (ops : Array Oper) (w0 : World) (Q : Act → World → Prop) : List Oper → List (Value → World → Prop) → List (World → Prop) → Act → Prop
 | [], _, fs, a => ∀ w, R w0 w → UU w fs → Q a w
 | o :: rest, T :: Ts, fs, a => (∀ w, R w0 w → knows fs w o.after.toList → Y4 P R ops o a T w) ∧ ∀ v, wpTy P R ops w0 Q rest Ts (fs ++ [T v]) (a.put o.dst v)
 | _ :: _, [], _, _ => False
def Rp (ops : Array Oper) (k : Nat) : Option Tmp := (ops[k]?).bind (·.dst)
def UW (ops : Array Oper) (vs : Nat → Value) (sel : Nat → Bool) (a : Act) : Nat → Act
 | 0 => a
 | k + 1 => if sel k = true then (UW ops vs sel a k).put (Rp ops k) (vs k) else UW ops vs sel a k
def tyB (ops : Array Oper) : Bool :=
 Region.noSelect ops && (List.range ops.size).all fun i => match ops[i]? with
  | none => false
  | some o => (o.after.toList.all fun e => !Region.binds .any e || decide (e.on < i)) &&
    (List.range ops.size).all fun j => match Rp ops j with
     | none => true
     | some t => (i == j || Rp ops i != some t) && (!(o.looksAt ops).contains t || (decide (j < i) && o.after.toList.any fun e => Region.binds .any e && e.on == j))
def YO (Ts : List (Value → World → Prop)) (vs : Nat → Value) (k : Nat) : List (World → Prop) := (List.range k).map fun j => (Ts.getD j fun _ _ => True) (vs j)
end
end
section
open Go Go.RowKit
theorem MF (n : Int) : bits .and i64 n 255 = n % 256 := by
 have Y5 : (BitVec.ofInt 64 255).toNat = 2 ^ 8 - 1 := aA
 have key : (BitVec.ofInt 64 n &&& BitVec.ofInt 64 255).toNat = (n % ((2 ^ 64 : Nat) : Int)).toNat % 2 ^ 8 := by
  rw [BitVec.toNat_and, BitVec.toNat_ofInt, Y5, Nat.and_two_pow_sub_one_eq_mod]
 show IntKind.i64.wrap ((BitVec.ofInt 64 n &&& BitVec.ofInt 64 255).toNat : Nat) = n % 256
 rw [key, IntKind.wrap_i64]
 omega
def Cur (w : World) (c : Nat) : Prop := ∃ (A : Option Addr) (n k : Nat) (i h : Int) (bs : List Int), Blk w c 119 (jT A n k i h) ∧ Rds w 0 c 1 (.slice A n k) n (bs.map (Value.int .u8)) ∧ 0 ≤ i ∧ i ≤ n
theorem Cur.lt {w : World} {c : Nat} (h : Cur w c) : c < w.heap.size := by obtain ⟨A, n, k, i, x, bs, h1, -⟩ := h; exact h1.lt
theorem Cur.below {w w' : World} {c : Nat} (h : Cur w c) (hb : Below w.heap.size w w') : Cur w' c := by
 have hlt := h.lt
 obtain ⟨A, n, k, i, x, bs, h1, h2, h3⟩ := h
 exact ⟨A, n, k, i, x, bs, h1.later hb, h2.below hb (Nat.le_of_lt hlt), h3⟩
structure CR (c : Nat) (w w' : World) : Prop where
 grown : w.grownBy w' (some c)
 cur : Cur w c → Cur w' c
section
variable {c : Nat} {w w' w'' : World}
theorem CR.refl (c : Nat) (w : World) : CR c w w := ⟨World.grownBy.refl w _, id⟩
theorem CR.trans (h : CR c w w') (k : CR c w' w'') : CR c w w'' := ⟨dJ h.grown k.grown, fun x => k.cur (h.cur x)⟩
theorem CR.below (h : Below w.heap.size w w') : CR c w w' := ⟨iE h _, fun x => x.below h⟩
theorem CR.alloc (c : Nat) (w : World) (o : Obj) : CR c w (w.alloc o) := .below ((bR w.heap.size w).alloc (nR _) o)
theorem CR.drew (c : Nat) (w : World) : CR c w w.drew := .below ((Same.refl w).drew.below _)
theorem CR.le (h : CR c w w') : w.heap.size ≤ w'.heap.size := h.grown.size
theorem CR.blk {g : Nat} {t : TypeId} {cs : Array Value} (h : CR c w w') (hb : Blk w g t cs) (hg : g ≠ c) : Blk w' g t cs := hb.grown h.grown fun e => hg (by injection e)
theorem CR.rds {lo hi size n : Nat} {v : Value} {xs : List Value} (h : CR c w w') (hr : Rds w lo hi size v n xs) (hhi : hi ≤ w.heap.size) (hc : c < lo ∨ hi ≤ c) : Rds w' lo hi size v n xs := hr.grown h.grown hhi fun g e => by injection e with e; omega
end
def Bb (c : Nat) (T : Value → World → Prop) (w : World) (e : Ending) (w' : World) : Prop := ∃ v, e = .returned v ∧ CR c w w' ∧ T v w'
def P6 (n : Nat) (v : Value) (_ : World) : Prop := ∃ s : ByteArray, v = .string s ∧ s.size ≤ n
def Tx (n : Nat) (v : Value) (_ : World) : Prop := ∃ x : Nat, v = .int i64 (x : Int) ∧ x < n
def UX (v : Value) (_ : World) : Prop := ∃ b : Bool, v = .bool b
def TIs (u : Value) (v : Value) (_ : World) : Prop := v = u
def ae4 (c : Nat) (t : TypeId) (cs : Array Value) (v : Value) (w : World) : Prop := ∃ g, v = .slice (some (aj g 0)) cs.size cs.size ∧ Blk w g t cs ∧ g ≠ c
inductive KE (c : Nat) : List (Value → World → Prop) → Prop
 | nil : KE c []
 | cons {T : Value → World → Prop} {Ts : List (Value → World → Prop)} (h : ∀ v w w', CR c w w' → T v w → T v w') (hs : KE c Ts) : KE c (T :: Ts)
theorem KE.all {c : Nat} {Ts : List (Value → World → Prop)} (h : KE c Ts) : ∀ T ∈ Ts, ∀ v w w', CR c w w' → T v w → T v w' := by
 induction h with
 | nil => intro T hT; cases hT
 | cons h _ ih =>
   intro T hT
   rcases mC hT with rfl | hT
   ·exact h
   exact ih T hT
section
variable {c n : Nat}
end
end
section
open Go.RowKit
theorem wX (l : List ak) : iO l = flat ak.aG l := by
 induction l with
 | nil => rfl
 | cons c l ih => rw [cK, ← ih]; rfl
theorem ak.mX (c : ak) : c.aG = [.int i64 c.kind, .int i64 c.op, .int i64 c.number, .int i64 c.line, .str c.text, .row 6 c.kids.length (flat ak.aG c.kids)] := by rw [← wX]; exact c.Co
theorem qM.P7 {w : World} {lo hi : Nat} {v : Value} {l : List ak} (h : qM w lo hi v l) : aW w lo hi 6 ak.aG v l := by unfold qM at h; rw [wX] at h; exact h
section
variable {w : World} {lo hi : Nat} {x : Value} {c : ak}
theorem ak.form (h : dZ w lo hi ak.aG x c) : ∃ qW pN, x = .agg (aB c.kind c.op c.number c.line c.text qW c.kids.length pN) ∧ aW w lo hi 6 ak.aG (.slice qW c.kids.length pN) c.kids ∧ c.kids.length ≤ pN ∧ pN ≤ maxLen := by
 obtain ⟨cs, rfl, h1⟩ := h
 rw [ak.mX] at h1
 obtain ⟨v0, t0, rfl, a0, h1⟩ := h1.out
 obtain ⟨v1, t1, rfl, a1, h1⟩ := h1.out
 obtain ⟨v2, t2, rfl, a2, h1⟩ := h1.out
 obtain ⟨v3, t3, rfl, a3, h1⟩ := h1.out
 obtain ⟨v4, t4, rfl, a4, h1⟩ := h1.out
 obtain ⟨v5, t5, rfl, a5, h1⟩ := h1.out
 obtain rfl := h1.jc
 obtain rfl := a0.iF
 obtain rfl := a1.iF
 obtain rfl := a2.iF
 obtain rfl := a3.iF
 obtain rfl := a4.oq
 obtain ⟨A5, c5, rfl, g5, k5⟩ := aW.shape (f := ak.aG) a5
 exact ⟨A5, c5, rfl, a5, g5, k5⟩
theorem ak.mk_ {qW : Option Addr} {pN : Nat} (Rq : aW w lo hi 6 ak.aG (.slice qW c.kids.length pN) c.kids) : dZ w lo hi ak.aG (.agg (aB c.kind c.op c.number c.line c.text qW c.kids.length pN)) c :=
 ⟨[_, _, _, _, _, _], rfl, by rw [ak.mX]; exact (.aN .mkInt (.aN .mkInt (.aN .mkInt (.aN .mkInt (.aN .mkStr (.aN Rq .eO))))))⟩
theorem ak.rows {qW : Option Addr} {pN : Nat} (h : dZ w lo hi ak.aG (.agg (aB c.kind c.op c.number c.line c.text qW c.kids.length pN)) c) : aW w lo hi 6 ak.aG (.slice qW c.kids.length pN) c.kids := by
 obtain ⟨X0, y0, hx, l0, _, _⟩ := ak.form h
 exact I1
theorem ak.at_ {A : Option Addr} {cap j : Nat} {l : List ak} (h : aW w lo hi 6 ak.aG (.slice A l.length cap) l) (hc : l[j]? = some c) :
 ∃ g off qW pN, A = some ⟨g, off, none⟩ ∧ lo ≤ g ∧ g < hi ∧ c ∈ l ∧ dZ w lo hi ak.aG (.agg (aB c.kind c.op c.number c.line c.text qW c.kids.length pN)) c ∧ w.cell? (aj g (off + j * 6)) = some (.int i64 c.kind) ∧ w.cell? (aj g (off + j * 6 + 1)) = some (.int i64 c.op) ∧ w.cell? (aj g (off + j * 6 + 2)) = some (.int i64 c.number) ∧ w.cell? (aj g (off + j * 6 + 3)) = some (.int i64 c.line) ∧ w.cell? (aj g (off + j * 6 + 4)) = some (.string c.text) ∧ w.cell? (aj g (off + j * 6 + 5)) = some (.slice qW c.kids.length pN) := by
 obtain ⟨g, off, us, hA, h1, h2, h3, h4, h5⟩ := h.elem ak.eD hc
 obtain ⟨B0, m0, hx, l0, _, _⟩ := ak.form (w := w) (lo := lo) (hi := hi) (c := c) (x := .agg us.toArray) ⟨us, rfl, h4⟩
 injection hx with hx
 obtain rfl : us = [_, _, _, _, _, _] := congrArg Array.toList hx
 exact ⟨g, off, B0, m0, hA, h1, h2, mG hc, ak.mk_ l0, h5 0 _ rfl, h5 1 _ rfl, h5 2 _ rfl, h5 3 _ rfl, h5 4 _ rfl, h5 5 _ rfl⟩
end
end
section
open Go.RowKit
theorem Fg {a b c d : Int} (h1 : a = c) (h2 : b = d) : Ending.returned (.tuple (aL a b)) = .returned (.tuple (aL c d)) := by rw [h1, h2]
def dw (k op : Int) : Int := if k = 11 then dH op else if k = 12 ∨ k = 16 ∨ k = 14 ∨ k = 20 ∨ k = 23 ∨ k = 26 ∨ k = 27 then 1 else if k = 13 ∨ k = 15 ∨ k = 18 ∨ k = 19 ∨ k = 22 ∨ k = 25 then 2 else if k = 17 then 3 else 0
def dx (k op : Int) : Int := if k = 11 then dM op else if k = 12 then 9 else if k = 16 then 24 else if k = 14 ∨ k = 20 ∨ k = 23 ∨ k = 26 ∨ k = 27 then 1 else if k = 13 ∨ k = 15 ∨ k = 18 ∨ k = 19 ∨ k = 22 ∨ k = 25 then 2 else if k = 17 then 3 else 0
theorem sV {k op : Int} (h : k = 11) : dw k op = dH op ∧ dx k op = dM op := by subst h; exact ⟨rfl, rfl⟩
theorem rX {k op : Int} (h : ¬ (k = 11 ∨ k = 12 ∨ k = 13 ∨ k = 14 ∨ k = 15 ∨ k = 16 ∨ k = 17 ∨ k = 18 ∨ k = 19 ∨ k = 20 ∨ k = 22 ∨ k = 23 ∨ k = 25 ∨ k = 26 ∨ k = 27)) : dw k op = 0 ∧ dx k op = 0 := by
 simp only [not_or] at h
 obtain ⟨h1, h2, h3, h4, h5, h6, h7, h8, h9, h10, h11, h12, h13, h14, h15⟩ := h
 simp [dw, dx, h1, h2, h3, h4, h5, h6, h7, h8, h9, h10, h11, h12, h13, h14, h15]
theorem Tp {k op : Int} (h : k = 12) : dw k op = 1 ∧ dx k op = 9 := by subst h; exact ⟨rfl, rfl⟩
theorem OP {k op : Int} (h : k = 13) : dw k op = 2 ∧ dx k op = 2 := by subst h; exact ⟨rfl, rfl⟩
theorem OQ {k op : Int} (h : k = 14) : dw k op = 1 ∧ dx k op = 1 := by subst h; exact ⟨rfl, rfl⟩
theorem OT {k op : Int} (h : k = 15) : dw k op = 2 ∧ dx k op = 2 := by subst h; exact ⟨rfl, rfl⟩
theorem GM {k op : Int} (h : k = 16) : dw k op = 1 ∧ dx k op = 24 := by subst h; exact ⟨rfl, rfl⟩
theorem OU {k op : Int} (h : k = 17) : dw k op = 3 ∧ dx k op = 3 := by subst h; exact ⟨rfl, rfl⟩
theorem OV {k op : Int} (h : k = 18) : dw k op = 2 ∧ dx k op = 2 := by subst h; exact ⟨rfl, rfl⟩
theorem OW {k op : Int} (h : k = 19) : dw k op = 2 ∧ dx k op = 2 := by subst h; exact ⟨rfl, rfl⟩
theorem OX {k op : Int} (h : k = 20) : dw k op = 1 ∧ dx k op = 1 := by subst h; exact ⟨rfl, rfl⟩
theorem OY {k op : Int} (h : k = 22) : dw k op = 2 ∧ dx k op = 2 := by subst h; exact ⟨rfl, rfl⟩
theorem OZ {k op : Int} (h : k = 23) : dw k op = 1 ∧ dx k op = 1 := by subst h; exact ⟨rfl, rfl⟩
theorem O1 {k op : Int} (h : k = 25) : dw k op = 2 ∧ dx k op = 2 := by subst h; exact ⟨rfl, rfl⟩
theorem O4 {k op : Int} (h : k = 26) : dw k op = 1 ∧ dx k op = 1 := by subst h; exact ⟨rfl, rfl⟩
theorem O5 {k op : Int} (h : k = 27) : dw k op = 1 ∧ dx k op = 1 := by subst h; exact ⟨rfl, rfl⟩
end
end Go.Proofs.YthbcamfejgghhaaGreatDoor
