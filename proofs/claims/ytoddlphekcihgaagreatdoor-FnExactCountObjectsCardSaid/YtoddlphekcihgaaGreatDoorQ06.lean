/- Core trees in memory: the plain words and readings. No program. Vo and TS of the reference: the numbers that a node may bear. Which instructions are Ux -/
import Derived.Test.YtoddlphekcihgaaGreatDoorQ03
import Derived.Test.YtoddlphekcihgaaGreatDoorQ04
import Derived.Test.YtoddlphekcihgaaGreatDoorQ05
import Derived.OneCell
import Derived.Test.YtoddlphekcihgaaGreatDoorRows
import Derived.LaidSub
set_option maxRecDepth 100000
set_option maxHeartbeats 8000000
set_option linter.unusedVariables false
set_option linter.unusedSimpArgs false
namespace Go.Proofs.YtoddlphekcihgaaGreatDoor
open Go.RowKit
section
inductive kY where
 | mk (kind op number line : Int) (text : ByteArray) (kids : List kY)
def kY.kind : kY → Int | .mk k _ _ _ _ _ => k
def kY.op : kY → Int | .mk _ o _ _ _ _ => o
def kY.number : kY → Int | .mk _ _ n _ _ _ => n
def kY.line : kY → Int | .mk _ _ _ l _ _ => l
def kY.text : kY → ByteArray | .mk _ _ _ _ t _ => t
def kY.kids : kY → List kY | .mk _ _ _ _ _ ks => ks
mutual
def kY.ay : kY → List Dat
 | .mk k o n l t kids => [.int .i64 k, .int .i64 o, .int .i64 n, .int .i64 l, .str t, .row 6 kids.length (xH kids)]
def xH : List kY → List Dat
 | [] => []
 | c :: cs => c.ay ++ xH cs
end
theorem kY.EO (c : kY) : c.ay = [.int .i64 c.kind, .int .i64 c.op, .int .i64 c.number, .int .i64 c.line, .str c.text, .row 6 c.kids.length (xH c.kids)] := by
 cases c; simp only [kY.ay, kY.kind, kY.op, kY.number, kY.line, kY.text, kY.kids]
theorem kY.gK (c : kY) : c.ay.length = 6 := by rw [c.EO]; rfl
def uq (w : World) (lo hi : Nat) (x : Value) (c : kY) : Prop := rT w lo hi c.ay x
def xI (w : World) (lo hi : Nat) (v : Value) (l : List kY) : Prop := Rep w lo hi (.row 6 l.length (xH l)) v
section
variable {w w' : World} {lo hi : Nat} {x v : Value} {c : kY} {l : List kY}
theorem uq.below {B : Nat} (h : uq w lo hi x c) (hb : Below B w w') (hB : hi ≤ B) : uq w' lo hi x c := rT.below h hb hB
theorem uq.wide {lo' hi' : Nat} (h : uq w lo hi x c) (h1 : lo' ≤ lo) (h2 : hi ≤ hi') : uq w lo' hi' x c := rT.wide h h1 h2
theorem uq.same (h : uq w lo hi x c) (hs : Same w w') : uq w' lo hi x c := rT.same h hs
theorem uq.alloc (h : uq w lo hi x c) (hB : hi ≤ w.heap.size) (o : Obj) : uq (w.alloc o) lo hi x c := rT.alloc h hB o
theorem xI.below {B : Nat} (h : xI w lo hi v l) (hb : Below B w w') (hB : hi ≤ B) : xI w' lo hi v l := Rep.below h hb hB
theorem xI.wide {lo' hi' : Nat} (h : xI w lo hi v l) (h1 : lo' ≤ lo) (h2 : hi ≤ hi') : xI w lo' hi' v l := Rep.wide h h1 h2
theorem xI.same (h : xI w lo hi v l) (hs : Same w w') : xI w' lo hi v l := Rep.same h hs
theorem xI.alloc (h : xI w lo hi v l) (hB : hi ≤ w.heap.size) (o : Obj) : xI (w.alloc o) lo hi v l := Rep.alloc h hB o
theorem xI.shape (h : xI w lo hi v l) : ∃ A c, v = .slice A l.length c ∧ l.length ≤ c ∧ c ≤ maxLen := by
 obtain ⟨A, c, h1, h2, h3, -⟩ := Rep.shape h; exact ⟨A, c, h1, h2, h3⟩
theorem uq.form (h : uq w lo hi x c) : ∃ A cap, x = .agg #[.int .i64 c.kind, .int .i64 c.op, .int .i64 c.number, .int .i64 c.line, .string c.text, .slice A c.kids.length cap] ∧ xI w lo hi (.slice A c.kids.length cap) c.kids ∧ c.kids.length ≤ cap ∧ cap ≤ maxLen := by
 obtain ⟨cs, rfl, h1⟩ := h
 rw [c.EO] at h1
 obtain ⟨v0, t0, rfl, a0, h1⟩ := h1.out
 obtain ⟨v1, t1, rfl, a1, h1⟩ := h1.out
 obtain ⟨v2, t2, rfl, a2, h1⟩ := h1.out
 obtain ⟨v3, t3, rfl, a3, h1⟩ := h1.out
 obtain ⟨v4, t4, rfl, a4, h1⟩ := h1.out
 obtain ⟨v5, t5, rfl, a5, h1⟩ := h1.out
 obtain rfl := h1.qI
 obtain rfl := a0.gG
 obtain rfl := a1.gG
 obtain rfl := a2.gG
 obtain rfl := a3.gG
 obtain rfl := a4.wD
 obtain ⟨A, cap, rfl, g1, g2⟩ := xI.shape a5
 exact ⟨A, cap, rfl, a5, g1, g2⟩
theorem uq.mk_ {A : Option Addr} {cap : Nat} (h : xI w lo hi (.slice A c.kids.length cap) c.kids) : uq w lo hi (.agg #[.int .i64 c.kind, .int .i64 c.op, .int .i64 c.number, .int .i64 c.line, .string c.text, .slice A c.kids.length cap]) c :=
 ⟨[_, _, _, _, _, _], rfl, by
  rw [c.EO]
  exact .dJ .mkInt (.dJ .mkInt (.dJ .mkInt (.dJ .mkInt (.dJ .mkStr (.dJ h .lu)))))⟩
end
mutual
def kY.dX : kY → Nat
 | .mk _ _ _ _ t kids => t.size + (kids.length + Oy kids)
def Oy : List kY → Nat
 | [] => 0
 | c :: cs => c.dX + Oy cs
end
inductive kY.Fits : kY → Prop
 | mk {c : kY} (h : c.text.size ≤ 9223372036854775807) (hk : ∀ x ∈ c.kids, x.Fits) : c.Fits
theorem kY.Fits.text {c : kY} (h : c.Fits) : c.text.size ≤ 9223372036854775807 := by cases h; assumption
theorem kY.Fits.kids {c : kY} (h : c.Fits) : ∀ x ∈ c.kids, x.Fits := by cases h; assumption
end
structure WdT where
 slots : Nat
 aB : Nat
 au : Nat
 aA : Nat
def inB (n lo hi : Int) : Bool := decide (lo ≤ n) && decide (n ≤ hi)
theorem bJ (n lo hi : Int) (w : World) : Calls Tryz.prog 36 #[.int .i64 n, .int .i64 lo, .int .i64 hi] w fun e w' => e = .returned (.bool (inB n lo hi)) ∧ w = w' := by
 go_enter Tryz.func36, Tryz.ntmps36
 go_wp2_with fail
 all_goals
  go_ret
  exact ⟨ah (by rw [Bool.eq_iff_iff]; simp [inB]; omega), rfl⟩
def mD (d : WdT) (k n : Int) : Bool :=
 if k = 1 then inB n (-999999999999) 999999999999 else if k = 5 then inB n 0 (d.slots - 1) else if k = 6 then inB n 0 (d.aB - 1) else if k = 7 then inB n 0 (d.au - 1) else if k = 8 then inB n 0 54
 else if k = 9 then inB n 0 (d.aA - 1) else if k = 10 then inB n 1 2 else decide (n = 0)
theorem Gm (d : WdT) (A1 A2 A3 : Option Addr) (c1 c2 c3 : Nat) (m : Int) (x : Value) (c : kY) (w : World) (lo hi : Nat) (hr : uq w lo hi x c) (q1 : d.slots ≤ 1048576) (q2 : d.aB ≤ 1048576) (q3 : d.au ≤ 1048576) (q4 : d.aA ≤ 1048576) (h : c.kind = 1) : Calls Tryz.prog 117 #[.agg #[.slice A1 d.au c1, .slice A2 d.aA c2, .slice A3 d.aB c3, .int .i64 m], .int .i64 d.slots, x] w fun e w' => e = .returned (.bool (mD d c.kind c.number)) ∧ Below w.heap.size w w' := by
 obtain ⟨A, cap, rfl, -, -, -⟩ := hr.form
 have HV : Hid (mD d c.kind c.number = inB c.number (-999999999999) 999999999999) := lH (by rw [h]; simp [mD])
 have b1 : (c.kind == 1) = true := beq_iff_eq.2 h
 clear h hr
 go_enter Tryz.func117, Tryz.ntmps117
 go_wp2_with fail
 all_goals
  go_ret
  exact ⟨ah (by rw [HV.out, Bool.eq_iff_iff]; simp [inB]; omega), (bA _ _).alloc (by simp) _⟩
theorem Gn (d : WdT) (A1 A2 A3 : Option Addr) (c1 c2 c3 : Nat) (m : Int) (x : Value) (c : kY) (w : World) (lo hi : Nat) (hr : uq w lo hi x c) (q1 : d.slots ≤ 1048576) (q2 : d.aB ≤ 1048576) (q3 : d.au ≤ 1048576) (q4 : d.aA ≤ 1048576) (h : c.kind = 5) : Calls Tryz.prog 117 #[.agg #[.slice A1 d.au c1, .slice A2 d.aA c2, .slice A3 d.aB c3, .int .i64 m], .int .i64 d.slots, x] w fun e w' => e = .returned (.bool (mD d c.kind c.number)) ∧ Below w.heap.size w w' := by
 obtain ⟨A, cap, rfl, -, -, -⟩ := hr.form
 have HV : Hid (mD d c.kind c.number = inB c.number 0 (d.slots - 1)) := lH (by rw [h]; simp [mD])
 have b1 : (c.kind == 1) = false := bF (by omega)
 have b5 : (c.kind == 5) = true := beq_iff_eq.2 h
 clear h hr
 go_enter Tryz.func117, Tryz.ntmps117
 go_wp2_with fail
 refine (bJ c.number 0 ((d.slots : Int) - 1) _).mono ?_; rintro e w1 ⟨rfl, rfl⟩
 go_wp2_with fail
 go_ret
 exact ⟨ah HV.out.symm, (bA _ _).alloc (by simp) _⟩
theorem Gp (d : WdT) (A1 A2 A3 : Option Addr) (c1 c2 c3 : Nat) (m : Int) (x : Value) (c : kY) (w : World) (lo hi : Nat) (hr : uq w lo hi x c) (q1 : d.slots ≤ 1048576) (q2 : d.aB ≤ 1048576) (q3 : d.au ≤ 1048576) (q4 : d.aA ≤ 1048576) (h : c.kind = 6) : Calls Tryz.prog 117 #[.agg #[.slice A1 d.au c1, .slice A2 d.aA c2, .slice A3 d.aB c3, .int .i64 m], .int .i64 d.slots, x] w fun e w' => e = .returned (.bool (mD d c.kind c.number)) ∧ Below w.heap.size w w' := by
 obtain ⟨A, cap, rfl, -, -, -⟩ := hr.form
 have HV : Hid (mD d c.kind c.number = inB c.number 0 (d.aB - 1)) := lH (by rw [h]; simp [mD])
 have b1 : (c.kind == 1) = false := bF (by omega)
 have b5 : (c.kind == 5) = false := bF (by omega)
 have b6 : (c.kind == 6) = true := beq_iff_eq.2 h
 clear h hr
 go_enter Tryz.func117, Tryz.ntmps117
 go_wp2_with fail
 refine (bJ c.number 0 ((d.aB : Int) - 1) _).mono ?_; rintro e w1 ⟨rfl, rfl⟩
 go_wp2_with fail
 go_ret
 exact ⟨ah HV.out.symm, (bA _ _).alloc (by simp) _⟩
theorem Gq (d : WdT) (A1 A2 A3 : Option Addr) (c1 c2 c3 : Nat) (m : Int) (x : Value) (c : kY) (w : World) (lo hi : Nat) (hr : uq w lo hi x c) (q1 : d.slots ≤ 1048576) (q2 : d.aB ≤ 1048576) (q3 : d.au ≤ 1048576) (q4 : d.aA ≤ 1048576) (h : c.kind = 7) : Calls Tryz.prog 117 #[.agg #[.slice A1 d.au c1, .slice A2 d.aA c2, .slice A3 d.aB c3, .int .i64 m], .int .i64 d.slots, x] w fun e w' => e = .returned (.bool (mD d c.kind c.number)) ∧ Below w.heap.size w w' := by
 obtain ⟨A, cap, rfl, -, -, -⟩ := hr.form
 have HV : Hid (mD d c.kind c.number = inB c.number 0 (d.au - 1)) := lH (by rw [h]; simp [mD])
 have b1 : (c.kind == 1) = false := bF (by omega)
 have b5 : (c.kind == 5) = false := bF (by omega)
 have b6 : (c.kind == 6) = false := bF (by omega)
 have b7 : (c.kind == 7) = true := beq_iff_eq.2 h
 clear h hr
 go_enter Tryz.func117, Tryz.ntmps117
 go_wp2_with fail
 refine (bJ c.number 0 ((d.au : Int) - 1) _).mono ?_; rintro e w1 ⟨rfl, rfl⟩
 go_wp2_with fail
 go_ret
 exact ⟨ah HV.out.symm, (bA _ _).alloc (by simp) _⟩
theorem Gr (d : WdT) (A1 A2 A3 : Option Addr) (c1 c2 c3 : Nat) (m : Int) (x : Value) (c : kY) (w : World) (lo hi : Nat) (hr : uq w lo hi x c) (q1 : d.slots ≤ 1048576) (q2 : d.aB ≤ 1048576) (q3 : d.au ≤ 1048576) (q4 : d.aA ≤ 1048576) (h : c.kind = 8) : Calls Tryz.prog 117 #[.agg #[.slice A1 d.au c1, .slice A2 d.aA c2, .slice A3 d.aB c3, .int .i64 m], .int .i64 d.slots, x] w fun e w' => e = .returned (.bool (mD d c.kind c.number)) ∧ Below w.heap.size w w' := by
 obtain ⟨A, cap, rfl, -, -, -⟩ := hr.form
 have HV : Hid (mD d c.kind c.number = inB c.number 0 54) := lH (by rw [h]; simp [mD])
 have b1 : (c.kind == 1) = false := bF (by omega)
 have b5 : (c.kind == 5) = false := bF (by omega)
 have b6 : (c.kind == 6) = false := bF (by omega)
 have b7 : (c.kind == 7) = false := bF (by omega)
 have b8 : (c.kind == 8) = true := beq_iff_eq.2 h
 clear h hr
 go_enter Tryz.func117, Tryz.ntmps117
 go_wp2_with fail
 refine (bJ c.number 0 54 _).mono ?_; rintro e w1 ⟨rfl, rfl⟩
 go_wp2_with fail
 go_ret
 exact ⟨ah HV.out.symm, (bA _ _).alloc (by simp) _⟩
theorem Gs (d : WdT) (A1 A2 A3 : Option Addr) (c1 c2 c3 : Nat) (m : Int) (x : Value) (c : kY) (w : World) (lo hi : Nat) (hr : uq w lo hi x c) (q1 : d.slots ≤ 1048576) (q2 : d.aB ≤ 1048576) (q3 : d.au ≤ 1048576) (q4 : d.aA ≤ 1048576) (h : c.kind = 9) : Calls Tryz.prog 117 #[.agg #[.slice A1 d.au c1, .slice A2 d.aA c2, .slice A3 d.aB c3, .int .i64 m], .int .i64 d.slots, x] w fun e w' => e = .returned (.bool (mD d c.kind c.number)) ∧ Below w.heap.size w w' := by
 obtain ⟨A, cap, rfl, -, -, -⟩ := hr.form
 have HV : Hid (mD d c.kind c.number = inB c.number 0 (d.aA - 1)) := lH (by rw [h]; simp [mD])
 have b1 : (c.kind == 1) = false := bF (by omega)
 have b5 : (c.kind == 5) = false := bF (by omega)
 have b6 : (c.kind == 6) = false := bF (by omega)
 have b7 : (c.kind == 7) = false := bF (by omega)
 have b8 : (c.kind == 8) = false := bF (by omega)
 have b9 : (c.kind == 9) = true := beq_iff_eq.2 h
 clear h hr
 go_enter Tryz.func117, Tryz.ntmps117
 go_wp2_with fail
 refine (bJ c.number 0 ((d.aA : Int) - 1) _).mono ?_; rintro e w1 ⟨rfl, rfl⟩
 go_wp2_with fail
 go_ret
 exact ⟨ah HV.out.symm, (bA _ _).alloc (by simp) _⟩
theorem EP (d : WdT) (A1 A2 A3 : Option Addr) (c1 c2 c3 : Nat) (m : Int) (x : Value) (c : kY) (w : World) (lo hi : Nat) (hr : uq w lo hi x c) (q1 : d.slots ≤ 1048576) (q2 : d.aB ≤ 1048576) (q3 : d.au ≤ 1048576) (q4 : d.aA ≤ 1048576) (h : c.kind = 10) : Calls Tryz.prog 117 #[.agg #[.slice A1 d.au c1, .slice A2 d.aA c2, .slice A3 d.aB c3, .int .i64 m], .int .i64 d.slots, x] w fun e w' => e = .returned (.bool (mD d c.kind c.number)) ∧ Below w.heap.size w w' := by
 obtain ⟨A, cap, rfl, -, -, -⟩ := hr.form
 have HV : Hid (mD d c.kind c.number = inB c.number 1 2) := lH (by rw [h]; simp [mD])
 have b1 : (c.kind == 1) = false := bF (by omega)
 have b5 : (c.kind == 5) = false := bF (by omega)
 have b6 : (c.kind == 6) = false := bF (by omega)
 have b7 : (c.kind == 7) = false := bF (by omega)
 have b8 : (c.kind == 8) = false := bF (by omega)
 have b9 : (c.kind == 9) = false := bF (by omega)
 have b10 : (c.kind == 10) = true := beq_iff_eq.2 h
 clear h hr
 go_enter Tryz.func117, Tryz.ntmps117
 go_wp2_with fail
 refine (bJ c.number 1 2 _).mono ?_; rintro e w1 ⟨rfl, rfl⟩
 go_wp2_with fail
 go_ret
 exact ⟨ah HV.out.symm, (bA _ _).alloc (by simp) _⟩
theorem ER (d : WdT) (A1 A2 A3 : Option Addr) (c1 c2 c3 : Nat) (m : Int) (x : Value) (c : kY) (w : World) (lo hi : Nat) (hr : uq w lo hi x c) (q1 : d.slots ≤ 1048576) (q2 : d.aB ≤ 1048576) (q3 : d.au ≤ 1048576) (q4 : d.aA ≤ 1048576) (h : ¬ (c.kind = 1 ∨ c.kind = 5 ∨ c.kind = 6 ∨ c.kind = 7 ∨ c.kind = 8 ∨ c.kind = 9 ∨ c.kind = 10)) : Calls Tryz.prog 117 #[.agg #[.slice A1 d.au c1, .slice A2 d.aA c2, .slice A3 d.aB c3, .int .i64 m], .int .i64 d.slots, x] w fun e w' => e = .returned (.bool (mD d c.kind c.number)) ∧ Below w.heap.size w w' := by
 obtain ⟨A, cap, rfl, -, -, -⟩ := hr.form
 simp only [not_or] at h
 obtain ⟨h1, h5, h6, h7, h8, h9, h10⟩ := h
 have HV : Hid (mD d c.kind c.number = (c.number == 0)) := by show _ = _; simp only [mD, h1, h5, h6, h7, h8, h9, h10, if_false]; rw [Bool.eq_iff_iff]; simp
 have b1 : (c.kind == 1) = false := bF h1
 have b5 : (c.kind == 5) = false := bF h5
 have b6 : (c.kind == 6) = false := bF h6
 have b7 : (c.kind == 7) = false := bF h7
 have b8 : (c.kind == 8) = false := bF h8
 have b9 : (c.kind == 9) = false := bF h9
 have b10 : (c.kind == 10) = false := bF h10
 clear h1 h5 h6 h7 h8 h9 h10 hr
 go_enter Tryz.func117, Tryz.ntmps117
 go_wp2_with fail
 go_ret
 exact ⟨ah HV.out.symm, (bA _ _).alloc (by simp) _⟩
theorem zi (d : WdT) (A1 A2 A3 : Option Addr) (c1 c2 c3 : Nat) (m : Int) (x : Value) (c : kY) (w : World) (lo hi : Nat) (hr : uq w lo hi x c) (q1 : d.slots ≤ 1048576) (q2 : d.aB ≤ 1048576) (q3 : d.au ≤ 1048576) (q4 : d.aA ≤ 1048576) : Calls Tryz.prog 117 #[.agg #[.slice A1 d.au c1, .slice A2 d.aA c2, .slice A3 d.aB c3, .int .i64 m], .int .i64 d.slots, x] w fun e w' => e = .returned (.bool (mD d c.kind c.number)) ∧ Below w.heap.size w w' := by
 by_cases h1 : c.kind = 1
 ·exact Gm d A1 A2 A3 c1 c2 c3 m x c w lo hi hr q1 q2 q3 q4 h1
 by_cases h5 : c.kind = 5
 ·exact Gn d A1 A2 A3 c1 c2 c3 m x c w lo hi hr q1 q2 q3 q4 h5
 by_cases h6 : c.kind = 6
 ·exact Gp d A1 A2 A3 c1 c2 c3 m x c w lo hi hr q1 q2 q3 q4 h6
 by_cases h7 : c.kind = 7
 ·exact Gq d A1 A2 A3 c1 c2 c3 m x c w lo hi hr q1 q2 q3 q4 h7
 by_cases h8 : c.kind = 8
 ·exact Gr d A1 A2 A3 c1 c2 c3 m x c w lo hi hr q1 q2 q3 q4 h8
 by_cases h9 : c.kind = 9
 ·exact Gs d A1 A2 A3 c1 c2 c3 m x c w lo hi hr q1 q2 q3 q4 h9
 by_cases h10 : c.kind = 10
 ·exact EP d A1 A2 A3 c1 c2 c3 m x c w lo hi hr q1 q2 q3 q4 h10
 exact ER d A1 A2 A3 c1 c2 c3 m x c w lo hi hr q1 q2 q3 q4 (by rintro (h | h | h | h | h | h | h) <;> contradiction)
theorem fO (op : Int) (w : World) : Calls Tryz.prog 137 #[.int .i64 op] w fun e w' => e = .returned (.bool (lg op)) ∧ w = w' := by
 go_enter Tryz.func137, Tryz.ntmps137
 go_wp2_with fail
 all_goals
  go_ret
  exact ⟨ah (by rw [Bool.eq_iff_iff]; simp [lg]; omega), rfl⟩
theorem jD (op : Int) (w : World) : Calls Tryz.prog 116 #[.int .i64 op] w fun e w' => e = .returned (.bool (lg op)) ∧ w = w' := by
 go_enter Tryz.func116, Tryz.ntmps116
 go_wp2_with fail
 all_goals
  go_ret
  exact ⟨ah (by rw [Bool.eq_iff_iff]; simp [lg]; omega), rfl⟩
def iq (x : eO) : Bool := if x.op = 2 then decide (x.text.size ≤ 120) else if x.op = 3 then uV x.text else decide (x.text.size = 0)
def pZ (x : eO) : Bool := if x.op = 11 then decide (iZ x.a ≤ x.b ∧ x.b ≤ jc x.a) else if x.op = 12 then inB x.b 1 9 else decide (x.b = 0)
def qy (d : WdT) (n : Nat) (x : eO) : Bool := if lg x.op = true then inB x.a 0 (n - 1) || (decide (x.op = 13) && decide (x.a = -1)) else if x.op = 11 then true else mD d x.op x.a
def fK (d : WdT) (n : Nat) (x : eO) : Bool := decide (1 ≤ x.op ∧ x.op ≤ 30) && decide (0 ≤ x.line) && iq x && pZ x && qy d n x
def gL (c : dK) : WdT := ⟨24, c.aB.length, c.au.length, c.aA.length⟩
def su (F : Nat) (c : dK) (x : eO) : Prop := ∀ (vc vx : Value) (w : World) (lo hi lo' hi' : Nat), fA w lo hi dK.ay vc c → fA w lo' hi' eO.ay vx x → x.text.size ≤ 1048576 →
 Calls Tryz.prog F #[vc, vx] w fun e w' => e = .returned (.bool (fK (gL c) c.av.length x)) ∧ Below w.heap.size w w'
noncomputable def x9 (n : Nat) (r : jF) : Bool := fM r.name && decide (0 ≤ r.slots) && decide (r.slots ≤ 24) && decide (0 ≤ r.params) && decide (r.params ≤ r.slots) && decide (0 ≤ r.entry) && decide (r.entry < n)
def rD (c : dK) : Bool := decide (0 ≤ c.main) && decide (c.main < c.au.length) && (match c.au[c.main.toNat]? with | some r => decide (r.params = 0) | none => false)
noncomputable def qH (c : dK) : Bool := decide (1 ≤ c.au.length) && decide (c.au.length ≤ 12) && nQ c.aA && decide (c.aB.length ≤ 12) && c.aB.all fM && decide (1 ≤ c.av.length) && decide (c.av.length ≤ 60000)
noncomputable def validCode (c : dK) : Bool := qH c && c.au.all (x9 c.av.length) && rD c && c.av.all (fK (gL c) c.av.length)
theorem oG {c : dK} (h : qH c = false) : validCode c = false := by unfold validCode; rw [h]; rfl
theorem Gt {c : dK} (h : c.au.all (x9 c.av.length) = false) : validCode c = false := by unfold validCode; rw [h, Bool.and_false]; rfl
theorem vJ {c : dK} (h : rD c = false) : validCode c = false := by unfold validCode; rw [h, Bool.and_false]; rfl
theorem El {c : dK} (h : c.av.all (fK (gL c) c.av.length) = false) : validCode c = false := by unfold validCode; rw [h, Bool.and_false]
theorem Em {c : dK} (h1 : qH c = true) (h2 : c.au.all (x9 c.av.length) = true) (h3 : rD c = true) (h4 : c.av.all (fK (gL c) c.av.length) = true) : validCode c = true := by unfold validCode; rw [h1, h2, h3, h4]; rfl
section
def mE (v : aQ) : Bool := decide (v.text.size = 0)
def ql (v : aQ) : Bool := decide (v.set.low = 0) && decide (v.set.high = 0)
def iK (v : aQ) : Bool :=
 if v.kind = 0 ∨ v.kind = 2 ∨ v.kind = 3 then decide (v.number = 0 ∧ v.index = 0)
 else if v.kind = 1 then decide (-999999999999 ≤ v.number ∧ v.number ≤ 999999999999 ∧ v.index = 0)
 else if v.kind = 13 ∨ v.kind = 15 ∨ v.kind = 16 then decide (0 ≤ v.number ∧ 0 ≤ v.index)
 else if v.kind = 14 then decide (v.number = 0 ∧ 0 ≤ v.index)
 else if v.kind = 18 then decide (v.number = 0 ∧ (v.index = 1 ∨ v.index = 2))
 else decide (0 ≤ v.number ∧ v.index = 0)
def wfB (v : aQ) : Bool := decide (0 ≤ v.kind ∧ v.kind ≤ 20) && (decide (v.kind = 2) || mE v) && (decide (v.kind = 3) || ql v) && (!decide (v.kind = 2) || decide (v.text.size ≤ 120)) && iK v
def kindOf (k : Int) : Int :=
 if k = 4 ∨ k = 15 then 2 else if k = 5 then 3 else if k = 6 then 4 else if k = 7 ∨ k = 16 then 5 else if k = 11 then 6 else if k = 12 then 7 else if k = 13 ∨ k = 19 then 1 else if k = 17 then 8 else if k = 20 then 9 else 0
def kU (s : dP) (n k : Int) : Bool := decide (0 ≤ n) && (match s.aI[n.toNat]? with | some o => decide (o.kind = k) | none => false)
def ES (s : dP) (n : Int) : Nat := match s.aI[n.toNat]? with | some o => o.aj.length | none => 0
def fD (s : dP) (v : aQ) : Bool :=
 if kindOf v.kind ≠ 0 then kU s v.number (kindOf v.kind) && (if v.kind = 13 ∨ v.kind = 16 then decide (v.index < ES s v.number) else true)
 else if v.kind = 8 then decide (v.number < s.fu.length) else if v.kind = 9 then decide (v.number ≤ 54) else if v.kind = 10 then decide (v.number < s.aA.length) else if v.kind = 14 then decide (v.index < s.aB.length) else true
def cK (s : dP) (v : aQ) : Bool := wfB v && fD s v
def ig (s : dP) (v : aQ) : Bool := decide (v.kind ≤ 12) && cK s v
def eqV (a b : aQ) : Bool := decide (a.kind = b.kind) && decide (a.number = b.number) && decide (a.index = b.index) && (a.text == b.text) && decide (a.set.low = b.set.low) && decide (a.set.high = b.set.high)
def vK (x : aQ) (l : List aQ) : Bool := l.any (eqV x)
open Classical in
noncomputable def qb (l : List aQ) : Bool := decide (∀ (i : Nat) (c : aQ), l[i]? = some c → vK c (l.take i) = false)
def jT (op : Int) : List Int :=
 if op = 1 then [2] else if 2 ≤ op ∧ op ≤ 6 then [1] else if 7 ≤ op ∧ op ≤ 10 then [3] else if op = 13 then [12] else if op = 18 then [13] else if op = 14 ∨ op = 15 then [12, 12] else if op = 16 ∨ op = 17 then [12, 13] else if op = 20 then [13] else []
def qU (s : dP) (k : Int) (v : aQ) : Bool := cK s v && (if k = 13 then decide (v.kind = 13 ∨ v.kind = 14) else decide (v.kind = k))
def jU (s : dP) : List Int → List aQ → Bool
 | [], [] => true
 | k :: ks, v :: vs => qU s k v && jU s ks vs
 | _, _ => false
def yc (s : dP) (op : Int) (aj : List aQ) : Bool := decide (1 ≤ op ∧ op ≤ 23) && jU s (jT op) aj
def fU (s : dP) (o : fV) : Bool := if 2 ≤ o.kind ∧ o.kind ≤ 7 then decide (1 ≤ o.ak ∧ o.ak ≤ s.kI) else decide (o.ak = 0)
def tK (s : dP) (o : fV) : Bool := if o.kind = 5 then decide (0 ≤ o.tag ∧ o.tag < s.aA.length) else if o.kind = 6 then decide (1 ≤ o.tag) else if o.kind = 7 then true else decide (o.tag = 0)
noncomputable def qV (s : dP) (o : fV) : Bool := if o.kind = 3 ∨ o.kind = 4 then decide (o.aX.length ≤ 40) && qb o.aX && o.aX.all (ig s) else decide (o.aX.length = 0)
def xJ (s : dP) (o : fV) : Bool := match s.aA[o.tag.toNat]? with | some r => decide (o.aj.length = r.fields.length) | none => false
def KT (s : dP) : List aQ → Bool
 | [a, b, c] => decide (a.kind = 19) && cK s a && decide (b.kind = 19) && cK s b && decide (c.kind = 1) && cK s c && decide (0 ≤ c.number)
 | _ => false
def vU (s : dP) : List aQ → Bool
 | [a, b] => decide (a.kind = 5) && ig s a && ig s b
 | _ => false
def yN (s : dP) : List aQ → Bool
 | [a, b] => decide (a.kind = 2) && decide (b.kind = 1) && ig s a && ig s b && decide (1 ≤ b.number) && decide (b.number ≤ a.text.size + 1)
 | _ => false
def mK (s : dP) (o : fV) : Bool :=
 if o.kind = 1 then decide (o.aj.length ≤ 24) && o.aj.all (ig s)
 else if o.kind = 2 then decide (o.aj.length ≤ 40) && o.aj.all (ig s)
 else if o.kind = 3 then decide (o.aj.length = o.aX.length + 1) && o.aj.all (ig s)
 else if o.kind = 4 then decide (o.aj.length = 0)
 else if o.kind = 5 then xJ s o && o.aj.all (ig s)
 else if o.kind = 6 then KT s o.aj
 else if o.kind = 7 then yc s o.tag o.aj
 else if o.kind = 8 then vU s o.aj
 else if o.kind = 9 then yN s o.aj
 else false
noncomputable def fZ (s : dP) (o : fV) : Bool := fU s o && tK s o && qV s o && mK s o
open Classical in
noncomputable def qM (l : List fV) : Bool := decide (∀ (i j : Nat) (a b : fV), j < i → l[i]? = some a → l[j]? = some b → a.ak ≠ 0 → a.ak ≠ b.ak)
def wm (s : dP) (a : kZ) : Bool := decide (0 ≤ a.routine) && decide (a.routine < s.fu.length) && kU s a.frame 1
noncomputable def gH (s : dP) : Bool := decide (s.fu.length ≤ 12) && s.fu.all fM && nQ s.aA && decide (s.aB.length ≤ 12) && decide (s.dR.size ≤ 120) && decide (1 ≤ s.dL) && decide (s.dL ≤ s.dR.size + 1) && decide (s.dY.length ≤ 40)
def jP (s : dP) : Bool := decide (0 ≤ s.fT) && decide (s.fT ≤ 4000) && decide (0 ≤ s.je) && decide (s.je ≤ s.fT) && decide (0 ≤ s.kI)
def xK (s : dP) : Bool := s.output.all fun t => decide (t.size ≤ 120)
noncomputable def sV (s : dP) : Bool := gH s && jP s && s.dY.all (wm s) && xK s && s.aB.all (ig s) && s.aI.all (fZ s) && qM s.aI
def pz (t p : aQ) : Bool := decide (t.kind = 2) && decide (p.kind = 1) && decide (1 ≤ p.number) && decide (p.number ≤ t.text.size + 1)
def zk (v : aQ) : Bool := decide (13 ≤ v.kind) && decide (v.kind ≤ 18)
def pE : List aQ → Bool
 | a :: b :: l => zk a && decide (b.kind ≤ 12) && pE l
 | _ => true
def pM (g : iY) : Bool :=
 if g.op = 7 then (match g.args with | [a] => decide (a.kind ≤ 12) | _ => false)
 else if g.op = 72 ∨ g.op = 338 then (match g.args with | [a, b, c] => decide (a.kind = 1) && decide (b.kind = 1) && decide (c.kind = 1) && !decide (c.number = 0) | _ => false)
 else if g.op = 317 then (match g.args with | [a] => decide (a.kind = 5) | _ => false)
 else if g.op = 320 then (match g.args with | [a, b, c] => decide (a.kind = 2) && pz b c | _ => false)
 else if g.op = 321 then (match g.args with | [a, b, c] => decide (a.kind = 3) && pz b c | _ => false)
 else false
def wF (g : iY) : Bool := match g.args with
 | a :: b :: c :: l => pz a b && decide (c.kind = 1) && (if g.op = 8 ∨ g.op = 325 ∨ g.op = 326 then decide (l.length = 0) && decide (c.number = 2) else if g.op = 61 then decide (l.length = 2) && (decide (c.number = 0) || decide (c.number = 1)) && pE l else if g.op = 63 then decide (l.length = 4) && (decide (c.number = 0) || decide (c.number = 1)) && pE l else false)
 | _ => false
def sw (s : dP) (g : iY) : Bool := g.args.all (cK s) && (if g.kind = 1 then decide (1 ≤ g.count) && decide (g.count ≤ 5000) && pM g else decide (g.kind = 2) && decide (g.count = 0) && wF g)
def pN (s : dP) (v : aQ) : Bool := decide (v.kind ≤ 18) && cK s v
def mI (s : dP) (i : Int) : Bool := kU s i 9
def kF (n : Nat) (x : kH) : Bool := decide (-1 ≤ x.fail) && decide (x.fail < n) && decide (0 ≤ x.height) && decide (0 ≤ x.dx) && decide (0 ≤ x.eT)
def iD (m : eG) (x : kG) : Bool := decide (-1 ≤ x.ret) && decide (x.ret ≤ m.code.av.length) && decide (0 ≤ x.routine) && decide (x.routine < m.code.au.length) && decide (0 ≤ x.height) && decide (0 ≤ x.dU) && decide (0 ≤ x.dx) && decide (0 ≤ x.eT) && decide (0 ≤ x.line) && kU m.store x.frame 1
def lY (m : eG) (c : jG) : Bool := decide (1 ≤ c.kind) && decide (c.kind ≤ 6) && decide (0 ≤ c.pc) && decide (c.pc ≤ m.code.av.length) && decide (0 ≤ c.base) && decide (0 ≤ c.line) && kU m.store c.frame 1
def vL (m : eG) (c : jG) : Bool := lY m c && c.dZ.all (pN m.store) && c.dU.all (kF m.code.av.length) && c.eu.all (iD m) && c.cells.all (mI m.store) && (!decide (5 ≤ c.kind) || mI m.store c.object) && (!decide (c.kind = 1) || sw m.store c.gen)
def jE (m : eG) (t : jS) : Bool := decide (0 ≤ t.state) && decide (t.state ≤ 2) && decide (0 ≤ t.entry) && decide (t.entry < m.code.av.length) && decide (-1 ≤ t.pc) && decide (t.pc ≤ m.code.av.length) && decide (t.dR.size ≤ 120) && decide (1 ≤ t.dL) && decide (t.dL ≤ t.dR.size + 1) && kU m.store t.frame 1
def Gu (s : dP) (n : Int) : Int := match s.aI[n.toNat]? with | some o => o.tag | none => 0
def uX (m : eG) (k : Nat) (t : jS) : Bool := if k = 0 then decide (t.object = 0) else kU m.store t.object 6 && decide (Gu m.store t.object = k)
def zN (m : eG) (k : Nat) (t : jS) : Bool := jE m t && uX m k t && t.dZ.all (pN m.store) && t.dU.all (kF m.code.av.length) && t.eu.all (iD m) && t.dx.all (vL m) && t.eT.all (mI m.store)
open Classical in
noncomputable def tL (m : eG) : Bool := decide (∀ (i : Nat) (c : Int), m.dQ[i]? = some c → 0 ≤ c ∧ c < m.bY.length ∧ c ∉ m.dQ.take i)
def rE (m : eG) (o : fV) : Bool := !(decide (o.kind = 6) && decide ((m.bY.length : Int) ≤ o.tag))
noncomputable def gJ (m : eG) : Bool := validCode m.code && sV m.store && decide (m.store.fu.length = m.code.au.length) && decide (m.store.aA.length = m.code.aA.length) && decide (m.store.aB.length = m.code.aB.length) && decide (0 ≤ m.status) && decide (m.status ≤ 5) && decide (0 ≤ m.line) && decide (m.dQ.head? = some 0) && pN m.store m.result
open Classical in
noncomputable def qN (m : eG) : Bool := decide (∀ (k : Nat) (t : jS), m.bY[k]? = some t → zN m k t = true)
noncomputable def Bj (m : eG) : Bool := gJ m && tL m && m.store.aI.all (rE m) && qN m
end
theorem dP.in_ {w : World} {g off lo hi : Nat} {c : dP} (h : At w g off lo hi dP.ay c) : ∃ qh oD bE aY lZ kN bH aZ nY mJ qj oF mq kP, g < w.heap.size ∧ hi ≤ w.heap.size ∧ dz w lo hi 1 eF (.slice qh c.fu.length oD) c.fu ∧ c.fu.length ≤ oD ∧ oD ≤ maxLen ∧ dz w lo hi 3 gU.ay (.slice bE c.aA.length aY) c.aA ∧ c.aA.length ≤ aY ∧ aY ≤ maxLen ∧ dz w lo hi 5 fV.ay (.slice lZ c.aI.length kN) c.aI ∧ c.aI.length ≤ kN ∧ kN ≤ maxLen ∧ dz w lo hi 6 aQ.ay (.slice bH c.aB.length aZ) c.aB ∧ c.aB.length ≤ aZ ∧ aZ ≤ maxLen ∧ dz w lo hi 1 eF (.slice nY c.output.length mJ) c.output ∧ c.output.length ≤ mJ ∧ mJ ≤ maxLen ∧ dz w lo hi 1 eF (.slice qj c.gV.length oF) c.gV ∧ c.gV.length ≤ oF ∧ oF ≤ maxLen ∧ dz w lo hi 2 kZ.ay (.slice mq c.dY.length kP) c.dY ∧ c.dY.length ≤ kP ∧ kP ≤ maxLen ∧ w.cell? ⟨g, off, none⟩ = some (.slice qh c.fu.length oD) ∧ w.cell? ⟨g, off + 1, none⟩ = some (.slice bE c.aA.length aY) ∧ w.cell? ⟨g, off + 2, none⟩ = some (.slice lZ c.aI.length kN) ∧ w.cell? ⟨g, off + 3, none⟩ = some (.slice bH c.aB.length aZ) ∧ w.cell? ⟨g, off + 4, none⟩ = some (.string c.dR) ∧ w.cell? ⟨g, off + 5, none⟩ = some (.int .i64 c.dL) ∧ w.cell? ⟨g, off + 6, none⟩ = some (.slice nY c.output.length mJ) ∧ w.cell? ⟨g, off + 7, none⟩ = some (.slice qj c.gV.length oF) ∧ w.cell? ⟨g, off + 8, none⟩ = some (.slice mq c.dY.length kP) ∧ w.cell? ⟨g, off + 9, none⟩ = some (.bool c.gF) ∧ w.cell? ⟨g, off + 10, none⟩ = some (.int .i64 c.je) ∧ w.cell? ⟨g, off + 11, none⟩ = some (.int .i64 c.fT) ∧ w.cell? ⟨g, off + 12, none⟩ = some (.int .i64 c.kI) := by
 obtain ⟨cs, h1, h2, h3, h4⟩ := h
 obtain ⟨A0, n0, A1, n1, A2, n2, A3, n3, A4, n4, A5, n5, A6, n6, hx, l0, a0, b0, l1, a1, b1, l2, a2, b2, l3, a3, b3, l4, a4, b4, l5, a5, b5, l6, a6, b6⟩ := dP.form h1
 injection hx with hx
 obtain rfl : cs = [_, _, _, _, _, _, _, _, _, _, _, _, _] := congrArg Array.toList hx
 exact ⟨A0, n0, A1, n1, A2, n2, A3, n3, A4, n4, A5, n5, A6, n6, h3, h4, l0, a0, b0, l1, a1, b1, l2, a2, b2, l3, a3, b3, l4, a4, b4, l5, a5, b5, l6, a6, b6, h2 0 _ rfl, h2 1 _ rfl, h2 2 _ rfl, h2 3 _ rfl, h2 4 _ rfl, h2 5 _ rfl, h2 6 _ rfl, h2 7 _ rfl, h2 8 _ rfl, h2 9 _ rfl, h2 10 _ rfl, h2 11 _ rfl, h2 12 _ rfl⟩
section
def Two (v u : Value) : Prop := ∀ k, v.ownBlock = some k → u.ownBlock ≠ some k
theorem Two.symm {v u : Value} (h : Two v u) : Two u v := fun k hk e => h k e hk
theorem Two.ne {v u : Value} (h : Two v u) : v.ownBlock = none ∨ v.ownBlock ≠ u.ownBlock := by
 cases e : v.ownBlock with
 | none => exact .inl rfl
 | some k => exact .inr fun e2 => h k e e2.symm
def yO (l : List Nat) : List Value := l.map fun i : Nat => Value.int .i64 (i : Int)
theorem yP (l : List Nat) : (yO l).length = l.length := by simp [yO]
theorem AL (l : List Nat) (i : Nat) : yO (l ++ [i]) = yO l ++ [Value.int .i64 (i : Int)] := by simp [yO]
structure Rw (w0 wr : World) (n : Nat) (st : St) (sv tv : Value) : Prop where
 sho : wr.ownsRow w0.heap.size 9 1 sv n (st.sh.map Value.string)
 tdo : wr.ownsRow w0.heap.size 3 1 tv st.wk.length (yO st.wk)
 bel : Below w0.heap.size w0 wr
 two : Two sv tv
section
variable {w0 wr w2 : World} {n g cap p : Nat} {st : St} {sv tv : Value}
theorem Rw.len (h : Rw w0 wr n st sv tv) : st.sh.length = n := by have := h.sho.1; simpa using this
theorem Rw.later (h : Rw w0 wr n st sv tv) (hb : Below wr.heap.size wr w2) : Rw w0 w2 n st sv tv := ⟨pG h.sho hb, pG h.tdo hb, h.bel.trans (hb.mono h.bel.size), h.two⟩
theorem Rw.alloc (h : Rw w0 wr n st sv tv) (o : Obj) : Rw w0 (wr.alloc o) n st sv tv := h.later ((bR _ _).alloc (nR _) o)
theorem Rw.same (h : Rw w0 wr n st sv tv) (hs : Same wr w2) : Rw w0 w2 n st sv tv := h.later (hs.below _)
theorem Rw.form (h : Rw w0 wr n st sv tv) (hn : 0 < n) : ∃ g cap, sv = .slice (some ⟨g, 0, none⟩) n cap ∧ w0.heap.size ≤ g ∧ g < wr.heap.size ∧ n ≤ cap ∧ cap ≤ maxLen := by
 rcases h.sho.2 with ⟨rfl, rfl⟩ | ⟨g, cap, cur, rfl, hb, hg, h1, h2, _⟩
 ·exact absurd hn (by omega)
 ·exact ⟨g, cap, rfl, hb, (Array.getElem?_eq_some_iff.1 hg).1, h1, h2⟩
theorem Rw.cell (h : Rw w0 wr n st (.slice (some ⟨g, 0, none⟩) n cap) tv) (hp : p < n) : wr.cell? ⟨g, p, none⟩ = some (.string (st.at_ p)) := by
 rw [h.sho.cellAt p (by omega), List.getElem?_map, Ru (by rw [h.len]; exact hp)]; rfl
theorem Rw.frozen (h : Rw w0 wr n st (.slice (some ⟨g, 0, none⟩) n cap) tv) (p : Nat) : wr.frozen? ⟨g, p, none⟩ = false := h.sho.frozenAt p
theorem Rw.push {tv' : Value} {i : Nat} (h : Rw w0 wr n st sv tv) (ho : w2.ownsRow w0.heap.size 3 1 tv' (st.wk.length + 1) (yO st.wk ++ [.int .i64 (i : Int)])) (hg : wr.grownBy w2 tv.ownBlock) (hat : tv'.ownBlock = tv.ownBlock ∨ tv'.ownBlock = some (wr.heap.size + 1)) :
 Rw w0 w2 n ⟨st.sh, st.wk ++ [i]⟩ sv tv' := by
 refine ⟨h.sho.kept hg h.two.ne, ?_, BK h.bel h.bel.size h.tdo hg, ?_⟩
 ·rw [AL, List.length_append]; exact ho
 ·intro k hk e
  rcases hat with h1 | h1
  ·rw [h1] at e; exact h.two k hk e
  ·rw [h1] at e; injection e with e; have := (h.sho.lt k hk).2; omega
theorem Rw.pop {sh : List ByteArray} {ws : List Nat} {i : Nat} (h : Rw w0 wr n ⟨sh, ws ++ [i]⟩ sv tv) :
 ∃ g cap, tv = .slice (some ⟨g, 0, none⟩) (ws.length + 1) cap ∧ g < wr.heap.size ∧ w0.heap.size ≤ g ∧ ws.length + 1 ≤ cap ∧ cap ≤ maxLen ∧ wr.cell? ⟨g, ws.length, none⟩ = some (.int .i64 (i : Int)) ∧ Rw w0 wr n ⟨sh, ws⟩ sv (.slice (some ⟨g, 0, none⟩) ws.length cap) := by
 have ht := h.tdo
 simp only [AL, List.length_append, List.length_singleton] at ht
 rcases ht.2 with ⟨rfl, h0⟩ | ⟨g, cap, cur, rfl, hb, hg, h1, h2, _⟩
 ·omega
 ·refine ⟨g, cap, rfl, (Array.getElem?_eq_some_iff.1 hg).1, hb, h1, h2, ?_, h.sho, ?_, h.bel, h.two⟩
  ·rw [ht.cellAt ws.length (by omega), List.getElem?_append_right (by rw [yP]; exact nR _), yP, Nat.sub_self]; rfl
  ·exact ownsRow_pop (by rw [yP, Nat.mul_one]) ht
end
def Ve (q : St × Bool) (p : Int) (s : ByteArray) : St × Bool := match reach q.1 p s with
 | some s1 => (s1, q.2)
 | none => (q.1, true)
def Vp (s t : ByteArray) : ByteArray := if xB s t = true then Di s t.size else s
structure Vq (n : Nat) (x : eO) : Prop where
 op : 1 ≤ x.op ∧ x.op ≤ 30
 lab : lg x.op = true → (0 ≤ x.a ∧ x.a < n) ∨ (x.op = 13 ∧ x.a = -1)
 arg : x.op = 11 ∨ x.op = 12 → 0 ≤ x.b ∧ x.b ≤ 9
theorem gY {s : ByteArray} (h : s.size = 0) : s.toList.isEmpty = true := by
 rw [ByteArray.toList_eq, List.isEmpty_iff]; exact List.eq_nil_of_length_eq_zero ((Array.length_toList (xs := s.data)).trans h)
theorem lW {s : ByteArray} (h : ¬ s.size = 0) : s.toList.isEmpty = false := by
 rw [Bool.eq_false_iff, ByteArray.toList_eq, ne_eq, List.isEmpty_iff]
 intro hn
 exact h ((Array.length_toList (xs := s.data)).symm.trans (by rw [hn]; rfl))
end
section
section
variable {P : Program}
theorem Dj (mty kt et : TypeId) (z : Value) (hm : P.underlying mty = some (.map kt et)) (hk : P.underlying kt = some (.int .i64)) (hz : ∀ W : World, (zeroValue et).run P W = .ok z W)
 (w : World) (b : Nat) (l : List (Int × Value × Nat)) (c : Nat) (n : Int) (hb : w.heap[b]? = some (.map (vk l) c)) :
 (Instr.lookup mty (.map (some b)) (.int .i64 n) false).run P w = .ok (BL l n z) w := by
 have hc : (Instr.checkKey (vk l).isEmpty 10000 kt (.int .i64 n)).run P w = .ok () w := MapKept.run_checkKey (k := .int .i64 n) hk (by simp [MapKept.IsKey]) _ 9999
 have hf : Instr.findNow (.int .i64) (.int .i64 n) (vk l).toList 0 = some (tq l n 0) := Av n l 0
 unfold BL
 cases hl : tq l n 0 with
 | none => rw [hl] at hf; simp [Instr.lookup, run_underlying hm, MapKept.run_getObj_map hb, hc, MapKept.run_findKey hk hf, hz, Result.andThen]
 | some q => obtain ⟨i, v⟩ := q; rw [hl] at hf; simp [Instr.lookup, run_underlying hm, MapKept.run_getObj_map hb, hc, MapKept.run_findKey hk hf, Result.andThen]
theorem Dk (mty kt et : TypeId) (hm : P.underlying mty = some (.map kt et)) (hk : P.underlying kt = some (.int .i64)) (w : World) (b : Nat) (l : List (Int × Value × Nat)) (c : Nat) (n : Int) (val : Value) (hb : w.heap[b]? = some (.map (vk l) c)) :
 ∃ w', (Instr.mapUpdate mty (.map (some b)) (.int .i64 n) val).run P w = .ok () w' ∧ w'.heap[b]? = some (.map (vk (EH l c n val)) (Jr l c n)) ∧ w.grownBy w' (some b) := by
 have hc : (Instr.checkKey false 10000 kt (.int .i64 n)).run P w = .ok () w := MapKept.run_checkKey (k := .int .i64 n) hk (by simp [MapKept.IsKey]) false 9999
 have hf : Instr.findNow (.int .i64) (.int .i64 n) (vk l).toList 0 = some (tq l n 0) := Av n l 0
 have hw : ∀ o : Obj, w.grownBy (ChangeMaps.setBlock w b o) (some b) := fun o => ⟨rfl, rfl, rfl, by simp [ChangeMaps.setBlock], fun i _ hi => ChangeMaps.heap_setBlock_other hb _ (fun e => hi (by rw [e]))⟩
 cases hl : tq l n 0 with
 | none =>
   rw [hl] at hf
   have e : vk (EH l c n val) = (vk l).push { key := .int .i64 n, val := val, born := c } := by simp [EH, hl, vk, Dh]
   have e2 : Jr l c n = c + 1 := by simp [Jr, hl]
   refine ⟨ChangeMaps.setBlock w b (.map ((vk l).push { key := .int .i64 n, val := val, born := c }) (c + 1)), ?_, ?_, hw _⟩
   ·simp [Instr.mapUpdate, run_underlying hm, MapKept.run_getObj_map hb, hc, MapKept.run_findKey hk hf, MapKept.run_setObj_map _ hb, Result.andThen]
    rfl
   ·rw [e, e2]; exact ChangeMaps.heap_setBlock_same hb _
 | some q =>
   obtain ⟨i, v⟩ := q
   rw [hl] at hf
   obtain ⟨-, hkey⟩ := Js l n 0 i v hl
   have e : vk (EH l c n val) = (vk l).modify i fun e => { e with key := .int .i64 n, val := val } := by
    simp only [EH, hl, vk, List.modify_toArray]
    congr 1
    exact Hr (fun x => (n, val, x.2.2)) (fun e => { e with key := .int .i64 n, val := val }) (fun _ => rfl) l i
   have e2 : Jr l c n = c := by simp [Jr, hl]
   have Ry : ((Option.map (fun x => x.key) (vk l)[i]?).getD (Value.int .i64 n)) = .int .i64 n := by
    rw [Nat.sub_zero] at hkey
    cases hx : l[i]? with
    | none => simp [vk, hx]
    | some x => rw [hx] at hkey; simp at hkey; simp [vk, hx, Dh, hkey]
   have hks : ∀ W : World, (Instr.keyThatStays (.int .i64 n) (.int .i64 n)).run P W = .ok (.int .i64 n) W := fun W => by
    have : Instr.sameBits 10000 (.int .i64 n) (.int .i64 n) = true := by unfold Instr.sameBits; simp
    simp [Instr.keyThatStays, this]
   refine ⟨ChangeMaps.setBlock w b (.map ((vk l).modify i fun e => { e with key := .int .i64 n, val := val }) c), ?_, ?_, hw _⟩
   ·simp [Instr.mapUpdate, run_underlying hm, MapKept.run_getObj_map hb, hc, MapKept.run_findKey hk hf, Result.andThen]
    rw [Ry, hks]
    simp [MapKept.run_setObj_map _ hb]
    rfl
   ·rw [e, e2]; exact ChangeMaps.heap_setBlock_same hb _
end
theorem zO (n : Int) (x : Int × Value × Nat) : ∀ (l : List (Int × Value × Nat)) (i : Nat), tq (l ++ [x]) n i = match tq l n i with | some q => some q | none => if n = x.1 then some (i + l.length, x.2.1) else none
 | [], i => by simp [tq]
 | y :: l, i => by
   simp only [List.cons_append, tq]
   split
   ·rfl
   ·rw [zO n x l (i + 1), List.length_cons, show i + 1 + l.length = i + (l.length + 1) by omega]
def Keys (l : List (Int × Value × Nat)) (ks : List Int) : Prop := (∀ n, BL l n (.bool false) = .bool (decide (n ∈ ks))) ∧ ∀ n, n ∉ ks → tq l n 0 = none
theorem Keys.nil : Keys [] [] := ⟨fun n => by simp [BL, tq], fun n _ => rfl⟩
theorem Keys.ins {l : List (Int × Value × Nat)} {ks : List Int} (h : Keys l ks) (c : Nat) (n : Int) (hn : n ∉ ks) : Keys (EH l c n (.bool true)) (ks ++ [n]) := by
 have hf := h.2 n hn
 have hi : EH l c n (.bool true) = l ++ [(n, .bool true, c)] := by simp [EH, hf]
 refine ⟨fun m => ?_, fun m hm => ?_⟩
 ·rw [hi, BL, zO]
  have hm := h.1 m
  unfold BL at hm
  cases hq : tq l m 0 with
  | some q =>
    rw [hq] at hm
    simp only at hm ⊢
    rw [hm]
    by_cases hmk : m ∈ ks
    ·simp [hmk]
    ·by_cases e : m = n
     ·subst e; rw [hf] at hq; cases hq
     ·simp [hmk, e]
  | none =>
    rw [hq] at hm
    simp only at hm ⊢
    have hmk : m ∉ ks := by intro hmk; simp [hmk] at hm
    by_cases e : m = n
    ·simp [e]
    ·simp [e, hmk]
 ·have h1 : m ∉ ks := fun e => hm (List.mem_append_left _ e)
  have h2 : m ≠ n := fun e => hm (by rw [e]; simp)
  rw [hi, zO, h.2 m h1]
  simp [h2]
end
theorem uL {w : World} {lo hi : Nat} : ∀ {l : List Int} {vs : List Value}, eU w lo hi (flat gW l) vs ↔ vs = l.map (Value.int .i64)
 | [], vs => by simp [flat, eU]
 | s :: l, vs => by
   rw [ru]
   constructor
   ·intro h
    obtain ⟨v, vs', rfl, h1, h2⟩ := eU.out (d := .int .i64 s) (ds := flat gW l) h
    obtain rfl := h1.gG
    rw [uL.1 h2]; rfl
   ·intro h
    subst h
    exact eU.dJ Rep.mkInt (uL.2 rfl)
theorem dz.Rz {w : World} {lo hi : Nat} {v : Value} {l : List Int} : dz w lo hi 1 gW v l ↔ Rds w lo hi 1 v l.length (l.map (Value.int .i64)) := by
 constructor
 ·intro h
  obtain ⟨vs, h1, h2⟩ := Rep.rR h
  rw [uL.1 h2] at h1
  exact h1
 ·intro h
  exact Rep.u7 h (uL.2 rfl)
theorem gZ.nums {w : World} {lo hi : Nat} : ∀ (l : List Int), gZ w lo hi (flat gW l) (l.map (Value.int .i64))
 | [] => by rw [oP]; exact .lu
 | s :: l => by rw [ru]; exact gZ.gG (gZ.nums l)
theorem dI.nums {w : World} {lo hi : Nat} {e : TypeId} {v : Value} {l : List Int} (h : w.ownsRow lo e 1 v l.length (l.map (Value.int .i64))) (hhi : w.heap.size ≤ hi) : dI w lo hi 1 gW v l := by
 obtain ⟨F, a1, a2, a3⟩ := gZ.nums (w := w) (lo := 0) (hi := 0) l
 have hF : F = [] := List.eq_nil_iff_forall_not_mem.2 fun g hg => by have := a3 g hg; omega
 subst hF
 refine ⟨_, oQ.u7 h a1, ?_, fun g hv => ?_⟩
 ·cases v.ownBlock <;> simp
 ·have hv : v.ownBlock = some g := by simpa using hv
  have := h.lt g hv; omega
theorem ET (c : fV) (x : Value) (left : Int) (w : World) (lo hi : Nat) (h : fA w lo hi fV.ay x c) (hhi : hi ≤ w.heap.size) (hl0 : 0 ≤ left) (hl1 : left ≤ 1048576) (hf : c.Fits) :
 Calls Tryz.prog 66 #[x, .int .i64 left] w fun e w' => e = .returned (.int .i64 (leftOf left c.dX)) ∧ Below w.heap.size w w' := by
 obtain ⟨pP, oV, rG, qP, rfl, yI, KU, EU, hkeys, Oz, I4⟩ := fV.form h
 obtain ⟨KV, OA⟩ := hf
 have HB : Hid (c.dX = (c.aj.length + sumOf aQ.dX c.aj) + (c.aX.length + sumOf aQ.dX c.aX)) := rfl
 unfold maxLen at EU I4
 have O1 := lH KV
 clear KV
 have RA := lH OA
 clear OA
 have hw0 : Below w.heap.size w (w.alloc (.cells #[Value.int .i64 c.kind, .int .i64 c.tag, .int .i64 c.ak, .slice pP c.aj.length oV, .slice rG c.aX.length qP] 136)) := bA _ _
 go_enter Tryz.func66, Tryz.ntmps66
 go_wp2_with fail
 refine (rU c.aj _ _ _ lo hi (yI.below hw0 hhi) (nT hhi hw0.size) (by omega) (by omega) O1.out).mono ?_; rintro e w1 ⟨rfl, hb1⟩
 have hw1 : Below w.heap.size w w1 := hw0.trans (hb1.mono hw0.size)
 have a1 := (Blk.new w 136 #[Value.int .i64 c.kind, .int .i64 c.tag, .int .i64 c.ak, .slice pP c.aj.length oV, .slice rG c.aX.length qP]).later hb1
 have ca := a1.cell
 have la := a1.lt
 by_cases I5 : left < ((c.aj.length + sumOf aQ.dX c.aj) : Nat)
 ·rw [dM I5]
  go_wp2_with fail
  go_ret
  exact ⟨eX (dM (by have := HB.out; omega)).symm, hw1⟩
 rw [ep I5]
 generalize hL : left - (((c.aj.length + sumOf aQ.dX c.aj) : Nat) : Int) = mF
 have l1a : mF ≤ left - ((c.aj.length + sumOf aQ.dX c.aj) : Nat) := by omega
 have l1b : left - ((c.aj.length + sumOf aQ.dX c.aj) : Nat) ≤ mF := by omega
 clear hL
 go_wp2_with fail
 refine (rU c.aX _ _ _ lo hi (hkeys.below hw1 hhi) (nT hhi hw1.size) (by omega) (by omega) RA.out).mono ?_; rintro e w2 ⟨rfl, hb2⟩
 have hw2 : Below w.heap.size w w2 := hw1.trans (hb2.mono hw1.size)
 have a2 := a1.later hb2
 clear ca la
 have ca := a2.cell
 have la := a2.lt
 by_cases KW : mF < ((c.aX.length + sumOf aQ.dX c.aX) : Nat)
 ·rw [dM KW]
  go_wp2_with fail
  go_ret
  exact ⟨eX (dM (by have := HB.out; omega)).symm, hw2⟩
 rw [ep KW]
 generalize hL : mF - (((c.aX.length + sumOf aQ.dX c.aX) : Nat) : Int) = oC
 have l2a : oC ≤ mF - ((c.aX.length + sumOf aQ.dX c.aX) : Nat) := by omega
 have l2b : mF - ((c.aX.length + sumOf aQ.dX c.aX) : Nat) ≤ oC := by omega
 clear hL
 go_wp2_with fail
 go_ret
 exact ⟨eX (by rw [ep (by have := HB.out; omega)]; have := HB.out; omega), hw2⟩
theorem Dl (l : List fV) (v : Value) (left : Int) (w : World) (lo hi : Nat) (h : dz w lo hi 5 fV.ay v l) (hhi : hi ≤ w.heap.size) (hl0 : 0 ≤ left) (hl1 : left ≤ 1048576) (hf : ∀ c ∈ l, c.Fits) :
 Calls Tryz.prog 30 #[v, .int .i64 left] w fun e w' => e = .returned (.int .i64 (leftOf left (l.length + sumOf fV.dX l))) ∧ Below w.heap.size w w' := by
 obtain ⟨A, cap, rfl, hc1, hc2⟩ := h.shape
 unfold maxLen at hc2
 have HF := lH hf
 clear hf
 by_cases hn : left < l.length
 ·go_enter Tryz.func30, Tryz.ntmps30
  go_wp2_with fail
  go_ret
  exact ⟨eX (dM (by omega)).symm, bR _ _⟩
 go_enter Tryz.func30, Tryz.ntmps30
 go_wp2_with fail
 go_loopw [1, 5] (fun t i wr => ∃ k : Nat, k ≤ l.length ∧ i = .int .i64 k ∧ t = .int .i64 (left - l.length - sumOf fV.dX (l.take k)) ∧ sumOf fV.dX (l.take k) ≤ left - l.length ∧ Below w.heap.size w wr) (fun _ i _ => l.length - (intOf i).toNat)
 case atStart => exact ⟨0, nZ _, rfl, by simp [sumOf], by simp [sumOf]; omega, bR _ _⟩
 case round =>
  obtain ⟨k, hk, rfl, rfl, hle, hb⟩ := hrel
  obtain ⟨wo, rfl⟩ := nW wr
  have hz := hb.size
  by_cases hlt : k < l.length
  ·obtain ⟨c, hc⟩ : ∃ c, l[k]? = some c := ⟨_, gE hlt⟩
   obtain ⟨g, off, pP, oV, rG, qP, rfl, hg1, hg2, hmem, hrep, q0, q1, q2, q3, q4⟩ := fV.at_ (h.below hb hhi) hc
   have HB := lH (rM (b := fV.dX) hc)
   have hft := HF.out c hmem
   clear hc hmem
   go_wp2_with fail
   refine (ET c _ _ _ _ _ hrep (by omega) (by omega) (by omega) hft).mono ?_; rintro e w1 ⟨rfl, hb1⟩
   have hb2 := hb.trans (hb1.mono hz)
   clear hrep q0 q1 q2 q3 q4
   by_cases hk1 : left - l.length - sumOf fV.dX (l.take k) < c.dX
   ·rw [dM hk1]
    go_wp2_with fail
    go_ret
    exact ⟨eX (dM (by have := HB.out; have := pX fV.dX l (k + 1); omega)).symm, hb2⟩
   ·rw [ep hk1]
    go_wp2_with fail
    go_roundw
    case rel => exact ⟨k + 1, by omega, by go_num, by rw [HB.out]; go_num, by rw [HB.out]; omega, hb2⟩
    case measure => simp [intOf]; omega
  ·obtain rfl : k = l.length := by omega
   rw [List.take_length] at hle ⊢
   go_wp2_with fail
   go_ret
   exact ⟨eX (by rw [ep (by omega)]; omega), hb⟩
theorem Bl (c : iY) (x : Value) (left : Int) (w : World) (lo hi : Nat) (h : fA w lo hi iY.ay x c) (hhi : hi ≤ w.heap.size) (hl0 : 0 ≤ left) (hl1 : left ≤ 1048576) (hf : c.Fits) :
 Calls Tryz.prog 146 #[x, .int .i64 left] w fun e w' => e = .returned (.int .i64 (leftOf left c.dX)) ∧ Below w.heap.size w w' := by
 obtain ⟨tu, nargs, rfl, hargs, OB, I6⟩ := iY.form h
 have OD : ∀ y ∈ c.args, y.Fits := hf
 have HB : Hid (c.dX = (c.args.length + sumOf aQ.dX c.args)) := rfl
 unfold maxLen at I6
 have RB := lH OD
 clear OD
 have hw0 : Below w.heap.size w (w.alloc (.cells #[Value.int .i64 c.kind, .int .i64 c.op, .int .i64 c.count, .slice tu c.args.length nargs] 189)) := bA _ _
 go_enter Tryz.func146, Tryz.ntmps146
 go_wp2_with fail
 refine (rU c.args _ _ _ lo hi (hargs.below hw0 hhi) (nT hhi hw0.size) (by omega) (by omega) RB.out).mono ?_; rintro e w1 ⟨rfl, hb1⟩
 have hw1 : Below w.heap.size w w1 := hw0.trans (hb1.mono hw0.size)
 have a1 := (Blk.new w 189 #[Value.int .i64 c.kind, .int .i64 c.op, .int .i64 c.count, .slice tu c.args.length nargs]).later hb1
 have ca := a1.cell
 have la := a1.lt
 by_cases KX : left < ((c.args.length + sumOf aQ.dX c.args) : Nat)
 ·rw [dM KX]
  go_wp2_with fail
  go_ret
  exact ⟨eX (dM (by have := HB.out; omega)).symm, hw1⟩
 rw [ep KX]
 generalize hL : left - (((c.args.length + sumOf aQ.dX c.args) : Nat) : Int) = mF
 have l1a : mF ≤ left - ((c.args.length + sumOf aQ.dX c.args) : Nat) := by omega
 have l1b : left - ((c.args.length + sumOf aQ.dX c.args) : Nat) ≤ mF := by omega
 clear hL
 go_wp2_with fail
 go_ret
 exact ⟨eX (by rw [ep (by have := HB.out; omega)]; have := HB.out; omega), hw1⟩
theorem JB : (Tryz.prog.info? 3).map (fun i => (i.zero, i.size, i.bytes)) = some (some (.int .i64 0), 1, 8) := by kernel_rfl
def Nf (l : List Int) (w : World) (e : Ending) (w' : World) : Prop := ∃ v, e = .returned v ∧ w'.ownsRow w.heap.size 3 1 v l.length (l.map (Value.int .i64)) ∧ Below w.heap.size w w'
theorem H9 (v : Value) (l : List Int) (w : World) {lo hi : Nat} (h : Rds w lo hi 1 v l.length (l.map (Value.int .i64))) (hhi : hi ≤ w.heap.size) (hl : l.length ≤ 1048576) :
 Calls Tryz.prog 18 #[v] w (Nf l w) := by
 obtain ⟨i0, hi0, hz0, hz1, hz2⟩ := info_parts JB
 obtain ⟨A, c, rfl, hc1, hc2, -⟩ := h.shape
 unfold maxLen at hc2
 go_enter Tryz.func18, Tryz.ntmps18
 go_wp2_with (first | (at_make; refine wpList_make_full w rfl (.tmp 6) (.tmp 6) 34 rfl w.heap.size 3 i0 _ 1 Tryz.underlying34 hi0 hz0 hz1 .i64 .i64 _ _ l.length rfl rfl rfl rfl (by rw [hz2]; omega) (by unfold maxLen; omega) (nR _) ?_))
 intro w1 hown hg
 have hb := kM hg (nR w.heap.size) (fun g hg => by cases hg)
 obtain ⟨Z, hown⟩ : ∃ Z, w1.ownsRow w.heap.size 3 1 (.slice (some ⟨w.heap.size, 0, none⟩) l.length l.length) l.length Z := ⟨_, hown⟩
 have hzl : (l.map (Value.int .i64)).length = Z.length := by have := hown.1; rw [List.length_map]; omega
 have Hzl := lH hzl
 clear hg hzl
 go_wp2_with fail
 go_loopw [4] (fun i wr => ∃ k : Nat, k ≤ l.length ∧ i = .int .i64 k ∧ wr.ownsRow w.heap.size 3 1 (.slice (some ⟨w.heap.size, 0, none⟩) l.length l.length) l.length ((l.map (Value.int .i64)).take k ++ Z.drop k) ∧ Below w.heap.size w wr) (fun i _ => l.length - (intOf i).toNat)
 case atStart => exact ⟨0, nZ _, rfl, by simpa using hown, hb⟩
 case round =>
  obtain ⟨k, hk, rfl, ho, hbw⟩ := hrel
  by_cases hlt : k < l.length
  ·obtain ⟨g, off, x, rfl, -, hgh, hx, hcell⟩ := (h.below hbw hhi).KF hlt
   have hne : g ≠ w.heap.size := by omega
   have hx' : (l.map (Value.int .i64))[k]? = some (.int .i64 x) := by rw [List.getElem?_map, hx]; rfl
   have hfz := ho.frozenAt k
   have hc2 : ∃ u, wr.cell? ⟨w.heap.size, k, none⟩ = some u := by
    have hh := ho.cellAt k (by omega)
    have hll : k < ((l.map (Value.int .i64)).take k ++ Z.drop k).length := by rw [F9 Hzl.out (by simpa using hk)]; simpa using hlt
    exact ⟨_, hh.trans (gE hll)⟩
   obtain ⟨u, hc2⟩ := hc2
   have hst := ho.stored k (.int .i64 x)
   rw [F7 hx' Hzl.out] at hst
   have H1 := lH hst
   clear hst hx' hx
   go_wp2_with fail
   go_roundw
   case rel => exact ⟨k + 1, by omega, by go_num, H1.out.1, hbw.setCell (nR _) _⟩
   case measure => simp [intOf]; omega
  ·obtain rfl : k = l.length := by omega
   go_wp2_with fail
   go_ret
   refine ⟨_, rfl, ?_, hbw⟩
   have := F8 Hzl.out
   rw [List.length_map] at this
   rw [this] at ho
   exact ho
theorem xL (l : List Int) (v : Value) (w : World) (lo hi : Nat) (h : dz w lo hi 1 gW v l) (hhi : hi ≤ w.heap.size) (hl : l.length + sumOf oL l ≤ 1048576) :
 Calls Tryz.prog 18 #[v] w (vT 1 gW l w) :=
 (H9 v l w (dz.Rz.1 h) hhi (by omega)).mono fun e w' ⟨u, he, ho, hb⟩ => ⟨u, he, dI.nums ho (nR _), hb⟩
theorem JC : (Tryz.prog.info? 9).map (fun i => (i.zero, i.size, i.bytes)) = some (some (.string ⟨#[]⟩), 1, 16) := by kernel_rfl
def Ng (l : List ByteArray) (w : World) (e : Ending) (w' : World) : Prop := ∃ v, e = .returned v ∧ w'.ownsRow w.heap.size 9 1 v l.length (l.map .string) ∧ Below w.heap.size w w'
theorem Ia (v : Value) (l : List ByteArray) (w : World) {lo hi : Nat} (h : Rds w lo hi 1 v l.length (l.map .string)) (hhi : hi ≤ w.heap.size) (hl : l.length ≤ 1048576) :
 Calls Tryz.prog 42 #[v] w (Ng l w) := by
 obtain ⟨i0, hi0, hz0, hz1, hz2⟩ := info_parts JC
 obtain ⟨A, c, rfl, hc1, hc2, -⟩ := h.shape
 unfold maxLen at hc2
 go_enter Tryz.func42, Tryz.ntmps42
 go_wp2_with (first | (at_make; refine wpList_make_full w rfl (.tmp 6) (.tmp 6) 24 rfl w.heap.size 9 i0 _ 1 Tryz.underlying24 hi0 hz0 hz1 .i64 .i64 _ _ l.length rfl rfl rfl rfl (by rw [hz2]; omega) (by unfold maxLen; omega) (nR _) ?_))
 intro w1 hown hg
 have hb := kM hg (nR w.heap.size) (fun g hg => by cases hg)
 obtain ⟨Z, hown⟩ : ∃ Z, w1.ownsRow w.heap.size 9 1 (.slice (some ⟨w.heap.size, 0, none⟩) l.length l.length) l.length Z := ⟨_, hown⟩
 have hzl : (l.map Value.string).length = Z.length := by have := hown.1; rw [List.length_map]; omega
 have Hzl := lH hzl
 clear hg hzl
 go_wp2_with fail
 go_loopw [4] (fun i wr => ∃ k : Nat, k ≤ l.length ∧ i = .int .i64 k ∧ wr.ownsRow w.heap.size 9 1 (.slice (some ⟨w.heap.size, 0, none⟩) l.length l.length) l.length ((l.map .string).take k ++ Z.drop k) ∧ Below w.heap.size w wr) (fun i _ => l.length - (intOf i).toNat)
 case atStart => exact ⟨0, nZ _, rfl, by simpa using hown, hb⟩
 case round =>
  obtain ⟨k, hk, rfl, ho, hbw⟩ := hrel
  by_cases hlt : k < l.length
  ·obtain ⟨g, off, x, rfl, -, hgh, hx, hcell⟩ := (h.below hbw hhi).KF hlt
   have hne : g ≠ w.heap.size := by omega
   have hx' : (l.map Value.string)[k]? = some (.string x) := by rw [List.getElem?_map, hx]; rfl
   have hfz := ho.frozenAt k
   have hc2 : ∃ u, wr.cell? ⟨w.heap.size, k, none⟩ = some u := by
    have hh := ho.cellAt k (by omega)
    have hll : k < ((l.map Value.string).take k ++ Z.drop k).length := by rw [F9 Hzl.out (by simpa using hk)]; simpa using hlt
    exact ⟨_, hh.trans (gE hll)⟩
   obtain ⟨u, hc2⟩ := hc2
   have hst := ho.stored k (.string x)
   rw [F7 hx' Hzl.out] at hst
   have H1 := lH hst
   clear hst hx' hx
   go_wp2_with fail
   go_roundw
   case rel => exact ⟨k + 1, by omega, by go_num, H1.out.1, hbw.setCell (nR _) _⟩
   case measure => simp [intOf]; omega
  ·obtain rfl : k = l.length := by omega
   go_wp2_with fail
   go_ret
   refine ⟨_, rfl, ?_, hbw⟩
   have := F8 Hzl.out
   rw [List.length_map] at this
   rw [this] at ho
   exact ho
theorem uQ (l : List ByteArray) (v : Value) (w : World) (lo hi : Nat) (h : dz w lo hi 1 eF v l) (hhi : hi ≤ w.heap.size) (hl : l.length + sumOf ByteArray.size l ≤ 1048576) :
 Calls Tryz.prog 42 #[v] w (vT 1 eF l w) :=
 (Ia v l w (dz.rds.1 h) hhi (by omega)).mono fun e w' ⟨u, he, ho, hb⟩ => ⟨u, he, dI.texts ho (nR _), hb⟩
theorem vM (l : List ByteArray) (v u : Value) (w : World) (lo hi lo' hi' : Nat) (h : dz w lo hi 1 eF v l) (h' : dz w lo' hi' 1 eF u l) (hhi : hi ≤ w.heap.size) (eP : hi' ≤ w.heap.size) :
 Calls Tryz.prog 56 #[v, u] w fun e w' => e = .returned (.bool true) ∧ Below w.heap.size w w' := by
 obtain ⟨A, c, rfl, hc1, hc2⟩ := h.shape
 obtain ⟨A', c', rfl, hc1', hc2'⟩ := h'.shape
 unfold maxLen at hc2 hc2'
 have hne : ((l.length : Int) != (l.length : Int)) = false := by simp
 go_enter Tryz.func56, Tryz.ntmps56
 go_wp2_with fail
 go_loopw [5] (fun i wr => ∃ k : Nat, k ≤ l.length ∧ i = .int .i64 k ∧ Same w wr) (fun i _ => l.length - (intOf i).toNat)
 case atStart => exact ⟨0, nZ _, rfl, Same.refl _⟩
 case round =>
  obtain ⟨k, hk, rfl, hs⟩ := hrel
  obtain ⟨wo, rfl⟩ := nW wr
  by_cases hlt : k < l.length
  ·obtain ⟨s, hc⟩ : ∃ s, l[k]? = some s := ⟨_, gE hlt⟩
   obtain ⟨g, off, rfl, -, -, q0⟩ := (h.same hs).text hc
   obtain ⟨g', off', rfl, -, -, q0'⟩ := (h'.same hs).text hc
   have hb := str_eq s
   clear hc
   go_wp2_with fail
   go_quiet (fail)
   go_wp2_with fail
   go_roundw
   case rel => exact ⟨k + 1, by omega, by go_num, hs.drewN _⟩
   case measure => simp [intOf]; omega
  ·obtain rfl : k = l.length := by omega
   go_wp2_with fail
   go_ret
   exact ⟨rfl, hs.below _⟩
theorem zl (c : jF) (x y : Value) (w : World) (lo hi lo' hi' : Nat) (h : fA w lo hi jF.ay x c) (h' : fA w lo' hi' jF.ay y c) (hhi : hi ≤ w.heap.size) (eP : hi' ≤ w.heap.size) :
 Calls Tryz.prog 103 #[x, y] w fun e w' => e = .returned (.bool true) ∧ Below w.heap.size w w' := by
 obtain rfl := jF.form h
 obtain rfl := jF.form h'
 have RD := str_eq c.name
 have TT : (c.params != c.params) = false := by simp
 have Uy : (c.slots != c.slots) = false := by simp
 have O4 : (c.entry != c.entry) = false := by simp
 have hw0 : Below w.heap.size w ((w.alloc (.cells #[Value.string c.name, .int .i64 c.params, .int .i64 c.slots, .int .i64 c.entry] 141)).alloc (.cells #[Value.string c.name, .int .i64 c.params, .int .i64 c.slots, .int .i64 c.entry] 141)) := (bA _ _).alloc (by simp) _
 have a0 := (Blk.new w 141 #[Value.string c.name, .int .i64 c.params, .int .i64 c.slots, .int .i64 c.entry]).alloc (.cells #[Value.string c.name, .int .i64 c.params, .int .i64 c.slots, .int .i64 c.entry] 141)
 have e0 := Blk.newAt (w.alloc (.cells #[Value.string c.name, .int .i64 c.params, .int .i64 c.slots, .int .i64 c.entry] 141)) 141 #[Value.string c.name, .int .i64 c.params, .int .i64 c.slots, .int .i64 c.entry] (w.heap.size + 1) (by simp)
 go_enter Tryz.func103, Tryz.ntmps103
 go_wp2_with fail
 go_ret
 exact ⟨rfl, hw0⟩
theorem yQ (l : List jF) (v u : Value) (w : World) (lo hi lo' hi' : Nat) (h : dz w lo hi 4 jF.ay v l) (h' : dz w lo' hi' 4 jF.ay u l) (hhi : hi ≤ w.heap.size) (eP : hi' ≤ w.heap.size) :
 Calls Tryz.prog 54 #[v, u] w fun e w' => e = .returned (.bool true) ∧ Below w.heap.size w w' := by
 obtain ⟨A, cap, rfl, hc1, hc2⟩ := h.shape
 obtain ⟨A', cap', rfl, hc1', hc2'⟩ := h'.shape
 unfold maxLen at hc2 hc2'
 have hne : ((l.length : Int) != (l.length : Int)) = false := by simp
 go_enter Tryz.func54, Tryz.ntmps54
 go_wp2_with fail
 go_loopw [5] (fun i wr => ∃ k : Nat, k ≤ l.length ∧ i = .int .i64 k ∧ Below w.heap.size w wr) (fun i _ => l.length - (intOf i).toNat)
 case atStart => exact ⟨0, nZ _, rfl, bR _ _⟩
 case round =>
  obtain ⟨k, hk, rfl, hb⟩ := hrel
  obtain ⟨wo, rfl⟩ := nW wr
  have hz := hb.size
  by_cases hlt : k < l.length
  ·obtain ⟨c, hc⟩ : ∃ c, l[k]? = some c := ⟨_, gE hlt⟩
   obtain ⟨g, off, rfl, hg1, hg2, hmem, hrep, q0, q1, q2, q3⟩ := jF.at_ (h.below hb hhi) hc
   obtain ⟨g', off', rfl, hg1', wE, tF, qE, p0, p1, p2, p3⟩ := jF.at_ (h'.below hb eP) hc
   have e0 : (0 : Int) ≤ (k : Int) := by omega
   have e8 : (k : Int) < (l.length : Int) := by omega
   have y1 : hi ≤ wo.drew.heap.size := nT hhi hz
   have y2 : hi' ≤ wo.drew.heap.size := nT eP hz
   have t1 := nL hg2 y1
   have t2 := nL wE y2
   clear hc hmem tF
   go_wp2_with fail
   go_region_held3 (fun w' => (w'.cell? ⟨g, off + k * 4, none⟩ = some (.string c.name) ∧ w'.cell? ⟨g, off + k * 4 + 1, none⟩ = some (.int .i64 c.params) ∧ w'.cell? ⟨g, off + k * 4 + 2, none⟩ = some (.int .i64 c.slots) ∧ w'.cell? ⟨g, off + k * 4 + 3, none⟩ = some (.int .i64 c.entry)) ∧ (w'.cell? ⟨g', off' + k * 4, none⟩ = some (.string c.name) ∧ w'.cell? ⟨g', off' + k * 4 + 1, none⟩ = some (.int .i64 c.params) ∧ w'.cell? ⟨g', off' + k * 4 + 2, none⟩ = some (.int .i64 c.slots) ∧ w'.cell? ⟨g', off' + k * 4 + 3, none⟩ = some (.int .i64 c.entry)))
    (first | exact ⟨⟨q0, q1, q2, q3⟩, p0, p1, p2, p3⟩ | exact ⟨⟨(hbA.cell t1).trans q0, (hbA.cell t1).trans q1, (hbA.cell t1).trans q2, (hbA.cell t1).trans q3⟩, (hbA.cell t2).trans p0, (hbA.cell t2).trans p1, (hbA.cell t2).trans p2, (hbA.cell t2).trans p3⟩)
    ((go_at_call 103; refine (zl c _ _ _ _ _ _ _ (hrep.same (Same.refl _).drew) (qE.same (Same.refl _).drew) y1 y2).mono ?_; rintro e wA ⟨rfl, hbA⟩))
   have hb2 : Below w.heap.size w wA := hb.drew.trans (hbA.mono hz)
   clear hrep qE q0 q1 q2 q3 p0 p1 p2 p3
   go_wp2_with fail
   go_roundw
   case rel => exact ⟨k + 1, by omega, by go_num, hb2⟩
   case measure => simp [intOf]; omega
  ·obtain rfl : k = l.length := by omega
   go_wp2_with fail
   go_ret
   exact ⟨rfl, hb⟩
theorem Gv (c : eO) (x y : Value) (w : World) (lo hi lo' hi' : Nat) (h : fA w lo hi eO.ay x c) (h' : fA w lo' hi' eO.ay y c) (hhi : hi ≤ w.heap.size) (eP : hi' ≤ w.heap.size) :
 Calls Tryz.prog 105 #[x, y] w fun e w' => e = .returned (.bool true) ∧ Below w.heap.size w w' := by
 obtain rfl := eO.form h
 obtain rfl := eO.form h'
 have bop : (c.op != c.op) = false := by simp
 have ba : (c.a != c.a) = false := by simp
 have bb : (c.b != c.b) = false := by simp
 have IY : (c.line != c.line) = false := by simp
 have RE := str_eq c.text
 have hw0 : Below w.heap.size w ((w.alloc (.cells #[Value.int .i64 c.op, .int .i64 c.a, .int .i64 c.b, .int .i64 c.line, .string c.text] 146)).alloc (.cells #[Value.int .i64 c.op, .int .i64 c.a, .int .i64 c.b, .int .i64 c.line, .string c.text] 146)) := (bA _ _).alloc (by simp) _
 have a0 := (Blk.new w 146 #[Value.int .i64 c.op, .int .i64 c.a, .int .i64 c.b, .int .i64 c.line, .string c.text]).alloc (.cells #[Value.int .i64 c.op, .int .i64 c.a, .int .i64 c.b, .int .i64 c.line, .string c.text] 146)
 have e0 := Blk.newAt (w.alloc (.cells #[Value.int .i64 c.op, .int .i64 c.a, .int .i64 c.b, .int .i64 c.line, .string c.text] 146)) 146 #[Value.int .i64 c.op, .int .i64 c.a, .int .i64 c.b, .int .i64 c.line, .string c.text] (w.heap.size + 1) (by simp)
 go_enter Tryz.func105, Tryz.ntmps105
 go_wp2_with fail
 go_ret
 exact ⟨rfl, hw0⟩
theorem EV (l : List eO) (v u : Value) (w : World) (lo hi lo' hi' : Nat) (h : dz w lo hi 5 eO.ay v l) (h' : dz w lo' hi' 5 eO.ay u l) (hhi : hi ≤ w.heap.size) (eP : hi' ≤ w.heap.size) :
 Calls Tryz.prog 57 #[v, u] w fun e w' => e = .returned (.bool true) ∧ Below w.heap.size w w' := by
 obtain ⟨A, cap, rfl, hc1, hc2⟩ := h.shape
 obtain ⟨A', cap', rfl, hc1', hc2'⟩ := h'.shape
 unfold maxLen at hc2 hc2'
 have hne : ((l.length : Int) != (l.length : Int)) = false := by simp
 go_enter Tryz.func57, Tryz.ntmps57
 go_wp2_with fail
 go_loopw [5] (fun i wr => ∃ k : Nat, k ≤ l.length ∧ i = .int .i64 k ∧ Below w.heap.size w wr) (fun i _ => l.length - (intOf i).toNat)
 case atStart => exact ⟨0, nZ _, rfl, bR _ _⟩
 case round =>
  obtain ⟨k, hk, rfl, hb⟩ := hrel
  obtain ⟨wo, rfl⟩ := nW wr
  have hz := hb.size
  by_cases hlt : k < l.length
  ·obtain ⟨c, hc⟩ : ∃ c, l[k]? = some c := ⟨_, gE hlt⟩
   obtain ⟨g, off, rfl, hg1, hg2, hmem, hrep, q0, q1, q2, q3, q4⟩ := eO.at_ (h.below hb hhi) hc
   obtain ⟨g', off', rfl, hg1', wE, tF, qE, p0, p1, p2, p3, p4⟩ := eO.at_ (h'.below hb eP) hc
   have e0 : (0 : Int) ≤ (k : Int) := by omega
   have e8 : (k : Int) < (l.length : Int) := by omega
   have y1 : hi ≤ wo.drew.heap.size := nT hhi hz
   have y2 : hi' ≤ wo.drew.heap.size := nT eP hz
   have t1 := nL hg2 y1
   have t2 := nL wE y2
   clear hc hmem tF
   go_wp2_with fail
   go_region_held3 (fun w' => (w'.cell? ⟨g, off + k * 5, none⟩ = some (.int .i64 c.op) ∧ w'.cell? ⟨g, off + k * 5 + 1, none⟩ = some (.int .i64 c.a) ∧ w'.cell? ⟨g, off + k * 5 + 2, none⟩ = some (.int .i64 c.b) ∧ w'.cell? ⟨g, off + k * 5 + 3, none⟩ = some (.int .i64 c.line) ∧ w'.cell? ⟨g, off + k * 5 + 4, none⟩ = some (.string c.text)) ∧ (w'.cell? ⟨g', off' + k * 5, none⟩ = some (.int .i64 c.op) ∧ w'.cell? ⟨g', off' + k * 5 + 1, none⟩ = some (.int .i64 c.a) ∧ w'.cell? ⟨g', off' + k * 5 + 2, none⟩ = some (.int .i64 c.b) ∧ w'.cell? ⟨g', off' + k * 5 + 3, none⟩ = some (.int .i64 c.line) ∧ w'.cell? ⟨g', off' + k * 5 + 4, none⟩ = some (.string c.text)))
    (first | exact ⟨⟨q0, q1, q2, q3, q4⟩, p0, p1, p2, p3, p4⟩ | exact ⟨⟨(hbA.cell t1).trans q0, (hbA.cell t1).trans q1, (hbA.cell t1).trans q2, (hbA.cell t1).trans q3, (hbA.cell t1).trans q4⟩, (hbA.cell t2).trans p0, (hbA.cell t2).trans p1, (hbA.cell t2).trans p2, (hbA.cell t2).trans p3, (hbA.cell t2).trans p4⟩)
    ((go_at_call 105; refine (Gv c _ _ _ _ _ _ _ (hrep.same (Same.refl _).drew) (qE.same (Same.refl _).drew) y1 y2).mono ?_; rintro e wA ⟨rfl, hbA⟩))
   have hb2 : Below w.heap.size w wA := hb.drew.trans (hbA.mono hz)
   clear hrep qE q0 q1 q2 q3 q4 p0 p1 p2 p3 p4
   go_wp2_with fail
   go_roundw
   case rel => exact ⟨k + 1, by omega, by go_num, hb2⟩
   case measure => simp [intOf]; omega
  ·obtain rfl : k = l.length := by omega
   go_wp2_with fail
   go_ret
   exact ⟨rfl, hb⟩
theorem zP (c : gU) (x y : Value) (w : World) (lo hi lo' hi' : Nat) (h : fA w lo hi gU.ay x c) (h' : fA w lo' hi' gU.ay y c) (hhi : hi ≤ w.heap.size) (eP : hi' ≤ w.heap.size) :
 Calls Tryz.prog 104 #[x, y] w fun e w' => e = .returned (.bool true) ∧ Below w.heap.size w w' := by
 obtain ⟨lX, nfields, rfl, wO, I7, BD⟩ := gU.form h
 obtain ⟨qX, qY, rfl, KY, RF, RG⟩ := gU.form h'
 have RD := str_eq c.name
 have IY : (c.line != c.line) = false := by simp
 have hw0 : Below w.heap.size w ((w.alloc (.cells #[Value.string c.name, .slice lX c.fields.length nfields, .int .i64 c.line] 142)).alloc (.cells #[Value.string c.name, .slice qX c.fields.length qY, .int .i64 c.line] 142)) := (bA _ _).alloc (by simp) _
 have a0 := (Blk.new w 142 #[Value.string c.name, .slice lX c.fields.length nfields, .int .i64 c.line]).alloc (.cells #[Value.string c.name, .slice qX c.fields.length qY, .int .i64 c.line] 142)
 have e0 := Blk.newAt (w.alloc (.cells #[Value.string c.name, .slice lX c.fields.length nfields, .int .i64 c.line] 142)) 142 #[Value.string c.name, .slice qX c.fields.length qY, .int .i64 c.line] (w.heap.size + 1) (by simp)
 go_enter Tryz.func104, Tryz.ntmps104
 go_wp2_with fail
 refine (vM c.fields _ _ _ lo hi lo' hi' (wO.below hw0 hhi) (KY.below hw0 eP) (nT hhi hw0.size) (nT eP hw0.size)).mono ?_; rintro e w1 ⟨rfl, hb1⟩
 have hw1 : Below w.heap.size w w1 := hw0.trans (hb1.mono hw0.size)
 have a1 := a0.later hb1
 have e1 := e0.later hb1
 have ca := a1.cell
 have ce := e1.cell
 have la := a1.lt
 have le := e1.lt
 clear hb1
 go_wp2_with fail
 go_ret
 exact ⟨rfl, hw1⟩
theorem vV (l : List gU) (v u : Value) (w : World) (lo hi lo' hi' : Nat) (h : dz w lo hi 3 gU.ay v l) (h' : dz w lo' hi' 3 gU.ay u l) (hhi : hi ≤ w.heap.size) (eP : hi' ≤ w.heap.size) :
 Calls Tryz.prog 55 #[v, u] w fun e w' => e = .returned (.bool true) ∧ Below w.heap.size w w' := by
 obtain ⟨A, cap, rfl, hc1, hc2⟩ := h.shape
 obtain ⟨A', cap', rfl, hc1', hc2'⟩ := h'.shape
 unfold maxLen at hc2 hc2'
 have hne : ((l.length : Int) != (l.length : Int)) = false := by simp
 go_enter Tryz.func55, Tryz.ntmps55
 go_wp2_with fail
 go_loopw [5] (fun i wr => ∃ k : Nat, k ≤ l.length ∧ i = .int .i64 k ∧ Below w.heap.size w wr) (fun i _ => l.length - (intOf i).toNat)
 case atStart => exact ⟨0, nZ _, rfl, bR _ _⟩
 case round =>
  obtain ⟨k, hk, rfl, hb⟩ := hrel
  obtain ⟨wo, rfl⟩ := nW wr
  have hz := hb.size
  by_cases hlt : k < l.length
  ·obtain ⟨c, hc⟩ : ∃ c, l[k]? = some c := ⟨_, gE hlt⟩
   obtain ⟨g, off, lX, nfields, rfl, hg1, hg2, hmem, hrep, q0, q1, q2⟩ := gU.at_ (h.below hb hhi) hc
   obtain ⟨g', off', qX, qY, rfl, hg1', wE, tF, qE, p0, p1, p2⟩ := gU.at_ (h'.below hb eP) hc
   have e0 : (0 : Int) ≤ (k : Int) := by omega
   have e8 : (k : Int) < (l.length : Int) := by omega
   have y1 : hi ≤ wo.drew.heap.size := nT hhi hz
   have y2 : hi' ≤ wo.drew.heap.size := nT eP hz
   have t1 := nL hg2 y1
   have t2 := nL wE y2
   clear hc hmem tF
   go_wp2_with fail
   go_region_held3 (fun w' => (w'.cell? ⟨g, off + k * 3, none⟩ = some (.string c.name) ∧ w'.cell? ⟨g, off + k * 3 + 1, none⟩ = some (.slice lX c.fields.length nfields) ∧ w'.cell? ⟨g, off + k * 3 + 2, none⟩ = some (.int .i64 c.line)) ∧ (w'.cell? ⟨g', off' + k * 3, none⟩ = some (.string c.name) ∧ w'.cell? ⟨g', off' + k * 3 + 1, none⟩ = some (.slice qX c.fields.length qY) ∧ w'.cell? ⟨g', off' + k * 3 + 2, none⟩ = some (.int .i64 c.line)))
    (first | exact ⟨⟨q0, q1, q2⟩, p0, p1, p2⟩ | exact ⟨⟨(hbA.cell t1).trans q0, (hbA.cell t1).trans q1, (hbA.cell t1).trans q2⟩, (hbA.cell t2).trans p0, (hbA.cell t2).trans p1, (hbA.cell t2).trans p2⟩)
    ((go_at_call 104; refine (zP c _ _ _ _ _ _ _ (hrep.same (Same.refl _).drew) (qE.same (Same.refl _).drew) y1 y2).mono ?_; rintro e wA ⟨rfl, hbA⟩))
   have hb2 : Below w.heap.size w wA := hb.drew.trans (hbA.mono hz)
   clear hrep qE q0 q1 q2 p0 p1 p2
   go_wp2_with fail
   go_roundw
   case rel => exact ⟨k + 1, by omega, by go_num, hb2⟩
   case measure => simp [intOf]; omega
  ·obtain rfl : k = l.length := by omega
   go_wp2_with fail
   go_ret
   exact ⟨rfl, hb⟩
theorem Ib (c : dK) (x y : Value) (w : World) (lo hi lo' hi' : Nat) (h : fA w lo hi dK.ay x c) (h' : fA w lo' hi' dK.ay y c) (hhi : hi ≤ w.heap.size) (eP : hi' ≤ w.heap.size) :
 Calls Tryz.prog 21 #[x, y] w fun e w' => e = .returned (.bool true) ∧ Below w.heap.size w w' := by
 obtain ⟨bT, bI, bE, aY, bH, aZ, dS, dN, rfl, tZ, En, xX, qd, xM, tN, qg, xN, tO, wP, I8, BF⟩ := dK.form h
 obtain ⟨yR, yS, uw, uy, uz, uD, BV, BX, rfl, Ic, O5, O6, zQ, JD, JE, zR, JF, JG, KZ, RH, RI⟩ := dK.form h'
 have Vf : (c.main != c.main) = false := by simp
 have hw0 : Below w.heap.size w ((w.alloc (.cells #[Value.slice bT c.au.length bI, .slice bE c.aA.length aY, .slice bH c.aB.length aZ, .int .i64 c.main, .slice dS c.av.length dN] 47)).alloc (.cells #[Value.slice yR c.au.length yS, .slice uw c.aA.length uy, .slice uz c.aB.length uD, .int .i64 c.main, .slice BV c.av.length BX] 47)) := (bA _ _).alloc (by simp) _
 have a0 := (Blk.new w 47 #[Value.slice bT c.au.length bI, .slice bE c.aA.length aY, .slice bH c.aB.length aZ, .int .i64 c.main, .slice dS c.av.length dN]).alloc (.cells #[Value.slice yR c.au.length yS, .slice uw c.aA.length uy, .slice uz c.aB.length uD, .int .i64 c.main, .slice BV c.av.length BX] 47)
 have e0 := Blk.newAt (w.alloc (.cells #[Value.slice bT c.au.length bI, .slice bE c.aA.length aY, .slice bH c.aB.length aZ, .int .i64 c.main, .slice dS c.av.length dN] 47)) 47 #[Value.slice yR c.au.length yS, .slice uw c.aA.length uy, .slice uz c.aB.length uD, .int .i64 c.main, .slice BV c.av.length BX] (w.heap.size + 1) (by simp)
 go_enter Tryz.func21, Tryz.ntmps21
 go_wp2_with fail
 refine (yQ c.au _ _ _ lo hi lo' hi' (tZ.below hw0 hhi) (Ic.below hw0 eP) (nT hhi hw0.size) (nT eP hw0.size)).mono ?_; rintro e w1 ⟨rfl, hb1⟩
 have hw1 : Below w.heap.size w w1 := hw0.trans (hb1.mono hw0.size)
 have a1 := a0.later hb1
 have e1 := e0.later hb1
 have ca := a1.cell
 have ce := e1.cell
 have la := a1.lt
 have le := e1.lt
 clear hb1
 go_wp2_with fail
 refine (vV c.aA _ _ _ lo hi lo' hi' (qd.below hw1 hhi) (zQ.below hw1 eP) (nT hhi hw1.size) (nT eP hw1.size)).mono ?_; rintro e w2 ⟨rfl, hb2⟩
 have hw2 : Below w.heap.size w w2 := hw1.trans (hb2.mono hw1.size)
 have a2 := a1.later hb2
 have e2 := e1.later hb2
 clear ca ce la le
 have ca := a2.cell
 have ce := e2.cell
 have la := a2.lt
 have le := e2.lt
 clear hb2
 go_wp2_with fail
 refine (vM c.aB _ _ _ lo hi lo' hi' (qg.below hw2 hhi) (zR.below hw2 eP) (nT hhi hw2.size) (nT eP hw2.size)).mono ?_; rintro e w3 ⟨rfl, hb3⟩
 have hw3 : Below w.heap.size w w3 := hw2.trans (hb3.mono hw2.size)
 have a3 := a2.later hb3
 have e3 := e2.later hb3
 clear ca ce la le
 have ca := a3.cell
 have ce := e3.cell
 have la := a3.lt
 have le := e3.lt
 clear hb3
 go_wp2_with fail
 refine (EV c.av _ _ _ lo hi lo' hi' (wP.below hw3 hhi) (KZ.below hw3 eP) (nT hhi hw3.size) (nT eP hw3.size)).mono ?_; rintro e w4 ⟨rfl, hb4⟩
 have hw4 : Below w.heap.size w w4 := hw3.trans (hb4.mono hw3.size)
 have a4 := a3.later hb4
 have e4 := e3.later hb4
 clear ca ce la le
 have ca := a4.cell
 have ce := e4.cell
 have la := a4.lt
 have le := e4.lt
 clear hb4
 go_wp2_with fail
 go_ret
 exact ⟨rfl, hw4⟩
theorem EW (c : kZ) (x y : Value) (w : World) (lo hi lo' hi' : Nat) (h : fA w lo hi kZ.ay x c) (h' : fA w lo' hi' kZ.ay y c) (hhi : hi ≤ w.heap.size) (eP : hi' ≤ w.heap.size) :
 Calls Tryz.prog 107 #[x, y] w fun e w' => e = .returned (.bool true) ∧ Below w.heap.size w w' := by
 obtain rfl := kZ.form h
 obtain rfl := kZ.form h'
 have KN : (c.routine != c.routine) = false := by simp
 have H6 : (c.frame != c.frame) = false := by simp
 have hw0 : Below w.heap.size w ((w.alloc (.cells #[Value.int .i64 c.routine, .int .i64 c.frame] 148)).alloc (.cells #[Value.int .i64 c.routine, .int .i64 c.frame] 148)) := (bA _ _).alloc (by simp) _
 have a0 := (Blk.new w 148 #[Value.int .i64 c.routine, .int .i64 c.frame]).alloc (.cells #[Value.int .i64 c.routine, .int .i64 c.frame] 148)
 have e0 := Blk.newAt (w.alloc (.cells #[Value.int .i64 c.routine, .int .i64 c.frame] 148)) 148 #[Value.int .i64 c.routine, .int .i64 c.frame] (w.heap.size + 1) (by simp)
 go_enter Tryz.func107, Tryz.ntmps107
 go_wp2_with fail
 go_ret
 exact ⟨rfl, hw0⟩
theorem Dm (l : List kZ) (v u : Value) (w : World) (lo hi lo' hi' : Nat) (h : dz w lo hi 2 kZ.ay v l) (h' : dz w lo' hi' 2 kZ.ay u l) (hhi : hi ≤ w.heap.size) (eP : hi' ≤ w.heap.size) :
 Calls Tryz.prog 60 #[v, u] w fun e w' => e = .returned (.bool true) ∧ Below w.heap.size w w' := by
 obtain ⟨A, cap, rfl, hc1, hc2⟩ := h.shape
 obtain ⟨A', cap', rfl, hc1', hc2'⟩ := h'.shape
 unfold maxLen at hc2 hc2'
 have hne : ((l.length : Int) != (l.length : Int)) = false := by simp
 go_enter Tryz.func60, Tryz.ntmps60
 go_wp2_with fail
 go_loopw [5] (fun i wr => ∃ k : Nat, k ≤ l.length ∧ i = .int .i64 k ∧ Below w.heap.size w wr) (fun i _ => l.length - (intOf i).toNat)
 case atStart => exact ⟨0, nZ _, rfl, bR _ _⟩
 case round =>
  obtain ⟨k, hk, rfl, hb⟩ := hrel
  obtain ⟨wo, rfl⟩ := nW wr
  have hz := hb.size
  by_cases hlt : k < l.length
  ·obtain ⟨c, hc⟩ : ∃ c, l[k]? = some c := ⟨_, gE hlt⟩
   obtain ⟨g, off, rfl, hg1, hg2, hmem, hrep, q0, q1⟩ := kZ.at_ (h.below hb hhi) hc
   obtain ⟨g', off', rfl, hg1', wE, tF, qE, p0, p1⟩ := kZ.at_ (h'.below hb eP) hc
   have e0 : (0 : Int) ≤ (k : Int) := by omega
   have e8 : (k : Int) < (l.length : Int) := by omega
   have y1 : hi ≤ wo.drew.heap.size := nT hhi hz
   have y2 : hi' ≤ wo.drew.heap.size := nT eP hz
   have t1 := nL hg2 y1
   have t2 := nL wE y2
   clear hc hmem tF
   go_wp2_with fail
   go_region_held3 (fun w' => (w'.cell? ⟨g, off + k * 2, none⟩ = some (.int .i64 c.routine) ∧ w'.cell? ⟨g, off + k * 2 + 1, none⟩ = some (.int .i64 c.frame)) ∧ (w'.cell? ⟨g', off' + k * 2, none⟩ = some (.int .i64 c.routine) ∧ w'.cell? ⟨g', off' + k * 2 + 1, none⟩ = some (.int .i64 c.frame)))
    (first | exact ⟨⟨q0, q1⟩, p0, p1⟩ | exact ⟨⟨(hbA.cell t1).trans q0, (hbA.cell t1).trans q1⟩, (hbA.cell t2).trans p0, (hbA.cell t2).trans p1⟩)
    ((go_at_call 107; refine (EW c _ _ _ _ _ _ _ (hrep.same (Same.refl _).drew) (qE.same (Same.refl _).drew) y1 y2).mono ?_; rintro e wA ⟨rfl, hbA⟩))
   have hb2 : Below w.heap.size w wA := hb.drew.trans (hbA.mono hz)
   clear hrep qE q0 q1 p0 p1
   go_wp2_with fail
   go_roundw
   case rel => exact ⟨k + 1, by omega, by go_num, hb2⟩
   case measure => simp [intOf]; omega
  ·obtain rfl : k = l.length := by omega
   go_wp2_with fail
   go_ret
   exact ⟨rfl, hb⟩
theorem Gw {laid : List (String × DataW Unit)} {W : World} (hf : laid.filter (fun x => x.1 == "strings.asciiSpace") = [("strings.asciiSpace", Rows.laid_strings_asciiSpace)]) (h : laidMet Tryz.prog laid W) : iw W := by
 have h0 : laidMet Tryz.prog (laid.filter fun x => x.1 == "strings.asciiSpace") W := laidMet.filter (fun x => x.1 == "strings.asciiSpace") h
 rw [hf] at h0
 have h2 := Lib.tabIs_of_head (k := .u8) (zs := Lib.asciiSpaceTab) (rest := []) Hq (by kernel_rfl) Tryz.underlying238 Tryz.underlying5 (by kernel_rfl) (by kernel_rfl) h0
 exact ⟨h2, World.block_lt_of_cell? W _ (h2.cell Hq 0 (by decide))⟩
end Go.Proofs.YtoddlphekcihgaaGreatDoor
