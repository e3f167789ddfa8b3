/- Object: the plain words, and how a value reads as one. No program. Store: the plain words, and how a value reads as one. No program. QT: the plain words, -/
import Derived.Test.YtoddlphekcihgaaGreatDoorQ02
set_option maxRecDepth 100000
set_option maxHeartbeats 8000000
set_option linter.unusedVariables false
set_option linter.unusedSimpArgs false
namespace Go.Proofs.YtoddlphekcihgaaGreatDoor
section
open Go.RowKit
structure fV where
 kind : Int
 tag : Int
 ak : Int
 aj : List aQ
 aX : List aQ
def fV.ay (c : fV) : List Dat := [.int .i64 c.kind, .int .i64 c.tag, .int .i64 c.ak, .row 6 c.aj.length (flat aQ.ay c.aj), .row 6 c.aX.length (flat aQ.ay c.aX)]
theorem fV.gK (c : fV) : c.ay.length = 5 := rfl
def fV.dX (c : fV) : Nat := (c.aj.length + sumOf aQ.dX c.aj) + (c.aX.length + sumOf aQ.dX c.aX)
def fV.Fits (c : fV) : Prop := (∀ y ∈ c.aj, y.Fits) ∧ (∀ y ∈ c.aX, y.Fits)
section
variable {w : World} {lo hi : Nat} {x : Value} {c : fV}
theorem fV.form (h : fA w lo hi fV.ay x c) : ∃ pP oV rG qP, x = .agg #[Value.int .i64 c.kind, .int .i64 c.tag, .int .i64 c.ak, .slice pP c.aj.length oV, .slice rG c.aX.length qP] ∧ dz w lo hi 6 aQ.ay (.slice pP c.aj.length oV) c.aj ∧ c.aj.length ≤ oV ∧ oV ≤ maxLen ∧ dz w lo hi 6 aQ.ay (.slice rG c.aX.length qP) c.aX ∧ c.aX.length ≤ qP ∧ qP ≤ maxLen := by
 obtain ⟨cs, rfl, h1⟩ := h
 unfold fV.ay at h1
 obtain ⟨v0, t0, rfl, a0, h1⟩ := h1.out
 obtain ⟨v1, t1, rfl, a1, h1⟩ := h1.out
 obtain ⟨v2, t2, rfl, a2, h1⟩ := h1.out
 obtain ⟨v3, t3, rfl, a3, h1⟩ := h1.out
 obtain ⟨v4, t4, rfl, a4, h1⟩ := h1.out
 obtain rfl := h1.qI
 obtain rfl := a0.gG
 obtain rfl := a1.gG
 obtain rfl := a2.gG
 obtain ⟨A3, c3, rfl, g3, k3⟩ := dz.shape (f := aQ.ay) a3
 obtain ⟨A4, c4, rfl, g4, k4⟩ := dz.shape (f := aQ.ay) a4
 exact ⟨A3, c3, A4, c4, rfl, a3, g3, k3, a4, g4, k4⟩
theorem fV.mk_ {pP : Option Addr} {oV : Nat} (yI : dz w lo hi 6 aQ.ay (.slice pP c.aj.length oV) c.aj) {rG : Option Addr} {qP : Nat} (hkeys : dz w lo hi 6 aQ.ay (.slice rG c.aX.length qP) c.aX) : fA w lo hi fV.ay (.agg #[Value.int .i64 c.kind, .int .i64 c.tag, .int .i64 c.ak, .slice pP c.aj.length oV, .slice rG c.aX.length qP]) c :=
 ⟨[_, _, _, _, _], rfl, .dJ .mkInt (.dJ .mkInt (.dJ .mkInt (.dJ yI (.dJ hkeys .lu))))⟩
theorem fV.rows {pP : Option Addr} {oV : Nat} {rG : Option Addr} {qP : Nat} (h : fA w lo hi fV.ay (.agg #[Value.int .i64 c.kind, .int .i64 c.tag, .int .i64 c.ak, .slice pP c.aj.length oV, .slice rG c.aX.length qP]) c) : dz w lo hi 6 aQ.ay (.slice pP c.aj.length oV) c.aj ∧ dz w lo hi 6 aQ.ay (.slice rG c.aX.length qP) c.aX := by
 obtain ⟨X0, y0, X1, y1, hx, l0, _, _, l1, _, _⟩ := fV.form h
 injection hx with hx
 have hx := congrArg Array.toList hx
 simp only [List.cons.injEq, Value.slice.injEq, and_true, true_and] at hx
 obtain ⟨⟨rfl, rfl⟩, ⟨rfl, rfl⟩⟩ := hx
 exact ⟨l0, l1⟩
theorem fV.at_ {A : Option Addr} {cap j : Nat} {l : List fV} (h : dz w lo hi 5 fV.ay (.slice A l.length cap) l) (hc : l[j]? = some c) :
 ∃ g off pP oV rG qP, A = some ⟨g, off, none⟩ ∧ lo ≤ g ∧ g < hi ∧ c ∈ l ∧ fA w lo hi fV.ay (.agg #[Value.int .i64 c.kind, .int .i64 c.tag, .int .i64 c.ak, .slice pP c.aj.length oV, .slice rG c.aX.length qP]) c ∧ w.cell? ⟨g, off + j * 5, none⟩ = some (.int .i64 c.kind) ∧ w.cell? ⟨g, off + j * 5 + 1, none⟩ = some (.int .i64 c.tag) ∧ w.cell? ⟨g, off + j * 5 + 2, none⟩ = some (.int .i64 c.ak) ∧ w.cell? ⟨g, off + j * 5 + 3, none⟩ = some (.slice pP c.aj.length oV) ∧ w.cell? ⟨g, off + j * 5 + 4, none⟩ = some (.slice rG c.aX.length qP) := by
 obtain ⟨g, off, us, hA, h1, h2, h3, h4, h5⟩ := h.elem fV.gK hc
 obtain ⟨B0, m0, B1, m1, hx, l0, _, _, l1, _, _⟩ := fV.form (w := w) (lo := lo) (hi := hi) (c := c) (x := .agg us.toArray) ⟨us, rfl, h4⟩
 injection hx with hx
 obtain rfl : us = [_, _, _, _, _] := congrArg Array.toList hx
 exact ⟨g, off, B0, m0, B1, m1, hA, h1, h2, mG hc, fV.mk_ l0 l1, h5 0 _ rfl, h5 1 _ rfl, h5 2 _ rfl, h5 3 _ rfl, h5 4 _ rfl⟩
end
end
section
open Go.RowKit
structure dP where
 fu : List ByteArray
 aA : List gU
 aI : List fV
 aB : List aQ
 dR : ByteArray
 dL : Int
 output : List ByteArray
 gV : List ByteArray
 dY : List kZ
 gF : Bool
 je : Int
 fT : Int
 kI : Int
def dP.ay (c : dP) : List Dat := [.row 1 c.fu.length (flat eF c.fu), .row 3 c.aA.length (flat gU.ay c.aA), .row 5 c.aI.length (flat fV.ay c.aI), .row 6 c.aB.length (flat aQ.ay c.aB), .str c.dR, .int .i64 c.dL, .row 1 c.output.length (flat eF c.output), .row 1 c.gV.length (flat eF c.gV), .row 2 c.dY.length (flat kZ.ay c.dY), .bool c.gF, .int .i64 c.je, .int .i64 c.fT, .int .i64 c.kI]
theorem dP.gK (c : dP) : c.ay.length = 13 := rfl
def dP.dX (c : dP) : Nat := (c.fu.length + sumOf ByteArray.size c.fu) + (c.aA.length + sumOf gU.dX c.aA) + (c.aI.length + sumOf fV.dX c.aI) + (c.aB.length + sumOf aQ.dX c.aB) + c.dR.size + (c.output.length + sumOf ByteArray.size c.output) + (c.gV.length + sumOf ByteArray.size c.gV) + (c.dY.length + sumOf kZ.dX c.dY)
def dP.Fits (c : dP) : Prop := (∀ s ∈ c.fu, s.size ≤ 9223372036854775807) ∧ (∀ y ∈ c.aA, y.Fits) ∧ (∀ y ∈ c.aI, y.Fits) ∧ (∀ y ∈ c.aB, y.Fits) ∧ (c.dR.size ≤ 9223372036854775807) ∧ (∀ s ∈ c.output, s.size ≤ 9223372036854775807) ∧ (∀ s ∈ c.gV, s.size ≤ 9223372036854775807) ∧ (∀ y ∈ c.dY, y.Fits)
section
variable {w : World} {lo hi : Nat} {x : Value} {c : dP}
theorem dP.form (h : fA w lo hi dP.ay x c) : ∃ qh oD bE aY lZ kN bH aZ nY mJ qj oF mq kP, x = .agg #[Value.slice qh c.fu.length oD, .slice bE c.aA.length aY, .slice lZ c.aI.length kN, .slice bH c.aB.length aZ, .string c.dR, .int .i64 c.dL, .slice nY c.output.length mJ, .slice qj c.gV.length oF, .slice mq c.dY.length kP, .bool c.gF, .int .i64 c.je, .int .i64 c.fT, .int .i64 c.kI] ∧ dz w lo hi 1 eF (.slice qh c.fu.length oD) c.fu ∧ c.fu.length ≤ oD ∧ oD ≤ maxLen ∧ dz w lo hi 3 gU.ay (.slice bE c.aA.length aY) c.aA ∧ c.aA.length ≤ aY ∧ aY ≤ maxLen ∧ dz w lo hi 5 fV.ay (.slice lZ c.aI.length kN) c.aI ∧ c.aI.length ≤ kN ∧ kN ≤ maxLen ∧ dz w lo hi 6 aQ.ay (.slice bH c.aB.length aZ) c.aB ∧ c.aB.length ≤ aZ ∧ aZ ≤ maxLen ∧ dz w lo hi 1 eF (.slice nY c.output.length mJ) c.output ∧ c.output.length ≤ mJ ∧ mJ ≤ maxLen ∧ dz w lo hi 1 eF (.slice qj c.gV.length oF) c.gV ∧ c.gV.length ≤ oF ∧ oF ≤ maxLen ∧ dz w lo hi 2 kZ.ay (.slice mq c.dY.length kP) c.dY ∧ c.dY.length ≤ kP ∧ kP ≤ maxLen := by
 obtain ⟨cs, rfl, h1⟩ := h
 unfold dP.ay at h1
 obtain ⟨v0, t0, rfl, a0, h1⟩ := h1.out
 obtain ⟨v1, t1, rfl, a1, h1⟩ := h1.out
 obtain ⟨v2, t2, rfl, a2, h1⟩ := h1.out
 obtain ⟨v3, t3, rfl, a3, h1⟩ := h1.out
 obtain ⟨v4, t4, rfl, a4, h1⟩ := h1.out
 obtain ⟨v5, t5, rfl, a5, h1⟩ := h1.out
 obtain ⟨v6, t6, rfl, a6, h1⟩ := h1.out
 obtain ⟨v7, t7, rfl, a7, h1⟩ := h1.out
 obtain ⟨v8, t8, rfl, a8, h1⟩ := h1.out
 obtain ⟨v9, t9, rfl, a9, h1⟩ := h1.out
 obtain ⟨v10, t10, rfl, a10, h1⟩ := h1.out
 obtain ⟨v11, t11, rfl, a11, h1⟩ := h1.out
 obtain ⟨v12, t12, rfl, a12, h1⟩ := h1.out
 obtain rfl := h1.qI
 obtain ⟨A0, c0, rfl, g0, k0⟩ := dz.shape (f := eF) a0
 obtain ⟨A1, c1, rfl, g1, k1⟩ := dz.shape (f := gU.ay) a1
 obtain ⟨A2, c2, rfl, g2, k2⟩ := dz.shape (f := fV.ay) a2
 obtain ⟨A3, c3, rfl, g3, k3⟩ := dz.shape (f := aQ.ay) a3
 obtain rfl := a4.wD
 obtain rfl := a5.gG
 obtain ⟨A6, c6, rfl, g6, k6⟩ := dz.shape (f := eF) a6
 obtain ⟨A7, c7, rfl, g7, k7⟩ := dz.shape (f := eF) a7
 obtain ⟨A8, c8, rfl, g8, k8⟩ := dz.shape (f := kZ.ay) a8
 obtain rfl := a9.Ga
 obtain rfl := a10.gG
 obtain rfl := a11.gG
 obtain rfl := a12.gG
 exact ⟨A0, c0, A1, c1, A2, c2, A3, c3, A6, c6, A7, c7, A8, c8, rfl, a0, g0, k0, a1, g1, k1, a2, g2, k2, a3, g3, k3, a6, g6, k6, a7, g7, k7, a8, g8, k8⟩
theorem dP.mk_ {qh : Option Addr} {oD : Nat} (yJ : dz w lo hi 1 eF (.slice qh c.fu.length oD) c.fu) {bE : Option Addr} {aY : Nat} (qd : dz w lo hi 3 gU.ay (.slice bE c.aA.length aY) c.aA) {lZ : Option Addr} {kN : Nat} (vG : dz w lo hi 5 fV.ay (.slice lZ c.aI.length kN) c.aI) {bH : Option Addr} {aZ : Nat} (qg : dz w lo hi 6 aQ.ay (.slice bH c.aB.length aZ) c.aB) {nY : Option Addr} {mJ : Nat} (wT : dz w lo hi 1 eF (.slice nY c.output.length mJ) c.output) {qj : Option Addr} {oF : Nat} (yK : dz w lo hi 1 eF (.slice qj c.gV.length oF) c.gV) {mq : Option Addr} {kP : Nat} (vH : dz w lo hi 2 kZ.ay (.slice mq c.dY.length kP) c.dY) : fA w lo hi dP.ay (.agg #[Value.slice qh c.fu.length oD, .slice bE c.aA.length aY, .slice lZ c.aI.length kN, .slice bH c.aB.length aZ, .string c.dR, .int .i64 c.dL, .slice nY c.output.length mJ, .slice qj c.gV.length oF, .slice mq c.dY.length kP, .bool c.gF, .int .i64 c.je, .int .i64 c.fT, .int .i64 c.kI]) c :=
 ⟨[_, _, _, _, _, _, _, _, _, _, _, _, _], rfl, .dJ yJ (.dJ qd (.dJ vG (.dJ qg (.dJ .mkStr (.dJ .mkInt (.dJ wT (.dJ yK (.dJ vH (.dJ .zL (.dJ .mkInt (.dJ .mkInt (.dJ .mkInt .lu))))))))))))⟩
theorem dP.rows {qh : Option Addr} {oD : Nat} {bE : Option Addr} {aY : Nat} {lZ : Option Addr} {kN : Nat} {bH : Option Addr} {aZ : Nat} {nY : Option Addr} {mJ : Nat} {qj : Option Addr} {oF : Nat} {mq : Option Addr} {kP : Nat} (h : fA w lo hi dP.ay (.agg #[Value.slice qh c.fu.length oD, .slice bE c.aA.length aY, .slice lZ c.aI.length kN, .slice bH c.aB.length aZ, .string c.dR, .int .i64 c.dL, .slice nY c.output.length mJ, .slice qj c.gV.length oF, .slice mq c.dY.length kP, .bool c.gF, .int .i64 c.je, .int .i64 c.fT, .int .i64 c.kI]) c) : dz w lo hi 1 eF (.slice qh c.fu.length oD) c.fu ∧ dz w lo hi 3 gU.ay (.slice bE c.aA.length aY) c.aA ∧ dz w lo hi 5 fV.ay (.slice lZ c.aI.length kN) c.aI ∧ dz w lo hi 6 aQ.ay (.slice bH c.aB.length aZ) c.aB ∧ dz w lo hi 1 eF (.slice nY c.output.length mJ) c.output ∧ dz w lo hi 1 eF (.slice qj c.gV.length oF) c.gV ∧ dz w lo hi 2 kZ.ay (.slice mq c.dY.length kP) c.dY := by
 obtain ⟨X0, y0, X1, y1, X2, y2, X3, y3, X4, y4, X5, y5, X6, y6, hx, l0, _, _, l1, _, _, l2, _, _, l3, _, _, l4, _, _, l5, _, _, l6, _, _⟩ := dP.form h
 injection hx with hx
 have hx := congrArg Array.toList hx
 simp only [List.cons.injEq, Value.slice.injEq, and_true, true_and] at hx
 obtain ⟨⟨rfl, rfl⟩, ⟨rfl, rfl⟩, ⟨rfl, rfl⟩, ⟨rfl, rfl⟩, ⟨rfl, rfl⟩, ⟨rfl, rfl⟩, ⟨rfl, rfl⟩⟩ := hx
 exact ⟨l0, l1, l2, l3, l4, l5, l6⟩
theorem dP.at_ {A : Option Addr} {cap j : Nat} {l : List dP} (h : dz w lo hi 13 dP.ay (.slice A l.length cap) l) (hc : l[j]? = some c) :
 ∃ g off qh oD bE aY lZ kN bH aZ nY mJ qj oF mq kP, A = some ⟨g, off, none⟩ ∧ lo ≤ g ∧ g < hi ∧ c ∈ l ∧ fA w lo hi dP.ay (.agg #[Value.slice qh c.fu.length oD, .slice bE c.aA.length aY, .slice lZ c.aI.length kN, .slice bH c.aB.length aZ, .string c.dR, .int .i64 c.dL, .slice nY c.output.length mJ, .slice qj c.gV.length oF, .slice mq c.dY.length kP, .bool c.gF, .int .i64 c.je, .int .i64 c.fT, .int .i64 c.kI]) c ∧ w.cell? ⟨g, off + j * 13, none⟩ = some (.slice qh c.fu.length oD) ∧ w.cell? ⟨g, off + j * 13 + 1, none⟩ = some (.slice bE c.aA.length aY) ∧ w.cell? ⟨g, off + j * 13 + 2, none⟩ = some (.slice lZ c.aI.length kN) ∧ w.cell? ⟨g, off + j * 13 + 3, none⟩ = some (.slice bH c.aB.length aZ) ∧ w.cell? ⟨g, off + j * 13 + 4, none⟩ = some (.string c.dR) ∧ w.cell? ⟨g, off + j * 13 + 5, none⟩ = some (.int .i64 c.dL) ∧ w.cell? ⟨g, off + j * 13 + 6, none⟩ = some (.slice nY c.output.length mJ) ∧ w.cell? ⟨g, off + j * 13 + 7, none⟩ = some (.slice qj c.gV.length oF) ∧ w.cell? ⟨g, off + j * 13 + 8, none⟩ = some (.slice mq c.dY.length kP) ∧ w.cell? ⟨g, off + j * 13 + 9, none⟩ = some (.bool c.gF) ∧ w.cell? ⟨g, off + j * 13 + 10, none⟩ = some (.int .i64 c.je) ∧ w.cell? ⟨g, off + j * 13 + 11, none⟩ = some (.int .i64 c.fT) ∧ w.cell? ⟨g, off + j * 13 + 12, none⟩ = some (.int .i64 c.kI) := by
 obtain ⟨g, off, us, hA, h1, h2, h3, h4, h5⟩ := h.elem dP.gK hc
 obtain ⟨B0, m0, B1, m1, B2, m2, B3, m3, B4, m4, B5, m5, B6, m6, hx, l0, _, _, l1, _, _, l2, _, _, l3, _, _, l4, _, _, l5, _, _, l6, _, _⟩ := dP.form (w := w) (lo := lo) (hi := hi) (c := c) (x := .agg us.toArray) ⟨us, rfl, h4⟩
 injection hx with hx
 obtain rfl : us = [_, _, _, _, _, _, _, _, _, _, _, _, _] := congrArg Array.toList hx
 exact ⟨g, off, B0, m0, B1, m1, B2, m2, B3, m3, B4, m4, B5, m5, B6, m6, hA, h1, h2, mG hc, dP.mk_ l0 l1 l2 l3 l4 l5 l6, h5 0 _ rfl, h5 1 _ rfl, h5 2 _ rfl, h5 3 _ rfl, h5 4 _ rfl, h5 5 _ rfl, h5 6 _ rfl, h5 7 _ rfl, h5 8 _ rfl, h5 9 _ rfl, h5 10 _ rfl, h5 11 _ rfl, h5 12 _ rfl⟩
end
end
section
open Go.RowKit
structure iY where
 kind : Int
 op : Int
 count : Int
 args : List aQ
def iY.ay (c : iY) : List Dat := [.int .i64 c.kind, .int .i64 c.op, .int .i64 c.count, .row 6 c.args.length (flat aQ.ay c.args)]
theorem iY.gK (c : iY) : c.ay.length = 4 := rfl
def iY.dX (c : iY) : Nat := (c.args.length + sumOf aQ.dX c.args)
def iY.Fits (c : iY) : Prop := (∀ y ∈ c.args, y.Fits)
section
variable {w : World} {lo hi : Nat} {x : Value} {c : iY}
theorem iY.form (h : fA w lo hi iY.ay x c) : ∃ tu nargs, x = .agg #[Value.int .i64 c.kind, .int .i64 c.op, .int .i64 c.count, .slice tu c.args.length nargs] ∧ dz w lo hi 6 aQ.ay (.slice tu c.args.length nargs) c.args ∧ c.args.length ≤ nargs ∧ nargs ≤ maxLen := by
 obtain ⟨cs, rfl, h1⟩ := h
 unfold iY.ay at h1
 obtain ⟨v0, t0, rfl, a0, h1⟩ := h1.out
 obtain ⟨v1, t1, rfl, a1, h1⟩ := h1.out
 obtain ⟨v2, t2, rfl, a2, h1⟩ := h1.out
 obtain ⟨v3, t3, rfl, a3, h1⟩ := h1.out
 obtain rfl := h1.qI
 obtain rfl := a0.gG
 obtain rfl := a1.gG
 obtain rfl := a2.gG
 obtain ⟨A3, c3, rfl, g3, k3⟩ := dz.shape (f := aQ.ay) a3
 exact ⟨A3, c3, rfl, a3, g3, k3⟩
theorem iY.mk_ {tu : Option Addr} {nargs : Nat} (hargs : dz w lo hi 6 aQ.ay (.slice tu c.args.length nargs) c.args) : fA w lo hi iY.ay (.agg #[Value.int .i64 c.kind, .int .i64 c.op, .int .i64 c.count, .slice tu c.args.length nargs]) c :=
 ⟨[_, _, _, _], rfl, .dJ .mkInt (.dJ .mkInt (.dJ .mkInt (.dJ hargs .lu)))⟩
theorem iY.rows {tu : Option Addr} {nargs : Nat} (h : fA w lo hi iY.ay (.agg #[Value.int .i64 c.kind, .int .i64 c.op, .int .i64 c.count, .slice tu c.args.length nargs]) c) : dz w lo hi 6 aQ.ay (.slice tu c.args.length nargs) c.args := by
 obtain ⟨X0, y0, hx, l0, _, _⟩ := iY.form h
 injection hx with hx
 have hx := congrArg Array.toList hx
 simp only [List.cons.injEq, Value.slice.injEq, and_true, true_and] at hx
 obtain ⟨rfl, rfl⟩ := hx
 exact l0
theorem iY.at_ {A : Option Addr} {cap j : Nat} {l : List iY} (h : dz w lo hi 4 iY.ay (.slice A l.length cap) l) (hc : l[j]? = some c) :
 ∃ g off tu nargs, A = some ⟨g, off, none⟩ ∧ lo ≤ g ∧ g < hi ∧ c ∈ l ∧ fA w lo hi iY.ay (.agg #[Value.int .i64 c.kind, .int .i64 c.op, .int .i64 c.count, .slice tu c.args.length nargs]) c ∧ w.cell? ⟨g, off + j * 4, none⟩ = some (.int .i64 c.kind) ∧ w.cell? ⟨g, off + j * 4 + 1, none⟩ = some (.int .i64 c.op) ∧ w.cell? ⟨g, off + j * 4 + 2, none⟩ = some (.int .i64 c.count) ∧ w.cell? ⟨g, off + j * 4 + 3, none⟩ = some (.slice tu c.args.length nargs) := by
 obtain ⟨g, off, us, hA, h1, h2, h3, h4, h5⟩ := h.elem iY.gK hc
 obtain ⟨B0, m0, hx, l0, _, _⟩ := iY.form (w := w) (lo := lo) (hi := hi) (c := c) (x := .agg us.toArray) ⟨us, rfl, h4⟩
 injection hx with hx
 obtain rfl : us = [_, _, _, _] := congrArg Array.toList hx
 exact ⟨g, off, B0, m0, hA, h1, h2, mG hc, iY.mk_ l0, h5 0 _ rfl, h5 1 _ rfl, h5 2 _ rfl, h5 3 _ rfl⟩
end
end
section
open Go.RowKit
structure jG where
 kind : Int
 pc : Int
 frame : Int
 base : Int
 line : Int
 object : Int
 dZ : List aQ
 dU : List kH
 eu : List kG
 cells : List Int
 gen : iY
abbrev jG.gN (c : jG) : Int := c.gen.kind
abbrev jG.kJ (c : jG) : Int := c.gen.op
abbrev jG.fQ (c : jG) : Int := c.gen.count
abbrev jG.fP (c : jG) : List aQ := c.gen.args
def jG.ay (c : jG) : List Dat := [.int .i64 c.kind, .int .i64 c.pc, .int .i64 c.frame, .int .i64 c.base, .int .i64 c.line, .int .i64 c.object, .row 6 c.dZ.length (flat aQ.ay c.dZ), .row 5 c.dU.length (flat kH.ay c.dU), .row 8 c.eu.length (flat kG.ay c.eu), .row 1 c.cells.length (flat gW c.cells), .int .i64 c.gN, .int .i64 c.kJ, .int .i64 c.fQ, .row 6 c.fP.length (flat aQ.ay c.fP)]
theorem jG.gK (c : jG) : c.ay.length = 14 := rfl
def jG.dX (c : jG) : Nat := (c.dZ.length + sumOf aQ.dX c.dZ) + (c.dU.length + sumOf kH.dX c.dU) + (c.eu.length + sumOf kG.dX c.eu) + (c.cells.length + sumOf oL c.cells) + c.gen.dX
def jG.Fits (c : jG) : Prop := (∀ y ∈ c.dZ, y.Fits) ∧ (∀ y ∈ c.dU, y.Fits) ∧ (∀ y ∈ c.eu, y.Fits) ∧ (c.gen.Fits)
section
variable {w : World} {lo hi : Nat} {x : Value} {c : jG}
theorem jG.form (h : fA w lo hi jG.ay x c) : ∃ jf iH jg iI jh iJ pQ oW kr jO, x = .agg #[Value.int .i64 c.kind, .int .i64 c.pc, .int .i64 c.frame, .int .i64 c.base, .int .i64 c.line, .int .i64 c.object, .slice jf c.dZ.length iH, .slice jg c.dU.length iI, .slice jh c.eu.length iJ, .slice pQ c.cells.length oW, .int .i64 c.gN, .int .i64 c.kJ, .int .i64 c.fQ, .slice kr c.fP.length jO] ∧ dz w lo hi 6 aQ.ay (.slice jf c.dZ.length iH) c.dZ ∧ c.dZ.length ≤ iH ∧ iH ≤ maxLen ∧ dz w lo hi 5 kH.ay (.slice jg c.dU.length iI) c.dU ∧ c.dU.length ≤ iI ∧ iI ≤ maxLen ∧ dz w lo hi 8 kG.ay (.slice jh c.eu.length iJ) c.eu ∧ c.eu.length ≤ iJ ∧ iJ ≤ maxLen ∧ dz w lo hi 1 gW (.slice pQ c.cells.length oW) c.cells ∧ c.cells.length ≤ oW ∧ oW ≤ maxLen ∧ dz w lo hi 6 aQ.ay (.slice kr c.fP.length jO) c.fP ∧ c.fP.length ≤ jO ∧ jO ≤ maxLen := by
 obtain ⟨cs, rfl, h1⟩ := h
 unfold jG.ay at h1
 obtain ⟨v0, t0, rfl, a0, h1⟩ := h1.out
 obtain ⟨v1, t1, rfl, a1, h1⟩ := h1.out
 obtain ⟨v2, t2, rfl, a2, h1⟩ := h1.out
 obtain ⟨v3, t3, rfl, a3, h1⟩ := h1.out
 obtain ⟨v4, t4, rfl, a4, h1⟩ := h1.out
 obtain ⟨v5, t5, rfl, a5, h1⟩ := h1.out
 obtain ⟨v6, t6, rfl, a6, h1⟩ := h1.out
 obtain ⟨v7, t7, rfl, a7, h1⟩ := h1.out
 obtain ⟨v8, t8, rfl, a8, h1⟩ := h1.out
 obtain ⟨v9, t9, rfl, a9, h1⟩ := h1.out
 obtain ⟨v10, t10, rfl, a10, h1⟩ := h1.out
 obtain ⟨v11, t11, rfl, a11, h1⟩ := h1.out
 obtain ⟨v12, t12, rfl, a12, h1⟩ := h1.out
 obtain ⟨v13, t13, rfl, a13, h1⟩ := h1.out
 obtain rfl := h1.qI
 obtain rfl := a0.gG
 obtain rfl := a1.gG
 obtain rfl := a2.gG
 obtain rfl := a3.gG
 obtain rfl := a4.gG
 obtain rfl := a5.gG
 obtain ⟨A6, c6, rfl, g6, k6⟩ := dz.shape (f := aQ.ay) a6
 obtain ⟨A7, c7, rfl, g7, k7⟩ := dz.shape (f := kH.ay) a7
 obtain ⟨A8, c8, rfl, g8, k8⟩ := dz.shape (f := kG.ay) a8
 obtain ⟨A9, c9, rfl, g9, k9⟩ := dz.shape (f := gW) a9
 obtain rfl := a10.gG
 obtain rfl := a11.gG
 obtain rfl := a12.gG
 obtain ⟨A13, c13, rfl, g13, k13⟩ := dz.shape (f := aQ.ay) a13
 exact ⟨A6, c6, A7, c7, A8, c8, A9, c9, A13, c13, rfl, a6, g6, k6, a7, g7, k7, a8, g8, k8, a9, g9, k9, a13, g13, k13⟩
theorem jG.mk_ {jf : Option Addr} {iH : Nat} (sS : dz w lo hi 6 aQ.ay (.slice jf c.dZ.length iH) c.dZ) {jg : Option Addr} {iI : Nat} (hmarks : dz w lo hi 5 kH.ay (.slice jg c.dU.length iI) c.dU) {jh : Option Addr} {iJ : Nat} (sU : dz w lo hi 8 kG.ay (.slice jh c.eu.length iJ) c.eu) {pQ : Option Addr} {oW : Nat} (hcells : dz w lo hi 1 gW (.slice pQ c.cells.length oW) c.cells) {kr : Option Addr} {jO : Nat} (uj : dz w lo hi 6 aQ.ay (.slice kr c.fP.length jO) c.fP) : fA w lo hi jG.ay (.agg #[Value.int .i64 c.kind, .int .i64 c.pc, .int .i64 c.frame, .int .i64 c.base, .int .i64 c.line, .int .i64 c.object, .slice jf c.dZ.length iH, .slice jg c.dU.length iI, .slice jh c.eu.length iJ, .slice pQ c.cells.length oW, .int .i64 c.gN, .int .i64 c.kJ, .int .i64 c.fQ, .slice kr c.fP.length jO]) c :=
 ⟨[_, _, _, _, _, _, _, _, _, _, _, _, _, _], rfl, .dJ .mkInt (.dJ .mkInt (.dJ .mkInt (.dJ .mkInt (.dJ .mkInt (.dJ .mkInt (.dJ sS (.dJ hmarks (.dJ sU (.dJ hcells (.dJ .mkInt (.dJ .mkInt (.dJ .mkInt (.dJ uj .lu)))))))))))))⟩
theorem jG.rows {jf : Option Addr} {iH : Nat} {jg : Option Addr} {iI : Nat} {jh : Option Addr} {iJ : Nat} {pQ : Option Addr} {oW : Nat} {kr : Option Addr} {jO : Nat} (h : fA w lo hi jG.ay (.agg #[Value.int .i64 c.kind, .int .i64 c.pc, .int .i64 c.frame, .int .i64 c.base, .int .i64 c.line, .int .i64 c.object, .slice jf c.dZ.length iH, .slice jg c.dU.length iI, .slice jh c.eu.length iJ, .slice pQ c.cells.length oW, .int .i64 c.gN, .int .i64 c.kJ, .int .i64 c.fQ, .slice kr c.fP.length jO]) c) : dz w lo hi 6 aQ.ay (.slice jf c.dZ.length iH) c.dZ ∧ dz w lo hi 5 kH.ay (.slice jg c.dU.length iI) c.dU ∧ dz w lo hi 8 kG.ay (.slice jh c.eu.length iJ) c.eu ∧ dz w lo hi 1 gW (.slice pQ c.cells.length oW) c.cells ∧ dz w lo hi 6 aQ.ay (.slice kr c.fP.length jO) c.fP := by
 obtain ⟨X0, y0, X1, y1, X2, y2, X3, y3, X4, y4, hx, l0, _, _, l1, _, _, l2, _, _, l3, _, _, l4, _, _⟩ := jG.form h
 injection hx with hx
 have hx := congrArg Array.toList hx
 simp only [List.cons.injEq, Value.slice.injEq, and_true, true_and] at hx
 obtain ⟨⟨rfl, rfl⟩, ⟨rfl, rfl⟩, ⟨rfl, rfl⟩, ⟨rfl, rfl⟩, ⟨rfl, rfl⟩⟩ := hx
 exact ⟨l0, l1, l2, l3, l4⟩
theorem jG.at_ {A : Option Addr} {cap j : Nat} {l : List jG} (h : dz w lo hi 14 jG.ay (.slice A l.length cap) l) (hc : l[j]? = some c) :
 ∃ g off jf iH jg iI jh iJ pQ oW kr jO, A = some ⟨g, off, none⟩ ∧ lo ≤ g ∧ g < hi ∧ c ∈ l ∧ fA w lo hi jG.ay (.agg #[Value.int .i64 c.kind, .int .i64 c.pc, .int .i64 c.frame, .int .i64 c.base, .int .i64 c.line, .int .i64 c.object, .slice jf c.dZ.length iH, .slice jg c.dU.length iI, .slice jh c.eu.length iJ, .slice pQ c.cells.length oW, .int .i64 c.gN, .int .i64 c.kJ, .int .i64 c.fQ, .slice kr c.fP.length jO]) c ∧ w.cell? ⟨g, off + j * 14, none⟩ = some (.int .i64 c.kind) ∧ w.cell? ⟨g, off + j * 14 + 1, none⟩ = some (.int .i64 c.pc) ∧ w.cell? ⟨g, off + j * 14 + 2, none⟩ = some (.int .i64 c.frame) ∧ w.cell? ⟨g, off + j * 14 + 3, none⟩ = some (.int .i64 c.base) ∧ w.cell? ⟨g, off + j * 14 + 4, none⟩ = some (.int .i64 c.line) ∧ w.cell? ⟨g, off + j * 14 + 5, none⟩ = some (.int .i64 c.object) ∧ w.cell? ⟨g, off + j * 14 + 6, none⟩ = some (.slice jf c.dZ.length iH) ∧ w.cell? ⟨g, off + j * 14 + 7, none⟩ = some (.slice jg c.dU.length iI) ∧ w.cell? ⟨g, off + j * 14 + 8, none⟩ = some (.slice jh c.eu.length iJ) ∧ w.cell? ⟨g, off + j * 14 + 9, none⟩ = some (.slice pQ c.cells.length oW) ∧ w.cell? ⟨g, off + j * 14 + 10, none⟩ = some (.int .i64 c.gN) ∧ w.cell? ⟨g, off + j * 14 + 11, none⟩ = some (.int .i64 c.kJ) ∧ w.cell? ⟨g, off + j * 14 + 12, none⟩ = some (.int .i64 c.fQ) ∧ w.cell? ⟨g, off + j * 14 + 13, none⟩ = some (.slice kr c.fP.length jO) := by
 obtain ⟨g, off, us, hA, h1, h2, h3, h4, h5⟩ := h.elem jG.gK hc
 obtain ⟨B0, m0, B1, m1, B2, m2, B3, m3, B4, m4, hx, l0, _, _, l1, _, _, l2, _, _, l3, _, _, l4, _, _⟩ := jG.form (w := w) (lo := lo) (hi := hi) (c := c) (x := .agg us.toArray) ⟨us, rfl, h4⟩
 injection hx with hx
 obtain rfl : us = [_, _, _, _, _, _, _, _, _, _, _, _, _, _] := congrArg Array.toList hx
 exact ⟨g, off, B0, m0, B1, m1, B2, m2, B3, m3, B4, m4, hA, h1, h2, mG hc, jG.mk_ l0 l1 l2 l3 l4, h5 0 _ rfl, h5 1 _ rfl, h5 2 _ rfl, h5 3 _ rfl, h5 4 _ rfl, h5 5 _ rfl, h5 6 _ rfl, h5 7 _ rfl, h5 8 _ rfl, h5 9 _ rfl, h5 10 _ rfl, h5 11 _ rfl, h5 12 _ rfl, h5 13 _ rfl⟩
end
end
section
open Go.RowKit
structure jS where
 state : Int
 entry : Int
 object : Int
 pc : Int
 frame : Int
 dZ : List aQ
 dU : List kH
 eu : List kG
 dx : List jG
 eT : List Int
 dR : ByteArray
 dL : Int
def jS.ay (c : jS) : List Dat := [.int .i64 c.state, .int .i64 c.entry, .int .i64 c.object, .int .i64 c.pc, .int .i64 c.frame, .row 6 c.dZ.length (flat aQ.ay c.dZ), .row 5 c.dU.length (flat kH.ay c.dU), .row 8 c.eu.length (flat kG.ay c.eu), .row 14 c.dx.length (flat jG.ay c.dx), .row 1 c.eT.length (flat gW c.eT), .str c.dR, .int .i64 c.dL]
theorem jS.gK (c : jS) : c.ay.length = 12 := rfl
def jS.dX (c : jS) : Nat := (c.dZ.length + sumOf aQ.dX c.dZ) + (c.dU.length + sumOf kH.dX c.dU) + (c.eu.length + sumOf kG.dX c.eu) + (c.dx.length + sumOf jG.dX c.dx) + (c.eT.length + sumOf oL c.eT) + c.dR.size
def jS.Fits (c : jS) : Prop := (∀ y ∈ c.dZ, y.Fits) ∧ (∀ y ∈ c.dU, y.Fits) ∧ (∀ y ∈ c.eu, y.Fits) ∧ (∀ y ∈ c.dx, y.Fits) ∧ (c.dR.size ≤ 9223372036854775807)
section
variable {w : World} {lo hi : Nat} {x : Value} {c : jS}
theorem jS.form (h : fA w lo hi jS.ay x c) : ∃ jf iH jg iI jh iJ lM kV pR oZ, x = .agg #[Value.int .i64 c.state, .int .i64 c.entry, .int .i64 c.object, .int .i64 c.pc, .int .i64 c.frame, .slice jf c.dZ.length iH, .slice jg c.dU.length iI, .slice jh c.eu.length iJ, .slice lM c.dx.length kV, .slice pR c.eT.length oZ, .string c.dR, .int .i64 c.dL] ∧ dz w lo hi 6 aQ.ay (.slice jf c.dZ.length iH) c.dZ ∧ c.dZ.length ≤ iH ∧ iH ≤ maxLen ∧ dz w lo hi 5 kH.ay (.slice jg c.dU.length iI) c.dU ∧ c.dU.length ≤ iI ∧ iI ≤ maxLen ∧ dz w lo hi 8 kG.ay (.slice jh c.eu.length iJ) c.eu ∧ c.eu.length ≤ iJ ∧ iJ ≤ maxLen ∧ dz w lo hi 14 jG.ay (.slice lM c.dx.length kV) c.dx ∧ c.dx.length ≤ kV ∧ kV ≤ maxLen ∧ dz w lo hi 1 gW (.slice pR c.eT.length oZ) c.eT ∧ c.eT.length ≤ oZ ∧ oZ ≤ maxLen := by
 obtain ⟨cs, rfl, h1⟩ := h
 unfold jS.ay at h1
 obtain ⟨v0, t0, rfl, a0, h1⟩ := h1.out
 obtain ⟨v1, t1, rfl, a1, h1⟩ := h1.out
 obtain ⟨v2, t2, rfl, a2, h1⟩ := h1.out
 obtain ⟨v3, t3, rfl, a3, h1⟩ := h1.out
 obtain ⟨v4, t4, rfl, a4, h1⟩ := h1.out
 obtain ⟨v5, t5, rfl, a5, h1⟩ := h1.out
 obtain ⟨v6, t6, rfl, a6, h1⟩ := h1.out
 obtain ⟨v7, t7, rfl, a7, h1⟩ := h1.out
 obtain ⟨v8, t8, rfl, a8, h1⟩ := h1.out
 obtain ⟨v9, t9, rfl, a9, h1⟩ := h1.out
 obtain ⟨v10, t10, rfl, a10, h1⟩ := h1.out
 obtain ⟨v11, t11, rfl, a11, h1⟩ := h1.out
 obtain rfl := h1.qI
 obtain rfl := a0.gG
 obtain rfl := a1.gG
 obtain rfl := a2.gG
 obtain rfl := a3.gG
 obtain rfl := a4.gG
 obtain ⟨A5, c5, rfl, g5, k5⟩ := dz.shape (f := aQ.ay) a5
 obtain ⟨A6, c6, rfl, g6, k6⟩ := dz.shape (f := kH.ay) a6
 obtain ⟨A7, c7, rfl, g7, k7⟩ := dz.shape (f := kG.ay) a7
 obtain ⟨A8, c8, rfl, g8, k8⟩ := dz.shape (f := jG.ay) a8
 obtain ⟨A9, c9, rfl, g9, k9⟩ := dz.shape (f := gW) a9
 obtain rfl := a10.wD
 obtain rfl := a11.gG
 exact ⟨A5, c5, A6, c6, A7, c7, A8, c8, A9, c9, rfl, a5, g5, k5, a6, g6, k6, a7, g7, k7, a8, g8, k8, a9, g9, k9⟩
theorem jS.mk_ {jf : Option Addr} {iH : Nat} (sS : dz w lo hi 6 aQ.ay (.slice jf c.dZ.length iH) c.dZ) {jg : Option Addr} {iI : Nat} (hmarks : dz w lo hi 5 kH.ay (.slice jg c.dU.length iI) c.dU) {jh : Option Addr} {iJ : Nat} (sU : dz w lo hi 8 kG.ay (.slice jh c.eu.length iJ) c.eu) {lM : Option Addr} {kV : Nat} (vI : dz w lo hi 14 jG.ay (.slice lM c.dx.length kV) c.dx) {pR : Option Addr} {oZ : Nat} (yL : dz w lo hi 1 gW (.slice pR c.eT.length oZ) c.eT) : fA w lo hi jS.ay (.agg #[Value.int .i64 c.state, .int .i64 c.entry, .int .i64 c.object, .int .i64 c.pc, .int .i64 c.frame, .slice jf c.dZ.length iH, .slice jg c.dU.length iI, .slice jh c.eu.length iJ, .slice lM c.dx.length kV, .slice pR c.eT.length oZ, .string c.dR, .int .i64 c.dL]) c :=
 ⟨[_, _, _, _, _, _, _, _, _, _, _, _], rfl, .dJ .mkInt (.dJ .mkInt (.dJ .mkInt (.dJ .mkInt (.dJ .mkInt (.dJ sS (.dJ hmarks (.dJ sU (.dJ vI (.dJ yL (.dJ .mkStr (.dJ .mkInt .lu)))))))))))⟩
theorem jS.rows {jf : Option Addr} {iH : Nat} {jg : Option Addr} {iI : Nat} {jh : Option Addr} {iJ : Nat} {lM : Option Addr} {kV : Nat} {pR : Option Addr} {oZ : Nat} (h : fA w lo hi jS.ay (.agg #[Value.int .i64 c.state, .int .i64 c.entry, .int .i64 c.object, .int .i64 c.pc, .int .i64 c.frame, .slice jf c.dZ.length iH, .slice jg c.dU.length iI, .slice jh c.eu.length iJ, .slice lM c.dx.length kV, .slice pR c.eT.length oZ, .string c.dR, .int .i64 c.dL]) c) : dz w lo hi 6 aQ.ay (.slice jf c.dZ.length iH) c.dZ ∧ dz w lo hi 5 kH.ay (.slice jg c.dU.length iI) c.dU ∧ dz w lo hi 8 kG.ay (.slice jh c.eu.length iJ) c.eu ∧ dz w lo hi 14 jG.ay (.slice lM c.dx.length kV) c.dx ∧ dz w lo hi 1 gW (.slice pR c.eT.length oZ) c.eT := by
 obtain ⟨X0, y0, X1, y1, X2, y2, X3, y3, X4, y4, hx, l0, _, _, l1, _, _, l2, _, _, l3, _, _, l4, _, _⟩ := jS.form h
 injection hx with hx
 have hx := congrArg Array.toList hx
 simp only [List.cons.injEq, Value.slice.injEq, and_true, true_and] at hx
 obtain ⟨⟨rfl, rfl⟩, ⟨rfl, rfl⟩, ⟨rfl, rfl⟩, ⟨rfl, rfl⟩, ⟨rfl, rfl⟩⟩ := hx
 exact ⟨l0, l1, l2, l3, l4⟩
theorem jS.at_ {A : Option Addr} {cap j : Nat} {l : List jS} (h : dz w lo hi 12 jS.ay (.slice A l.length cap) l) (hc : l[j]? = some c) :
 ∃ g off jf iH jg iI jh iJ lM kV pR oZ, A = some ⟨g, off, none⟩ ∧ lo ≤ g ∧ g < hi ∧ c ∈ l ∧ fA w lo hi jS.ay (.agg #[Value.int .i64 c.state, .int .i64 c.entry, .int .i64 c.object, .int .i64 c.pc, .int .i64 c.frame, .slice jf c.dZ.length iH, .slice jg c.dU.length iI, .slice jh c.eu.length iJ, .slice lM c.dx.length kV, .slice pR c.eT.length oZ, .string c.dR, .int .i64 c.dL]) c ∧ w.cell? ⟨g, off + j * 12, none⟩ = some (.int .i64 c.state) ∧ w.cell? ⟨g, off + j * 12 + 1, none⟩ = some (.int .i64 c.entry) ∧ w.cell? ⟨g, off + j * 12 + 2, none⟩ = some (.int .i64 c.object) ∧ w.cell? ⟨g, off + j * 12 + 3, none⟩ = some (.int .i64 c.pc) ∧ w.cell? ⟨g, off + j * 12 + 4, none⟩ = some (.int .i64 c.frame) ∧ w.cell? ⟨g, off + j * 12 + 5, none⟩ = some (.slice jf c.dZ.length iH) ∧ w.cell? ⟨g, off + j * 12 + 6, none⟩ = some (.slice jg c.dU.length iI) ∧ w.cell? ⟨g, off + j * 12 + 7, none⟩ = some (.slice jh c.eu.length iJ) ∧ w.cell? ⟨g, off + j * 12 + 8, none⟩ = some (.slice lM c.dx.length kV) ∧ w.cell? ⟨g, off + j * 12 + 9, none⟩ = some (.slice pR c.eT.length oZ) ∧ w.cell? ⟨g, off + j * 12 + 10, none⟩ = some (.string c.dR) ∧ w.cell? ⟨g, off + j * 12 + 11, none⟩ = some (.int .i64 c.dL) := by
 obtain ⟨g, off, us, hA, h1, h2, h3, h4, h5⟩ := h.elem jS.gK hc
 obtain ⟨B0, m0, B1, m1, B2, m2, B3, m3, B4, m4, hx, l0, _, _, l1, _, _, l2, _, _, l3, _, _, l4, _, _⟩ := jS.form (w := w) (lo := lo) (hi := hi) (c := c) (x := .agg us.toArray) ⟨us, rfl, h4⟩
 injection hx with hx
 obtain rfl : us = [_, _, _, _, _, _, _, _, _, _, _, _] := congrArg Array.toList hx
 exact ⟨g, off, B0, m0, B1, m1, B2, m2, B3, m3, B4, m4, hA, h1, h2, mG hc, jS.mk_ l0 l1 l2 l3 l4, h5 0 _ rfl, h5 1 _ rfl, h5 2 _ rfl, h5 3 _ rfl, h5 4 _ rfl, h5 5 _ rfl, h5 6 _ rfl, h5 7 _ rfl, h5 8 _ rfl, h5 9 _ rfl, h5 10 _ rfl, h5 11 _ rfl⟩
end
end
section
open Go.RowKit
structure eG where
 code : dK
 store : dP
 bY : List jS
 dQ : List Int
 status : Int
 fault : Int
 line : Int
 result : aQ
abbrev eG.aF (c : eG) : List jF := c.code.au
abbrev eG.aK (c : eG) : List gU := c.code.aA
abbrev eG.aL (c : eG) : List ByteArray := c.code.aB
abbrev eG.dO (c : eG) : Int := c.code.main
abbrev eG.bf (c : eG) : List eO := c.code.av
abbrev eG.aR (c : eG) : List ByteArray := c.store.fu
abbrev eG.aG (c : eG) : List gU := c.store.aA
abbrev eG.aM (c : eG) : List fV := c.store.aI
abbrev eG.aH (c : eG) : List aQ := c.store.aB
abbrev eG.aU (c : eG) : ByteArray := c.store.dR
abbrev eG.aO (c : eG) : Int := c.store.dL
abbrev eG.aS (c : eG) : List ByteArray := c.store.output
abbrev eG.bg (c : eG) : List ByteArray := c.store.gV
abbrev eG.aN (c : eG) : List kZ := c.store.dY
abbrev eG.aT (c : eG) : Bool := c.store.gF
abbrev eG.bX (c : eG) : Int := c.store.je
abbrev eG.bn (c : eG) : Int := c.store.fT
abbrev eG.dA (c : eG) : Int := c.store.kI
abbrev eG.bK (c : eG) : Int := c.result.kind
abbrev eG.aP (c : eG) : Int := c.result.number
abbrev eG.aV (c : eG) : Int := c.result.index
abbrev eG.bL (c : eG) : ByteArray := c.result.text
abbrev eG.aJ (c : eG) : Int := c.result.eB
abbrev eG.aD (c : eG) : Int := c.result.dW
def eG.ay (c : eG) : List Dat := [.row 4 c.aF.length (flat jF.ay c.aF), .row 3 c.aK.length (flat gU.ay c.aK), .row 1 c.aL.length (flat eF c.aL), .int .i64 c.dO, .row 5 c.bf.length (flat eO.ay c.bf), .row 1 c.aR.length (flat eF c.aR), .row 3 c.aG.length (flat gU.ay c.aG), .row 5 c.aM.length (flat fV.ay c.aM), .row 6 c.aH.length (flat aQ.ay c.aH), .str c.aU, .int .i64 c.aO, .row 1 c.aS.length (flat eF c.aS), .row 1 c.bg.length (flat eF c.bg), .row 2 c.aN.length (flat kZ.ay c.aN), .bool c.aT, .int .i64 c.bX, .int .i64 c.bn, .int .i64 c.dA, .row 12 c.bY.length (flat jS.ay c.bY), .row 1 c.dQ.length (flat gW c.dQ), .int .i64 c.status, .int .i64 c.fault, .int .i64 c.line, .int .i64 c.bK, .int .i64 c.aP, .int .i64 c.aV, .str c.bL, .int .i64 c.aJ, .int .i64 c.aD]
theorem eG.gK (c : eG) : c.ay.length = 29 := rfl
def eG.dX (c : eG) : Nat := c.code.dX + c.store.dX + (c.bY.length + sumOf jS.dX c.bY) + (c.dQ.length + sumOf oL c.dQ) + c.result.dX
def eG.Fits (c : eG) : Prop := (c.code.Fits) ∧ (c.store.Fits) ∧ (∀ y ∈ c.bY, y.Fits) ∧ (c.result.Fits)
section
variable {w : World} {lo hi : Nat} {x : Value} {c : eG}
theorem eG.form (h : fA w lo hi eG.ay x c) : ∃ bM bq bZ bU cu bV dD cZ dG dh bO bu bP bB bQ bC cB bW dH dw bS bD eH eD fC fq, x = .agg #[Value.slice bM c.aF.length bq, .slice bZ c.aK.length bU, .slice cu c.aL.length bV, .int .i64 c.dO, .slice dD c.bf.length cZ, .slice dG c.aR.length dh, .slice bO c.aG.length bu, .slice bP c.aM.length bB, .slice bQ c.aH.length bC, .string c.aU, .int .i64 c.aO, .slice cB c.aS.length bW, .slice dH c.bg.length dw, .slice bS c.aN.length bD, .bool c.aT, .int .i64 c.bX, .int .i64 c.bn, .int .i64 c.dA, .slice eH c.bY.length eD, .slice fC c.dQ.length fq, .int .i64 c.status, .int .i64 c.fault, .int .i64 c.line, .int .i64 c.bK, .int .i64 c.aP, .int .i64 c.aV, .string c.bL, .int .i64 c.aJ, .int .i64 c.aD] ∧ dz w lo hi 4 jF.ay (.slice bM c.aF.length bq) c.aF ∧ c.aF.length ≤ bq ∧ bq ≤ maxLen ∧ dz w lo hi 3 gU.ay (.slice bZ c.aK.length bU) c.aK ∧ c.aK.length ≤ bU ∧ bU ≤ maxLen ∧ dz w lo hi 1 eF (.slice cu c.aL.length bV) c.aL ∧ c.aL.length ≤ bV ∧ bV ≤ maxLen ∧ dz w lo hi 5 eO.ay (.slice dD c.bf.length cZ) c.bf ∧ c.bf.length ≤ cZ ∧ cZ ≤ maxLen ∧ dz w lo hi 1 eF (.slice dG c.aR.length dh) c.aR ∧ c.aR.length ≤ dh ∧ dh ≤ maxLen ∧ dz w lo hi 3 gU.ay (.slice bO c.aG.length bu) c.aG ∧ c.aG.length ≤ bu ∧ bu ≤ maxLen ∧ dz w lo hi 5 fV.ay (.slice bP c.aM.length bB) c.aM ∧ c.aM.length ≤ bB ∧ bB ≤ maxLen ∧ dz w lo hi 6 aQ.ay (.slice bQ c.aH.length bC) c.aH ∧ c.aH.length ≤ bC ∧ bC ≤ maxLen ∧ dz w lo hi 1 eF (.slice cB c.aS.length bW) c.aS ∧ c.aS.length ≤ bW ∧ bW ≤ maxLen ∧ dz w lo hi 1 eF (.slice dH c.bg.length dw) c.bg ∧ c.bg.length ≤ dw ∧ dw ≤ maxLen ∧ dz w lo hi 2 kZ.ay (.slice bS c.aN.length bD) c.aN ∧ c.aN.length ≤ bD ∧ bD ≤ maxLen ∧ dz w lo hi 12 jS.ay (.slice eH c.bY.length eD) c.bY ∧ c.bY.length ≤ eD ∧ eD ≤ maxLen ∧ dz w lo hi 1 gW (.slice fC c.dQ.length fq) c.dQ ∧ c.dQ.length ≤ fq ∧ fq ≤ maxLen := by
 obtain ⟨cs, rfl, h1⟩ := h
 unfold eG.ay at h1
 obtain ⟨v0, t0, rfl, a0, h1⟩ := h1.out
 obtain ⟨v1, t1, rfl, a1, h1⟩ := h1.out
 obtain ⟨v2, t2, rfl, a2, h1⟩ := h1.out
 obtain ⟨v3, t3, rfl, a3, h1⟩ := h1.out
 obtain ⟨v4, t4, rfl, a4, h1⟩ := h1.out
 obtain ⟨v5, t5, rfl, a5, h1⟩ := h1.out
 obtain ⟨v6, t6, rfl, a6, h1⟩ := h1.out
 obtain ⟨v7, t7, rfl, a7, h1⟩ := h1.out
 obtain ⟨v8, t8, rfl, a8, h1⟩ := h1.out
 obtain ⟨v9, t9, rfl, a9, h1⟩ := h1.out
 obtain ⟨v10, t10, rfl, a10, h1⟩ := h1.out
 obtain ⟨v11, t11, rfl, a11, h1⟩ := h1.out
 obtain ⟨v12, t12, rfl, a12, h1⟩ := h1.out
 obtain ⟨v13, t13, rfl, a13, h1⟩ := h1.out
 obtain ⟨v14, t14, rfl, a14, h1⟩ := h1.out
 obtain ⟨v15, t15, rfl, a15, h1⟩ := h1.out
 obtain ⟨v16, t16, rfl, a16, h1⟩ := h1.out
 obtain ⟨v17, t17, rfl, a17, h1⟩ := h1.out
 obtain ⟨v18, t18, rfl, a18, h1⟩ := h1.out
 obtain ⟨v19, t19, rfl, a19, h1⟩ := h1.out
 obtain ⟨v20, t20, rfl, a20, h1⟩ := h1.out
 obtain ⟨v21, t21, rfl, a21, h1⟩ := h1.out
 obtain ⟨v22, t22, rfl, a22, h1⟩ := h1.out
 obtain ⟨v23, t23, rfl, a23, h1⟩ := h1.out
 obtain ⟨v24, t24, rfl, a24, h1⟩ := h1.out
 obtain ⟨v25, t25, rfl, a25, h1⟩ := h1.out
 obtain ⟨v26, t26, rfl, a26, h1⟩ := h1.out
 obtain ⟨v27, t27, rfl, a27, h1⟩ := h1.out
 obtain ⟨v28, t28, rfl, a28, h1⟩ := h1.out
 obtain rfl := h1.qI
 obtain ⟨A0, c0, rfl, g0, k0⟩ := dz.shape (f := jF.ay) a0
 obtain ⟨A1, c1, rfl, g1, k1⟩ := dz.shape (f := gU.ay) a1
 obtain ⟨A2, c2, rfl, g2, k2⟩ := dz.shape (f := eF) a2
 obtain rfl := a3.gG
 obtain ⟨A4, c4, rfl, g4, k4⟩ := dz.shape (f := eO.ay) a4
 obtain ⟨A5, c5, rfl, g5, k5⟩ := dz.shape (f := eF) a5
 obtain ⟨A6, c6, rfl, g6, k6⟩ := dz.shape (f := gU.ay) a6
 obtain ⟨A7, c7, rfl, g7, k7⟩ := dz.shape (f := fV.ay) a7
 obtain ⟨A8, c8, rfl, g8, k8⟩ := dz.shape (f := aQ.ay) a8
 obtain rfl := a9.wD
 obtain rfl := a10.gG
 obtain ⟨A11, c11, rfl, g11, k11⟩ := dz.shape (f := eF) a11
 obtain ⟨A12, c12, rfl, g12, k12⟩ := dz.shape (f := eF) a12
 obtain ⟨A13, c13, rfl, g13, k13⟩ := dz.shape (f := kZ.ay) a13
 obtain rfl := a14.Ga
 obtain rfl := a15.gG
 obtain rfl := a16.gG
 obtain rfl := a17.gG
 obtain ⟨A18, c18, rfl, g18, k18⟩ := dz.shape (f := jS.ay) a18
 obtain ⟨A19, c19, rfl, g19, k19⟩ := dz.shape (f := gW) a19
 obtain rfl := a20.gG
 obtain rfl := a21.gG
 obtain rfl := a22.gG
 obtain rfl := a23.gG
 obtain rfl := a24.gG
 obtain rfl := a25.gG
 obtain rfl := a26.wD
 obtain rfl := a27.gG
 obtain rfl := a28.gG
 exact ⟨A0, c0, A1, c1, A2, c2, A4, c4, A5, c5, A6, c6, A7, c7, A8, c8, A11, c11, A12, c12, A13, c13, A18, c18, A19, c19, rfl, a0, g0, k0, a1, g1, k1, a2, g2, k2, a4, g4, k4, a5, g5, k5, a6, g6, k6, a7, g7, k7, a8, g8, k8, a11, g11, k11, a12, g12, k12, a13, g13, k13, a18, g18, k18, a19, g19, k19⟩
theorem eG.mk_ {bM : Option Addr} {bq : Nat} (gX : dz w lo hi 4 jF.ay (.slice bM c.aF.length bq) c.aF) {bZ : Option Addr} {bU : Nat} (iE : dz w lo hi 3 gU.ay (.slice bZ c.aK.length bU) c.aK) {cu : Option Addr} {bV : Nat} (iF : dz w lo hi 1 eF (.slice cu c.aL.length bV) c.aL) {dD : Option Addr} {cZ : Nat} (ji : dz w lo hi 5 eO.ay (.slice dD c.bf.length cZ) c.bf) {dG : Option Addr} {dh : Nat} (iL : dz w lo hi 1 eF (.slice dG c.aR.length dh) c.aR) {bO : Option Addr} {bu : Nat} (gP : dz w lo hi 3 gU.ay (.slice bO c.aG.length bu) c.aG) {bP : Option Addr} {bB : Nat} (gy : dz w lo hi 5 fV.ay (.slice bP c.aM.length bB) c.aM) {bQ : Option Addr} {bC : Nat} (gQ : dz w lo hi 6 aQ.ay (.slice bQ c.aH.length bC) c.aH) {cB : Option Addr} {bW : Nat} (iy : dz w lo hi 1 eF (.slice cB c.aS.length bW) c.aS) {dH : Option Addr} {dw : Nat} (iM : dz w lo hi 1 eF (.slice dH c.bg.length dw) c.bg) {bS : Option Addr} {bD : Nat} (gT : dz w lo hi 2 kZ.ay (.slice bS c.aN.length bD) c.aN) {eH : Option Addr} {eD : Nat} (pq : dz w lo hi 12 jS.ay (.slice eH c.bY.length eD) c.bY) {fC : Option Addr} {fq : Nat} (oz : dz w lo hi 1 gW (.slice fC c.dQ.length fq) c.dQ) : fA w lo hi eG.ay (.agg #[Value.slice bM c.aF.length bq, .slice bZ c.aK.length bU, .slice cu c.aL.length bV, .int .i64 c.dO, .slice dD c.bf.length cZ, .slice dG c.aR.length dh, .slice bO c.aG.length bu, .slice bP c.aM.length bB, .slice bQ c.aH.length bC, .string c.aU, .int .i64 c.aO, .slice cB c.aS.length bW, .slice dH c.bg.length dw, .slice bS c.aN.length bD, .bool c.aT, .int .i64 c.bX, .int .i64 c.bn, .int .i64 c.dA, .slice eH c.bY.length eD, .slice fC c.dQ.length fq, .int .i64 c.status, .int .i64 c.fault, .int .i64 c.line, .int .i64 c.bK, .int .i64 c.aP, .int .i64 c.aV, .string c.bL, .int .i64 c.aJ, .int .i64 c.aD]) c :=
 ⟨[_, _, _, _, _, _, _, _, _, _, _, _, _, _, _, _, _, _, _, _, _, _, _, _, _, _, _, _, _], rfl, .dJ gX (.dJ iE (.dJ iF (.dJ .mkInt (.dJ ji (.dJ iL (.dJ gP (.dJ gy (.dJ gQ (.dJ .mkStr (.dJ .mkInt (.dJ iy (.dJ iM (.dJ gT (.dJ .zL (.dJ .mkInt (.dJ .mkInt (.dJ .mkInt (.dJ pq (.dJ oz (.dJ .mkInt (.dJ .mkInt (.dJ .mkInt (.dJ .mkInt (.dJ .mkInt (.dJ .mkInt (.dJ .mkStr (.dJ .mkInt (.dJ .mkInt .lu))))))))))))))))))))))))))))⟩
theorem eG.rows {bM : Option Addr} {bq : Nat} {bZ : Option Addr} {bU : Nat} {cu : Option Addr} {bV : Nat} {dD : Option Addr} {cZ : Nat} {dG : Option Addr} {dh : Nat} {bO : Option Addr} {bu : Nat} {bP : Option Addr} {bB : Nat} {bQ : Option Addr} {bC : Nat} {cB : Option Addr} {bW : Nat} {dH : Option Addr} {dw : Nat} {bS : Option Addr} {bD : Nat} {eH : Option Addr} {eD : Nat} {fC : Option Addr} {fq : Nat} (h : fA w lo hi eG.ay (.agg #[Value.slice bM c.aF.length bq, .slice bZ c.aK.length bU, .slice cu c.aL.length bV, .int .i64 c.dO, .slice dD c.bf.length cZ, .slice dG c.aR.length dh, .slice bO c.aG.length bu, .slice bP c.aM.length bB, .slice bQ c.aH.length bC, .string c.aU, .int .i64 c.aO, .slice cB c.aS.length bW, .slice dH c.bg.length dw, .slice bS c.aN.length bD, .bool c.aT, .int .i64 c.bX, .int .i64 c.bn, .int .i64 c.dA, .slice eH c.bY.length eD, .slice fC c.dQ.length fq, .int .i64 c.status, .int .i64 c.fault, .int .i64 c.line, .int .i64 c.bK, .int .i64 c.aP, .int .i64 c.aV, .string c.bL, .int .i64 c.aJ, .int .i64 c.aD]) c) : dz w lo hi 4 jF.ay (.slice bM c.aF.length bq) c.aF ∧ dz w lo hi 3 gU.ay (.slice bZ c.aK.length bU) c.aK ∧ dz w lo hi 1 eF (.slice cu c.aL.length bV) c.aL ∧ dz w lo hi 5 eO.ay (.slice dD c.bf.length cZ) c.bf ∧ dz w lo hi 1 eF (.slice dG c.aR.length dh) c.aR ∧ dz w lo hi 3 gU.ay (.slice bO c.aG.length bu) c.aG ∧ dz w lo hi 5 fV.ay (.slice bP c.aM.length bB) c.aM ∧ dz w lo hi 6 aQ.ay (.slice bQ c.aH.length bC) c.aH ∧ dz w lo hi 1 eF (.slice cB c.aS.length bW) c.aS ∧ dz w lo hi 1 eF (.slice dH c.bg.length dw) c.bg ∧ dz w lo hi 2 kZ.ay (.slice bS c.aN.length bD) c.aN ∧ dz w lo hi 12 jS.ay (.slice eH c.bY.length eD) c.bY ∧ dz w lo hi 1 gW (.slice fC c.dQ.length fq) c.dQ := by
 obtain ⟨X0, y0, X1, y1, X2, y2, X3, y3, X4, y4, X5, y5, X6, y6, X7, y7, X8, y8, X9, y9, X10, y10, X11, y11, X12, y12, hx, l0, _, _, l1, _, _, l2, _, _, l3, _, _, l4, _, _, l5, _, _, l6, _, _, l7, _, _, l8, _, _, l9, _, _, l10, _, _, l11, _, _, l12, _, _⟩ := eG.form h
 injection hx with hx
 have hx := congrArg Array.toList hx
 simp only [List.cons.injEq, Value.slice.injEq, and_true, true_and] at hx
 obtain ⟨⟨rfl, rfl⟩, ⟨rfl, rfl⟩, ⟨rfl, rfl⟩, ⟨rfl, rfl⟩, ⟨rfl, rfl⟩, ⟨rfl, rfl⟩, ⟨rfl, rfl⟩, ⟨rfl, rfl⟩, ⟨rfl, rfl⟩, ⟨rfl, rfl⟩, ⟨rfl, rfl⟩, ⟨rfl, rfl⟩, ⟨rfl, rfl⟩⟩ := hx
 exact ⟨l0, l1, l2, l3, l4, l5, l6, l7, l8, l9, l10, l11, l12⟩
theorem eG.at_ {A : Option Addr} {cap j : Nat} {l : List eG} (h : dz w lo hi 29 eG.ay (.slice A l.length cap) l) (hc : l[j]? = some c) :
 ∃ g off bM bq bZ bU cu bV dD cZ dG dh bO bu bP bB bQ bC cB bW dH dw bS bD eH eD fC fq, A = some ⟨g, off, none⟩ ∧ lo ≤ g ∧ g < hi ∧ c ∈ l ∧ fA w lo hi eG.ay (.agg #[Value.slice bM c.aF.length bq, .slice bZ c.aK.length bU, .slice cu c.aL.length bV, .int .i64 c.dO, .slice dD c.bf.length cZ, .slice dG c.aR.length dh, .slice bO c.aG.length bu, .slice bP c.aM.length bB, .slice bQ c.aH.length bC, .string c.aU, .int .i64 c.aO, .slice cB c.aS.length bW, .slice dH c.bg.length dw, .slice bS c.aN.length bD, .bool c.aT, .int .i64 c.bX, .int .i64 c.bn, .int .i64 c.dA, .slice eH c.bY.length eD, .slice fC c.dQ.length fq, .int .i64 c.status, .int .i64 c.fault, .int .i64 c.line, .int .i64 c.bK, .int .i64 c.aP, .int .i64 c.aV, .string c.bL, .int .i64 c.aJ, .int .i64 c.aD]) c ∧ w.cell? ⟨g, off + j * 29, none⟩ = some (.slice bM c.aF.length bq) ∧ w.cell? ⟨g, off + j * 29 + 1, none⟩ = some (.slice bZ c.aK.length bU) ∧ w.cell? ⟨g, off + j * 29 + 2, none⟩ = some (.slice cu c.aL.length bV) ∧ w.cell? ⟨g, off + j * 29 + 3, none⟩ = some (.int .i64 c.dO) ∧ w.cell? ⟨g, off + j * 29 + 4, none⟩ = some (.slice dD c.bf.length cZ) ∧ w.cell? ⟨g, off + j * 29 + 5, none⟩ = some (.slice dG c.aR.length dh) ∧ w.cell? ⟨g, off + j * 29 + 6, none⟩ = some (.slice bO c.aG.length bu) ∧ w.cell? ⟨g, off + j * 29 + 7, none⟩ = some (.slice bP c.aM.length bB) ∧ w.cell? ⟨g, off + j * 29 + 8, none⟩ = some (.slice bQ c.aH.length bC) ∧ w.cell? ⟨g, off + j * 29 + 9, none⟩ = some (.string c.aU) ∧ w.cell? ⟨g, off + j * 29 + 10, none⟩ = some (.int .i64 c.aO) ∧ w.cell? ⟨g, off + j * 29 + 11, none⟩ = some (.slice cB c.aS.length bW) ∧ w.cell? ⟨g, off + j * 29 + 12, none⟩ = some (.slice dH c.bg.length dw) ∧ w.cell? ⟨g, off + j * 29 + 13, none⟩ = some (.slice bS c.aN.length bD) ∧ w.cell? ⟨g, off + j * 29 + 14, none⟩ = some (.bool c.aT) ∧ w.cell? ⟨g, off + j * 29 + 15, none⟩ = some (.int .i64 c.bX) ∧ w.cell? ⟨g, off + j * 29 + 16, none⟩ = some (.int .i64 c.bn) ∧ w.cell? ⟨g, off + j * 29 + 17, none⟩ = some (.int .i64 c.dA) ∧ w.cell? ⟨g, off + j * 29 + 18, none⟩ = some (.slice eH c.bY.length eD) ∧ w.cell? ⟨g, off + j * 29 + 19, none⟩ = some (.slice fC c.dQ.length fq) ∧ w.cell? ⟨g, off + j * 29 + 20, none⟩ = some (.int .i64 c.status) ∧ w.cell? ⟨g, off + j * 29 + 21, none⟩ = some (.int .i64 c.fault) ∧ w.cell? ⟨g, off + j * 29 + 22, none⟩ = some (.int .i64 c.line) ∧ w.cell? ⟨g, off + j * 29 + 23, none⟩ = some (.int .i64 c.bK) ∧ w.cell? ⟨g, off + j * 29 + 24, none⟩ = some (.int .i64 c.aP) ∧ w.cell? ⟨g, off + j * 29 + 25, none⟩ = some (.int .i64 c.aV) ∧ w.cell? ⟨g, off + j * 29 + 26, none⟩ = some (.string c.bL) ∧ w.cell? ⟨g, off + j * 29 + 27, none⟩ = some (.int .i64 c.aJ) ∧ w.cell? ⟨g, off + j * 29 + 28, none⟩ = some (.int .i64 c.aD) := by
 obtain ⟨g, off, us, hA, h1, h2, h3, h4, h5⟩ := h.elem eG.gK hc
 obtain ⟨B0, m0, B1, m1, B2, m2, B3, m3, B4, m4, B5, m5, B6, m6, B7, m7, B8, m8, B9, m9, B10, m10, B11, m11, B12, m12, hx, l0, _, _, l1, _, _, l2, _, _, l3, _, _, l4, _, _, l5, _, _, l6, _, _, l7, _, _, l8, _, _, l9, _, _, l10, _, _, l11, _, _, l12, _, _⟩ := eG.form (w := w) (lo := lo) (hi := hi) (c := c) (x := .agg us.toArray) ⟨us, rfl, h4⟩
 injection hx with hx
 obtain rfl : us = [_, _, _, _, _, _, _, _, _, _, _, _, _, _, _, _, _, _, _, _, _, _, _, _, _, _, _, _, _] := congrArg Array.toList hx
 exact ⟨g, off, B0, m0, B1, m1, B2, m2, B3, m3, B4, m4, B5, m5, B6, m6, B7, m7, B8, m8, B9, m9, B10, m10, B11, m11, B12, m12, hA, h1, h2, mG hc, eG.mk_ l0 l1 l2 l3 l4 l5 l6 l7 l8 l9 l10 l11 l12, h5 0 _ rfl, h5 1 _ rfl, h5 2 _ rfl, h5 3 _ rfl, h5 4 _ rfl, h5 5 _ rfl, h5 6 _ rfl, h5 7 _ rfl, h5 8 _ rfl, h5 9 _ rfl, h5 10 _ rfl, h5 11 _ rfl, h5 12 _ rfl, h5 13 _ rfl, h5 14 _ rfl, h5 15 _ rfl, h5 16 _ rfl, h5 17 _ rfl, h5 18 _ rfl, h5 19 _ rfl, h5 20 _ rfl, h5 21 _ rfl, h5 22 _ rfl, h5 23 _ rfl, h5 24 _ rfl, h5 25 _ rfl, h5 26 _ rfl, h5 27 _ rfl, h5 28 _ rfl⟩
end
end
section
open Go Go.RowKit
section
variable {P : Program}
def OX (ops : Array Oper) : Bool :=
 let l0 := Array.replicate ops.size false
 Region.noSelect ops && decide (3 ≤ ops.size) && decide (Region.ready .any ops l0 = [0, 1]) && decide (Region.ready .any ops (l0.setIfInBounds 0 true) = [1]) && decide (Region.ready .any ops (l0.setIfInBounds 1 true) = [0]) && Eg .any ops (ops.size - 3) 1 2 ((l0.setIfInBounds 0 true).setIfInBounds 1 true)
theorem Nc {ops : Array Oper} {Q : Exit → Act → World → Prop} {a : Act} {w : World} {o0 o1 o2 : Oper} {l : List Oper} (hB : OX ops = true) (hsz : ops.size = l.length + 3)
 (e0 : ops[0]? = some o0) (e1 : ops[1]? = some o1) (e2 : ops[2]? = some o2) (hl : ∀ j, l[j]? = ops[3 + j]?)
 (h01 : rY P ops Q (fun b v => ∃ C2 : World → Prop, C2 v ∧ wpQuiet P ops C2 (fun b' => ∀ v', C2 v' → Q .normal b' v') l b) [o0, o1, o2] a w)
 (h10 : rY P ops Q (fun b v => ∃ C2 : World → Prop, C2 v ∧ wpQuiet P ops C2 (fun b' => ∀ v', C2 v' → Q .normal b' v') l b) [o1, o0, o2] a w) :
 wpAny P .any ops Q ops.size (Array.replicate ops.size false) a w := by
 simp only [OX, Bool.and_eq_true, decide_eq_true_eq] at hB
 obtain ⟨⟨⟨⟨⟨hsel, hn⟩, hr0⟩, hr1⟩, hr2⟩, hth⟩ := hB
 -- behind the first two
 have fin : ∀ (b : Act) (v : World), rY P ops Q (fun b v => ∃ C2 : World → Prop, C2 v ∧ wpQuiet P ops C2 (fun b' => ∀ v', C2 v' → Q .normal b' v') l b) [o2] b v →
  wpAny P .any ops Q (1 + l.length) (((Array.replicate ops.size false).setIfInBounds 0 true).setIfInBounds 1 true) b v := fun b v hb => by
  have := yt (md := .any) (Q' := Q) (g := l.length) [o2] 2 _ b v (fun j hj => by
   have : j = 0 := by simp at hj; omega
   subst this; simpa using e2.symm) (by rw [show l.length = ops.size - 3 by omega]; exact hth)
   (fun listed b v hx hK => by
    obtain ⟨C2, h2, hq⟩ := hK
    exact wpAny_of_quiet (Q := fun b' => ∀ v', C2 v' → Q .normal b' v') (fun _ v' hv' h => h v' hv') _ _ _ _ h2 (wpAnyQ_lex hsel l 3 listed b hl hx hq)) hb
  exact this
 generalize hls : Array.replicate ops.size false = ls at *
 rw [show ops.size = (1 + l.length + 1) + 1 by omega]
 refine ⟨fun h => (by rw [hr0] at h; cases h), fun i hi => ?_⟩
 rw [hr0] at hi
 rcases List.mem_cons.1 hi with rfl | hi
 ·have hw : wpOp P ops Q 0 (rY P ops Q (fun b v => ∃ C2 : World → Prop, C2 v ∧ wpQuiet P ops C2 (fun b' => ∀ v', C2 v' → Q .normal b' v') l b) [o1, o2]) a w := by unfold wpOp; simp only [e0]; exact h01
  refine wpOp_mono (fun b v hb => ?_) hw
  refine ⟨fun h => (by rw [hr1] at h; cases h), fun i hi => ?_⟩
  rw [hr1] at hi
  obtain rfl : i = 1 := by simpa using hi
  have hw : wpOp P ops Q 1 (rY P ops Q (fun b v => ∃ C2 : World → Prop, C2 v ∧ wpQuiet P ops C2 (fun b' => ∀ v', C2 v' → Q .normal b' v') l b) [o2]) b v := by unfold wpOp; simp only [e1]; exact hb
  exact wpOp_mono (fun b v hb => fin b v hb) hw
 ·obtain rfl : i = 1 := by simpa using hi
  have hw : wpOp P ops Q 1 (rY P ops Q (fun b v => ∃ C2 : World → Prop, C2 v ∧ wpQuiet P ops C2 (fun b' => ∀ v', C2 v' → Q .normal b' v') l b) [o0, o2]) a w := by unfold wpOp; simp only [e1]; exact h10
  refine wpOp_mono (fun b v hb => ?_) hw
  refine ⟨fun h => (by rw [hr2] at h; cases h), fun i hi => ?_⟩
  rw [hr2] at hi
  obtain rfl : i = 0 := by simpa using hi
  have hw : wpOp P ops Q 0 (rY P ops Q (fun b v => ∃ C2 : World → Prop, C2 v ∧ wpQuiet P ops C2 (fun b' => ∀ v', C2 v' → Q .normal b' v') l b) [o2]) b v := by unfold wpOp; simp only [e0]; exact hb
  refine wpOp_mono (fun b v hb => ?_) hw
  rw [Array.setIfInBounds_comm _ _ (by decide : (1 : Nat) ≠ 0)]
  exact fin b v hb
theorem yx {id : Nat} {Q : Exit → Act → World → Prop} {a : Act} {w : World} {o0 o1 o2 : Oper} {l : List Oper} (hm : P.follows .mixedOrders = true) (hB : OX (o0 :: o1 :: o2 :: l).toArray = true)
 (h01 : rY P (o0 :: o1 :: o2 :: l).toArray Q (fun b v => ∃ C2 : World → Prop, C2 v ∧ wpQuiet P (o0 :: o1 :: o2 :: l).toArray C2 (fun b' => ∀ v', C2 v' → Q .normal b' v') l b) [o0, o1, o2] a w.drew)
 (h10 : rY P (o0 :: o1 :: o2 :: l).toArray Q (fun b v => ∃ C2 : World → Prop, C2 v ∧ wpQuiet P (o0 :: o1 :: o2 :: l).toArray C2 (fun b' => ∀ v', C2 v' → Q .normal b' v') l b) [o1, o0, o2] a w.drew) :
 (Code.region id (o0 :: o1 :: o2 :: l).toArray true).wp P Q a w :=
 wp_region_any hm (Nc hB (by simp) (by simp) (by simp) (by simp) (fun j => by rw [Nat.add_comm]; simp) h01 h10)
end
end
section
open Go.RowKit
theorem zh (c : jF) (x : Value) (left : Int) (w : World) (lo hi : Nat) (h : fA w lo hi jF.ay x c) (hhi : hi ≤ w.heap.size) (hl0 : 0 ≤ left) (hl1 : left ≤ 1048576) (hf : c.Fits) :
 Calls Tryz.prog 63 #[x, .int .i64 left] w fun e w' => e = .returned (.int .i64 (leftOf left c.dX)) ∧ Below w.heap.size w w' := by
 obtain rfl := jF.form h
 have fname : c.name.size ≤ 9223372036854775807 := hf
 have HB : Hid (c.dX = c.name.size) := rfl
 have hw0 : Below w.heap.size w (w.alloc (.cells #[Value.string c.name, .int .i64 c.params, .int .i64 c.slots, .int .i64 c.entry] 127)) := bA _ _
 by_cases OY : left < (c.name.size : Nat)
 ·go_enter Tryz.func63, Tryz.ntmps63
  go_wp2_with fail
  go_ret
  exact ⟨eX (dM (by have := HB.out; omega)).symm, hw0⟩
 go_enter Tryz.func63, Tryz.ntmps63
 go_wp2_with fail
 go_ret
 exact ⟨eX (by rw [ep (by have := HB.out; omega)]; have := HB.out; omega), hw0⟩
theorem yM (l : List jF) (v : Value) (left : Int) (w : World) (lo hi : Nat) (h : dz w lo hi 4 jF.ay v l) (hhi : hi ≤ w.heap.size) (hl0 : 0 ≤ left) (hl1 : left ≤ 1048576) (hf : ∀ c ∈ l, c.Fits) :
 Calls Tryz.prog 26 #[v, .int .i64 left] w fun e w' => e = .returned (.int .i64 (leftOf left (l.length + sumOf jF.dX l))) ∧ Below w.heap.size w w' := by
 obtain ⟨A, cap, rfl, hc1, hc2⟩ := h.shape
 unfold maxLen at hc2
 have HF := lH hf
 clear hf
 by_cases hn : left < l.length
 ·go_enter Tryz.func26, Tryz.ntmps26
  go_wp2_with fail
  go_ret
  exact ⟨eX (dM (by omega)).symm, bR _ _⟩
 go_enter Tryz.func26, Tryz.ntmps26
 go_wp2_with fail
 go_loopw [1, 5] (fun t i wr => ∃ k : Nat, k ≤ l.length ∧ i = .int .i64 k ∧ t = .int .i64 (left - l.length - sumOf jF.dX (l.take k)) ∧ sumOf jF.dX (l.take k) ≤ left - l.length ∧ Below w.heap.size w wr) (fun _ i _ => l.length - (intOf i).toNat)
 case atStart => exact ⟨0, nZ _, rfl, by simp [sumOf], by simp [sumOf]; omega, bR _ _⟩
 case round =>
  obtain ⟨k, hk, rfl, rfl, hle, hb⟩ := hrel
  obtain ⟨wo, rfl⟩ := nW wr
  have hz := hb.size
  by_cases hlt : k < l.length
  ·obtain ⟨c, hc⟩ : ∃ c, l[k]? = some c := ⟨_, gE hlt⟩
   obtain ⟨g, off, rfl, hg1, hg2, hmem, hrep, q0, q1, q2, q3⟩ := jF.at_ (h.below hb hhi) hc
   have HB := lH (rM (b := jF.dX) hc)
   have hft := HF.out c hmem
   clear hc hmem
   go_wp2_with fail
   refine (zh c _ _ _ _ _ hrep (by omega) (by omega) (by omega) hft).mono ?_; rintro e w1 ⟨rfl, hb1⟩
   have hb2 := hb.trans (hb1.mono hz)
   clear hrep q0 q1 q2 q3
   by_cases hk1 : left - l.length - sumOf jF.dX (l.take k) < c.dX
   ·rw [dM hk1]
    go_wp2_with fail
    go_ret
    exact ⟨eX (dM (by have := HB.out; have := pX jF.dX l (k + 1); omega)).symm, hb2⟩
   ·rw [ep hk1]
    go_wp2_with fail
    go_roundw
    case rel => exact ⟨k + 1, by omega, by go_num, by rw [HB.out]; go_num, by rw [HB.out]; omega, hb2⟩
    case measure => simp [intOf]; omega
  ·obtain rfl : k = l.length := by omega
   rw [List.take_length] at hle ⊢
   go_wp2_with fail
   go_ret
   exact ⟨eX (by rw [ep (by omega)]; omega), hb⟩
end
section
open Go.RowKit
theorem AJ (c : aQ) (x : Value) (left : Int) (w : World) (lo hi : Nat) (h : fA w lo hi aQ.ay x c) (hhi : hi ≤ w.heap.size) (hl0 : 0 ≤ left) (hl1 : left ≤ 1048576) (hf : c.Fits) :
 Calls Tryz.prog 13 #[x, .int .i64 left] w fun e w' => e = .returned (.int .i64 (leftOf left c.dX)) ∧ Below w.heap.size w w' := by
 obtain rfl := aQ.form h
 have Rx : c.text.size ≤ 9223372036854775807 := hf
 have HB : Hid (c.dX = c.text.size) := rfl
 have hw0 : Below w.heap.size w (w.alloc (.cells #[Value.int .i64 c.kind, .int .i64 c.number, .int .i64 c.index, .string c.text, .int .i64 c.eB, .int .i64 c.dW] 38)) := bA _ _
 by_cases OZ : left < (c.text.size : Nat)
 ·go_enter Tryz.func13, Tryz.ntmps13
  go_wp2_with fail
  go_ret
  exact ⟨eX (dM (by have := HB.out; omega)).symm, hw0⟩
 go_enter Tryz.func13, Tryz.ntmps13
 go_wp2_with fail
 go_ret
 exact ⟨eX (by rw [ep (by have := HB.out; omega)]; have := HB.out; omega), hw0⟩
theorem rU (l : List aQ) (v : Value) (left : Int) (w : World) (lo hi : Nat) (h : dz w lo hi 6 aQ.ay v l) (hhi : hi ≤ w.heap.size) (hl0 : 0 ≤ left) (hl1 : left ≤ 1048576) (hf : ∀ c ∈ l, c.Fits) :
 Calls Tryz.prog 31 #[v, .int .i64 left] w fun e w' => e = .returned (.int .i64 (leftOf left (l.length + sumOf aQ.dX l))) ∧ Below w.heap.size w w' := by
 obtain ⟨A, cap, rfl, hc1, hc2⟩ := h.shape
 unfold maxLen at hc2
 have HF := lH hf
 clear hf
 by_cases hn : left < l.length
 ·go_enter Tryz.func31, Tryz.ntmps31
  go_wp2_with fail
  go_ret
  exact ⟨eX (dM (by omega)).symm, bR _ _⟩
 go_enter Tryz.func31, Tryz.ntmps31
 go_wp2_with fail
 go_loopw [1, 5] (fun t i wr => ∃ k : Nat, k ≤ l.length ∧ i = .int .i64 k ∧ t = .int .i64 (left - l.length - sumOf aQ.dX (l.take k)) ∧ sumOf aQ.dX (l.take k) ≤ left - l.length ∧ Below w.heap.size w wr) (fun _ i _ => l.length - (intOf i).toNat)
 case atStart => exact ⟨0, nZ _, rfl, by simp [sumOf], by simp [sumOf]; omega, bR _ _⟩
 case round =>
  obtain ⟨k, hk, rfl, rfl, hle, hb⟩ := hrel
  obtain ⟨wo, rfl⟩ := nW wr
  have hz := hb.size
  by_cases hlt : k < l.length
  ·obtain ⟨c, hc⟩ : ∃ c, l[k]? = some c := ⟨_, gE hlt⟩
   obtain ⟨g, off, rfl, hg1, hg2, hmem, hrep, q0, q1, q2, q3, q4, q5⟩ := aQ.at_ (h.below hb hhi) hc
   have HB := lH (rM (b := aQ.dX) hc)
   have hft := HF.out c hmem
   clear hc hmem
   go_wp2_with fail
   refine (AJ c _ _ _ _ _ hrep (by omega) (by omega) (by omega) hft).mono ?_; rintro e w1 ⟨rfl, hb1⟩
   have hb2 := hb.trans (hb1.mono hz)
   clear hrep q0 q1 q2 q3 q4 q5
   by_cases hk1 : left - l.length - sumOf aQ.dX (l.take k) < c.dX
   ·rw [dM hk1]
    go_wp2_with fail
    go_ret
    exact ⟨eX (dM (by have := HB.out; have := pX aQ.dX l (k + 1); omega)).symm, hb2⟩
   ·rw [ep hk1]
    go_wp2_with fail
    go_roundw
    case rel => exact ⟨k + 1, by omega, by go_num, by rw [HB.out]; go_num, by rw [HB.out]; omega, hb2⟩
    case measure => simp [intOf]; omega
  ·obtain rfl : k = l.length := by omega
   rw [List.take_length] at hle ⊢
   go_wp2_with fail
   go_ret
   exact ⟨eX (by rw [ep (by omega)]; omega), hb⟩
end
end Go.Proofs.YtoddlphekcihgaaGreatDoor
