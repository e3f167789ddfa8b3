/- WS: the plain words, and how a value reads as one. No program. Unit: the plain words, and how a value reads as one. No program. Xm of rows of the c -/
import Derived.Test.YthbcamfejgghhaaGreatDoorQ05
import Derived.Test.YthbcamfejgghhaaGreatDoorQ14
set_option maxRecDepth 100000
set_option maxHeartbeats 8000000
set_option linter.unusedVariables false
set_option linter.unusedSimpArgs false
namespace Go.Proofs.YthbcamfejgghhaaGreatDoor
open Go.IntKind (i64)
section
open Go.RowKit
structure iU where
 name : ByteArray
 params : List ByteArray
 locals : List ByteArray
 body : aH
 line : Int
abbrev iU.bQ (c : iU) : Int := c.body.kind
abbrev iU.bU (c : iU) : ByteArray := c.body.text
abbrev iU.aZ (c : iU) : Int := c.body.number
abbrev iU.bV (c : iU) : Int := c.body.line
abbrev iU.aT (c : iU) : List aH := c.body.kids
def iU.aG (c : iU) : List Dat := [.str c.name, .row 1 c.params.length (flat aR c.params), .row 1 c.locals.length (flat aR c.locals), .int i64 c.bQ, .str c.bU, .int i64 c.aZ, .int i64 c.bV, .row 5 c.aT.length (flat aH.aG c.aT), .int i64 c.line]
theorem iU.eD (c : iU) : c.aG.length = 9 := rfl
section
variable {w : World} {lo hi : Nat} {x : Value} {c : iU}
theorem iU.form (h : dZ w lo hi iU.aG x c) : ∃ nD nparams nG kZ dY dD, x = .agg (dG c.name nD c.params.length nparams nG c.locals.length kZ c.bQ c.bU c.aZ c.bV dY c.aT.length dD c.line) ∧ aW w lo hi 1 aR (.slice nD c.params.length nparams) c.params ∧ c.params.length ≤ nparams ∧ nparams ≤ maxLen ∧ aW w lo hi 1 aR (.slice nG c.locals.length kZ) c.locals ∧ c.locals.length ≤ kZ ∧ kZ ≤ maxLen ∧ aW w lo hi 5 aH.aG (.slice dY c.aT.length dD) c.aT ∧ c.aT.length ≤ dD ∧ dD ≤ maxLen := by
 obtain ⟨cs, rfl, h1⟩ := h
 unfold iU.aG at h1
 obtain ⟨v0, t0, rfl, a0, h1⟩ := h1.out
 obtain ⟨v1, t1, rfl, a1, h1⟩ := h1.out
 obtain ⟨v2, t2, rfl, a2, h1⟩ := h1.out
 obtain ⟨v3, t3, rfl, a3, h1⟩ := h1.out
 obtain ⟨v4, t4, rfl, a4, h1⟩ := h1.out
 obtain ⟨v5, t5, rfl, a5, h1⟩ := h1.out
 obtain ⟨v6, t6, rfl, a6, h1⟩ := h1.out
 obtain ⟨v7, t7, rfl, a7, h1⟩ := h1.out
 obtain ⟨v8, t8, rfl, a8, h1⟩ := h1.out
 obtain rfl := h1.jc
 obtain rfl := a0.oq
 obtain ⟨A1, c1, rfl, g1, k1⟩ := aW.shape (f := aR) a1
 obtain ⟨A2, c2, rfl, g2, k2⟩ := aW.shape (f := aR) a2
 obtain rfl := a3.iF
 obtain rfl := a4.oq
 obtain rfl := a5.iF
 obtain rfl := a6.iF
 obtain ⟨A7, c7, rfl, g7, k7⟩ := aW.shape (f := aH.aG) a7
 obtain rfl := a8.iF
 exact ⟨A1, c1, A2, c2, A7, c7, rfl, a1, g1, k1, a2, g2, k2, a7, g7, k7⟩
theorem iU.mk_ {nD : Option Addr} {nparams : Nat} (TA : aW w lo hi 1 aR (.slice nD c.params.length nparams) c.params) {nG : Option Addr} {kZ : Nat} (TB : aW w lo hi 1 aR (.slice nG c.locals.length kZ) c.locals) {dY : Option Addr} {dD : Nat} (qy : aW w lo hi 5 aH.aG (.slice dY c.aT.length dD) c.aT) : dZ w lo hi iU.aG (.agg (dG c.name nD c.params.length nparams nG c.locals.length kZ c.bQ c.bU c.aZ c.bV dY c.aT.length dD c.line)) c :=
 ⟨[_, _, _, _, _, _, _, _, _], rfl, .aN .mkStr (.aN TA (.aN TB (.aN .mkInt (.aN .mkStr (.aN .mkInt (.aN .mkInt (.aN qy (.aN .mkInt .eO))))))))⟩
theorem iU.rows {nD : Option Addr} {nparams : Nat} {nG : Option Addr} {kZ : Nat} {dY : Option Addr} {dD : Nat} (h : dZ w lo hi iU.aG (.agg (dG c.name nD c.params.length nparams nG c.locals.length kZ c.bQ c.bU c.aZ c.bV dY c.aT.length dD c.line)) c) : aW w lo hi 1 aR (.slice nD c.params.length nparams) c.params ∧ aW w lo hi 1 aR (.slice nG c.locals.length kZ) c.locals ∧ aW w lo hi 5 aH.aG (.slice dY c.aT.length dD) c.aT := by
 obtain ⟨X0, y0, X1, y1, X2, y2, hx, l0, _, _, l1, _, _, l2, _, _⟩ := iU.form h
 exact Gj
theorem iU.at_ {A : Option Addr} {cap j : Nat} {l : List iU} (h : aW w lo hi 9 iU.aG (.slice A l.length cap) l) (hc : l[j]? = some c) :
 ∃ g off nD nparams nG kZ dY dD, A = some ⟨g, off, none⟩ ∧ lo ≤ g ∧ g < hi ∧ c ∈ l ∧ dZ w lo hi iU.aG (.agg (dG c.name nD c.params.length nparams nG c.locals.length kZ c.bQ c.bU c.aZ c.bV dY c.aT.length dD c.line)) c ∧ w.cell? (aj g (off + j * 9)) = some (.string c.name) ∧ w.cell? (aj g (off + j * 9 + 1)) = some (.slice nD c.params.length nparams) ∧ w.cell? (aj g (off + j * 9 + 2)) = some (.slice nG c.locals.length kZ) ∧ w.cell? (aj g (off + j * 9 + 3)) = some (.int i64 c.bQ) ∧ w.cell? (aj g (off + j * 9 + 4)) = some (.string c.bU) ∧ w.cell? (aj g (off + j * 9 + 5)) = some (.int i64 c.aZ) ∧ w.cell? (aj g (off + j * 9 + 6)) = some (.int i64 c.bV) ∧ w.cell? (aj g (off + j * 9 + 7)) = some (.slice dY c.aT.length dD) ∧ w.cell? (aj g (off + j * 9 + 8)) = some (.int i64 c.line) := by
 obtain ⟨g, off, us, hA, h1, h2, h3, h4, h5⟩ := h.elem iU.eD hc
 obtain ⟨B0, m0, B1, m1, B2, m2, hx, l0, _, _, l1, _, _, l2, _, _⟩ := iU.form (w := w) (lo := lo) (hi := hi) (c := c) (x := .agg us.toArray) ⟨us, rfl, h4⟩
 injection hx with hx
 obtain rfl : us = [_, _, _, _, _, _, _, _, _] := congrArg Array.toList hx
 exact ⟨g, off, B0, m0, B1, m1, B2, m2, hA, h1, h2, mG hc, iU.mk_ l0 l1 l2, h5 0 _ rfl, h5 1 _ rfl, h5 2 _ rfl, h5 3 _ rfl, h5 4 _ rfl, h5 5 _ rfl, h5 6 _ rfl, h5 7 _ rfl, h5 8 _ rfl⟩
end
end
section
open Go.RowKit
structure fE where
 records : List ep
 globals : List ByteArray
 procedures : List iU
def fE.aG (c : fE) : List Dat := [.row 3 c.records.length (flat ep.aG c.records), .row 1 c.globals.length (flat aR c.globals), .row 9 c.procedures.length (flat iU.aG c.procedures)]
theorem fE.eD (c : fE) : c.aG.length = 3 := rfl
section
variable {w : World} {lo hi : Nat} {x : Value} {c : fE}
theorem fE.form (h : dZ w lo hi fE.aG x c) : ∃ bM bG bK bC iQ iw, x = .agg (aQ bM c.records.length bG bK c.globals.length bC iQ c.procedures.length iw) ∧ aW w lo hi 3 ep.aG (.slice bM c.records.length bG) c.records ∧ c.records.length ≤ bG ∧ bG ≤ maxLen ∧ aW w lo hi 1 aR (.slice bK c.globals.length bC) c.globals ∧ c.globals.length ≤ bC ∧ bC ≤ maxLen ∧ aW w lo hi 9 iU.aG (.slice iQ c.procedures.length iw) c.procedures ∧ c.procedures.length ≤ iw ∧ iw ≤ maxLen := by
 obtain ⟨cs, rfl, h1⟩ := h
 unfold fE.aG at h1
 obtain ⟨v0, t0, rfl, a0, h1⟩ := h1.out
 obtain ⟨v1, t1, rfl, a1, h1⟩ := h1.out
 obtain ⟨v2, t2, rfl, a2, h1⟩ := h1.out
 obtain rfl := h1.jc
 obtain ⟨A0, c0, rfl, g0, k0⟩ := aW.shape (f := ep.aG) a0
 obtain ⟨A1, c1, rfl, g1, k1⟩ := aW.shape (f := aR) a1
 obtain ⟨A2, c2, rfl, g2, k2⟩ := aW.shape (f := iU.aG) a2
 exact ⟨A0, c0, A1, c1, A2, c2, rfl, a0, g0, k0, a1, g1, k1, a2, g2, k2⟩
theorem fE.mk_ {bM : Option Addr} {bG : Nat} (ql : aW w lo hi 3 ep.aG (.slice bM c.records.length bG) c.records) {bK : Option Addr} {bC : Nat} (qm : aW w lo hi 1 aR (.slice bK c.globals.length bC) c.globals) {iQ : Option Addr} {iw : Nat} (KM : aW w lo hi 9 iU.aG (.slice iQ c.procedures.length iw) c.procedures) : dZ w lo hi fE.aG (.agg (aQ bM c.records.length bG bK c.globals.length bC iQ c.procedures.length iw)) c :=
 ⟨[_, _, _], rfl, .aN ql (.aN qm (.aN KM .eO))⟩
theorem fE.rows {bM : Option Addr} {bG : Nat} {bK : Option Addr} {bC : Nat} {iQ : Option Addr} {iw : Nat} (h : dZ w lo hi fE.aG (.agg (aQ bM c.records.length bG bK c.globals.length bC iQ c.procedures.length iw)) c) : aW w lo hi 3 ep.aG (.slice bM c.records.length bG) c.records ∧ aW w lo hi 1 aR (.slice bK c.globals.length bC) c.globals ∧ aW w lo hi 9 iU.aG (.slice iQ c.procedures.length iw) c.procedures := by
 obtain ⟨X0, y0, X1, y1, X2, y2, hx, l0, _, _, l1, _, _, l2, _, _⟩ := fE.form h
 exact Gj
theorem fE.at_ {A : Option Addr} {cap j : Nat} {l : List fE} (h : aW w lo hi 3 fE.aG (.slice A l.length cap) l) (hc : l[j]? = some c) :
 ∃ g off bM bG bK bC iQ iw, A = some ⟨g, off, none⟩ ∧ lo ≤ g ∧ g < hi ∧ c ∈ l ∧ dZ w lo hi fE.aG (.agg (aQ bM c.records.length bG bK c.globals.length bC iQ c.procedures.length iw)) c ∧ w.cell? (aj g (off + j * 3)) = some (.slice bM c.records.length bG) ∧ w.cell? (aj g (off + j * 3 + 1)) = some (.slice bK c.globals.length bC) ∧ w.cell? (aj g (off + j * 3 + 2)) = some (.slice iQ c.procedures.length iw) := by
 obtain ⟨g, off, us, hA, h1, h2, h3, h4, h5⟩ := h.elem fE.eD hc
 obtain ⟨B0, m0, B1, m1, B2, m2, hx, l0, _, _, l1, _, _, l2, _, _⟩ := fE.form (w := w) (lo := lo) (hi := hi) (c := c) (x := .agg us.toArray) ⟨us, rfl, h4⟩
 injection hx with hx
 obtain rfl : us = [_, _, _] := congrArg Array.toList hx
 exact ⟨g, off, B0, m0, B1, m1, B2, m2, hA, h1, h2, mG hc, fE.mk_ l0 l1 l2, h5 0 _ rfl, h5 1 _ rfl, h5 2 _ rfl⟩
end
end
section
open Go Go.RowKit
theorem pY {w : World} {base : Nat} {e : TypeId} {size n g cap p i : Nat} {va ue vb : List Value} {u : Value} (h : w.ownsRow base e size (.slice (some (aj g 0)) n cap) n (va ++ (ue ++ vb))) (hva : va.length = p) (hp : p + i < n * size) (hu : ue[i]? = some u) : w.cell? (aj g (p + i)) = some u := by
 rw [h.cellAt _ hp, List.getElem?_append_right ah, show p + i - va.length = i by omega, List.getElem?_append_left (List.getElem?_eq_some_iff.1 hu).1, hu]
theorem dK.elem {w : World} {K n j : Nat} {A e B : List Dat} {F : List Nat} {v : Value} (h : dK w (.row K n (A ++ (e ++ B))) F v) (hj : j < n) (hA : A.length = j * K) (he : e.length = K) :
 ∃ g cap t F1 Fe F2 va ue vb, v = .slice (some (aj g 0)) n cap ∧ F = g :: (F1 ++ (Fe ++ F2)) ∧ w.ownsRow 0 t K (.slice (some (aj g 0)) n cap) n (va ++ (ue ++ vb)) ∧ va.length = j * K ∧ ue.length = K ∧ aO w A F1 va ∧ aO w e Fe ue ∧ aO w B F2 vb := by
 obtain ⟨t, vs, F', h1, rfl, h3⟩ := h.uG
 obtain ⟨g, cap, rfl, -⟩ := h1.form ah
 obtain ⟨F1, F'', va, v'', rfl, rfl, h4, h5⟩ := h3.parts
 obtain ⟨Fe, F2, ue, vb, rfl, rfl, h6, h7⟩ := h5.parts
 exact ⟨g, cap, t, F1, Fe, F2, va, ue, vb, rfl, rfl, h1, by rw [h4.len, hA], by rw [h6.len, he], h4, h6, h7⟩
theorem dK.put {w : World} {t : TypeId} {K n g cap : Nat} {A e B : List Dat} {F1 Fe F2 : List Nat} {va ue vb : List Value} (h : w.ownsRow 0 t K (.slice (some (aj g 0)) n cap) n (va ++ (ue ++ vb))) (h1 : aO w A F1 va) (h2 : aO w e Fe ue) (h3 : aO w B F2 vb) :
 dK w (.row K n (A ++ (e ++ B))) (g :: (F1 ++ (Fe ++ F2))) (.slice (some (aj g 0)) n cap) := dK.iV h (h1.app (h2.app h3))
theorem MN {g : Nat} {F1 Fe F2 : List Nat} (h : (g :: (F1 ++ (Fe ++ F2))).Nodup) : Fe.Nodup ∧ g ∉ Fe ∧ (∀ b ∈ F1, b ∉ Fe) ∧ (∀ b ∈ F2, b ∉ Fe) ∧ (∀ b ∈ F1, b ≠ g) ∧ (∀ b ∈ F2, b ≠ g) ∧ (∀ b ∈ Fe, b ≠ g) := by
 rw [List.nodup_cons, List.nodup_append, List.nodup_append] at h
 obtain ⟨h1, h2, ⟨h3, h4, h5⟩, h6⟩ := h
 refine ⟨h3, fun hg => h1 mZ, fun b hb he => h6 b hb b (by simp [he]) rfl, fun b hb he => h5 b he b hb rfl, ?_, ?_, ?_⟩ <;> rintro b hb rfl <;> exact h1 oN
theorem KN {g b : Nat} {F1 Fe F2 : List Nat} (h : b ∈ g :: Fe) : b ∈ g :: (F1 ++ (Fe ++ F2)) := by
 simp only [List.mem_cons, List.mem_append] at h ⊢
 rcases h with h | h
 ·exact .inl h
 exact .inr (.inr (.inl h))
theorem ak.pK {w : World} {c : ak} {F : List Nat} {vs : List Value} (h : aO w c.aG F vs) : ∃ qW pN KO, F = KO ∧ vs = [Value.int i64 c.kind, .int i64 c.op, .int i64 c.number, .int i64 c.line, .string c.text, .slice qW c.kids.length pN] ∧ dK w (.row 6 c.kids.length (flat ak.aG c.kids)) KO (.slice qW c.kids.length pN) := by
 rw [ak.mX] at h
 obtain ⟨G0, H0, v0, t0, rfl, rfl, a0, h⟩ := h.out
 obtain ⟨G1, H1, v1, t1, rfl, rfl, a1, h⟩ := h.out
 obtain ⟨G2, H2, v2, t2, rfl, rfl, a2, h⟩ := h.out
 obtain ⟨G3, H3, v3, t3, rfl, rfl, a3, h⟩ := h.out
 obtain ⟨G4, H4, v4, t4, rfl, rfl, a4, h⟩ := h.out
 obtain ⟨G5, H5, v5, t5, rfl, rfl, a5, h⟩ := h.out
 obtain ⟨rfl, rfl⟩ := h.jc
 obtain ⟨rfl, rfl⟩ := a0.iF
 obtain ⟨rfl, rfl⟩ := a1.iF
 obtain ⟨rfl, rfl⟩ := a2.iF
 obtain ⟨rfl, rfl⟩ := a3.iF
 obtain ⟨rfl, rfl⟩ := a4.oq
 obtain ⟨A5, c5, rfl, -, -⟩ := aW.shape (f := ak.aG) (a5.rep (lo := 0) (hi := w.heap.size) fun g hg => ⟨nZ _, a5.lt g hg⟩)
 exact ⟨A5, c5, G5, av, rfl, a5⟩
theorem ak.ownIn {w : World} {c : ak} {Rz : Value} {KO : List Nat} (Rq : dK w (.row 6 c.kids.length (flat ak.aG c.kids)) KO Rz) : aO w c.aG KO [Value.int i64 c.kind, .int i64 c.op, .int i64 c.number, .int i64 c.line, .string c.text, Rz] := by
 have H : aO w [.int i64 c.kind, .int i64 c.op, .int i64 c.number, .int i64 c.line, .str c.text, .row 6 c.kids.length (flat ak.aG c.kids)] _ [.int i64 c.kind, .int i64 c.op, .int i64 c.number, .int i64 c.line, .string c.text, Rz] := (aO.aN .mkInt (aO.aN .mkInt (aO.aN .mkInt (aO.aN .mkInt (aO.aN .mkStr (aO.aN Rq (aO.eO (w := w))))))))
 rw [ak.mX]; simpa using H
end
section
open Go Go.RowKit
theorem iK : (Tryz.prog.info? 9).map (fun i => (i.zero, i.size, i.bytes)) = some (some (.string aC), 1, 16) := aI
theorem qY {w : World} {B K n : Nat} {e : TypeId} {vs : List Value} (hv : vs.length = n * K) (hB : B ≤ w.heap.size) (hn : n ≤ maxLen) : (w.alloc (.cells vs.toArray e)).ownsRow B e K (.slice (some (aj w.heap.size 0)) n n) n vs :=
 ⟨hv, .inr ⟨w.heap.size, n, vs.toArray, rfl, hB, heap_alloc_new w _, nR _, hn, by simp [hv], by simp [← hv]⟩⟩
theorem qZ {w w' : World} {B K n p : Nat} {e : TypeId} {v : Value} {vs : List Value} (h : w.ownsRow B e K v n vs) (hg : w.grownBy w' (some p)) (hp : p < B) : w'.ownsRow B e K v n vs :=
 dR h fun g hv => hg.block g (h.lt g hv).2 (fun e => by injection e with e; have := (h.lt g hv).1; omega)
def RA (p : Nat) (ts : List eX) (a : Nat) (bad : Int) (w : World) (e : Ending) (w' : World) : Prop :=
 ∃ l A n a' mR, e = .returned (.slice A (List.length l) n) ∧ Mv p ts w a bad false w' a' mR ∧ List.length l ≤ a' - a + 1 ∧ (∀ s ∈ l, ByteArray.size s ≤ 100000) ∧ w'.ownsRow w.heap.size 9 1 (.slice A (List.length l) n) (List.length l) (List.map Value.string l)
theorem Dj {l : List ByteArray} {s : ByteArray} (h : ∀ x ∈ l, x.size ≤ 100000) (hs : s.size ≤ 100000) : ∀ x ∈ l ++ [s], x.size ≤ 100000 := fun x hx => by
 rcases mA hx with hx | hx
 ·exact h x hx
 rw [mS hx]; exact hs
theorem tH {p : Nat} {ts : List eX} {a : Nat} {bad : Int} {w : World} (h : Ps p ts w a bad) (hT : wM ts) :
 Calls Tryz.prog 119 #[.pointer (some (aj p 0))] w (RA p ts a bad w) := by
 have H := lH h
 have HT := lH hT
 have lp := h.lt
 have hl := hT.len
 clear h hT
 go_in
 go_wp2_with fail
 refine (mM H.out HT.out).mono ?_
 rintro e w1 ⟨s, a1, gZ, rfl, hs, hmv, hle⟩
 have hM := lH ((hmv.weak).below ((bR w1.heap.size w1).alloc (nR _) (.cells #[.string s] 9)))
 have own : Hid ((w1.alloc (.cells #[.string s] 9)).ownsRow w.heap.size 9 1 (.slice (some (aj w1.heap.size 0)) 1 1) 1 [.string s]) := qY (vs := [.string s]) rfl hmv.size jG
 have HS := lH hs
 clear hmv hs
 go_wp2_with fail
 go_loopg [3] (ts.length - a1) (fun gk v wx => ∃ (l : List ByteArray) (A : Option Addr) (n a2 : Nat) (j5 : Int), v = .slice A l.length n ∧ Hid (wx.ownsRow w.heap.size 9 1 (.slice A l.length n) l.length (l.map .string)) ∧ Hid (Mv p ts w a bad false wx a2 j5) ∧ Hid (∀ x ∈ l, x.size ≤ 100000) ∧ Hid (l.length ≤ a2 - a + 1) ∧ gk = ts.length - a2)
 case atStart => exact ⟨[s], _, _, a1, gZ, rfl, own, hM, lH (fun x hx => by rw [mS hx]; exact HS.out), lH av, rfl⟩
 clear hM own
 obtain ⟨l, A, n, a2, j5, rfl, hown, hM, hO, hln, rfl⟩ := hrel
 have ha2 := hM.out.top
 have hla := hM.out.le
 go_wp2_with fail
 refine (dP _ hM.out.ps HT.out).mono ?_
 rintro e w2 ⟨b, a3, rfl, hmv, hb, ha3, hle3⟩
 have hM3 := lH (hM.out.step hmv)
 have hown3 := lH (qZ hown.out hmv.gr lp)
 have HON := lH hmv.on
 have HB := lH hb
 have hl3 := hmv.le
 have ht3 := hmv.top
 clear hmv ha3 hb hown
 cases b with
 | true =>
   have h0 : j5 = 0 := HB.out rfl
   have h3 := HON.out rfl h0
   have hs2 := hM3.out.size
   have HH0 := lH h0
   clear h0
   go_wp2_with fail
   refine (mM hM3.out.ps HT.out).mono ?_
   rintro e w4 ⟨s4, a4, Bt, rfl, hs4, hmv, TC⟩
   have hM4 := lH (hM3.out.step hmv)
   have RB := qZ hown3.out hmv.gr lp
   have ae6 := hmv.size
   have hl4 := hmv.le
   have ht4 := hmv.top
   have HS4 := lH hs4
   have hroom := hln.out
   clear hmv hs4 hown3
   go_wp2_with (first | (at_builtin; refine dO rfl _ _ 26 aM 9 _ 1 16 iK Tryz.underlying26 aM aA aA w.heap.size _ _ _ aM RB _ 1 _ aM aM eZ ah ah ?_) | fail)
   rintro v' w5 kD hgr hat
   obtain ⟨A', n', rfl, -⟩ := (Rds.dU kD).shape
   have hM5 := lH (hM4.out.own lp hgr (fun g hg => (RB.lt g hg).1))
   have hown5 := lH kD
   clear RB kD hgr hat
   go_wp2_with fail
   go_roundg (ts.length - a4)
   case measure => omega
   exact ⟨l ++ [s4], A', n', a4, _, av, lH (by simpa using hown5.out), lH (by simpa using hM5.out.weak), lH (Dj hO.out HS4.out), lH aJ, rfl⟩
 | false =>
   go_wp2_with fail
   go_ret
   exact ⟨l, A, n, a3, _, rfl, by simpa using hM3.out, by have := hln.out; omega, hO.out, hown3.out⟩
theorem wZ {p : Nat} {ts : List eX} {a : Nat} {bad : Int} {w : World} (h : Ps p ts w a bad) (hT : wM ts) :
 Calls Tryz.prog 118 #[.pointer (some (aj p 0))] w (RA p ts a bad w) := by
 have H := lH h
 have HT := lH hT
 have lp := h.lt
 clear h hT
 go_in
 go_wp2_with fail
 refine (iP _ H.out HT.out).mono ?_
 rintro e w1 ⟨a1, gZ, rfl, hmv, hle⟩
 have hM := lH ((hmv.weak).below ((bR w1.heap.size w1).alloc (nR _) (.cells #[] 9)))
 have own : Hid ((w1.alloc (.cells #[] 9)).ownsRow w.heap.size 9 1 (.slice (some (aj w1.heap.size 0)) 0 0) 0 []) := qY (vs := []) rfl hmv.size jG
 have hl1 := hmv.le
 clear hmv
 go_wp2_with fail
 refine (dP _ hM.out.ps HT.out).mono ?_
 rintro e w2 ⟨b, a2, rfl, hmv, -, -, -⟩
 have hM2 := lH (hM.out.step hmv)
 have jD := lH (qZ own.out hmv.gr lp)
 have hl2 := hmv.le
 clear hmv own hM
 cases b with
 | true =>
   go_wp2_with fail
   go_ret
   exact ⟨[], _, _, a2, _, rfl, hM2.out.weak, av, av, jD.out⟩
 | false =>
   have hs2 := hM2.out.size
   go_wp2_with fail
   refine (tH hM2.out.ps HT.out).mono ?_
   rintro e w3 ⟨l, A, n, a3, mI, rfl, hmv, hll, hsz, hown⟩
   have hM3 := lH (hM2.out.step hmv)
   have mP := lH (qx hown (base' := w.heap.size) (fun g hg => by have := (hown.lt g hg).1; omega))
   have hl3 := hmv.le
   have HSZ := lH hsz
   clear hmv hown hsz jD
   go_wp2_with fail
   refine (iP _ hM3.out.ps HT.out).mono ?_
   rintro e w4 ⟨a4, Bt, rfl, hmv, -⟩
   have hM4 := lH (hM3.out.step hmv)
   have RB := lH (qZ mP.out hmv.gr lp)
   have hl4 := hmv.le
   clear hmv mP
   go_wp2_with fail
   go_ret
   exact ⟨l, A, n, a4, _, rfl, hM4.out.weak, ah, HSZ.out, RB.out⟩
end
end Go.Proofs.YthbcamfejgghhaaGreatDoor
