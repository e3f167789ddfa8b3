/- Lex: a row of tokens, each with a line from 1 on. Of the Xf lemmas what the Pv leans on. -/
import Derived.Test.YthbcamfejgghhaaGreatDoorQ21
import Derived.Test.YthbcamfejgghhaaGreatDoorQ33
set_option maxRecDepth 100000
set_option maxHeartbeats 8000000
set_option linter.unusedVariables false
set_option linter.unusedSimpArgs false
namespace Go.Proofs.YthbcamfejgghhaaGreatDoor
open Go.IntKind (i64)
section
open Go Go.RowKit
theorem sF : (Tryz.prog.info? 171).map (fun i => (i.zero, i.size, i.bytes)) = some (some (.agg (aV 0 aC 0)), 3, 32) := aI
def eX.cells (t : eX) : List Value := [.int i64 t.kind, .string t.text, .int i64 t.line]
theorem Lv (us : List eX) : (us.flatMap eX.cells).length = us.length * 3 := by
 induction us with
 | nil => rfl
 | cons u us ih => rw [List.flatMap_cons, List.length_append, ih]; simp [eX.cells]; omega
theorem Sf (us : List eX) (y : eX) (i : Nat) : ((us ++ [y]).flatMap eX.cells)[us.length * 3 + i]? = y.cells[i]? := by
 rw [List.flatMap_append, List.getElem?_append_right (by rw [Lv]; omega), Lv, Nat.add_sub_cancel_left]
 simp
def mY (B : Nat) (v : Value) (m : Nat) (w : World) : Prop := ∃ ts : List eX, w.ownsRow B 171 3 v ts.length (ts.flatMap eX.cells) ∧ Q9 v ts.length ∧ ts.length ≤ m ∧ ∀ t ∈ ts, t.Ok
theorem mY.push {B m k : Nat} {v' : Value} {w' : World} {ts : List eX} {t : eX} {ys : List Value} (hy : ys = t.cells) (h : w'.ownsRow B 171 3 v' (ts.length + 1) (ts.flatMap eX.cells ++ ys)) (hm : ts.length ≤ m) (hk : m + 1 ≤ k) (hok : ∀ t ∈ ts, t.Ok) (ht : t.Ok) : mY B v' k w' := by
 subst hy
 refine ⟨ts ++ [t], by simpa using h, ?_, aJ, fun x hx => ?_⟩
 ·exact JC
 rcases mA hx with hx | hx
 ·exact hok x hx
 rw [mS hx]; exact ht
theorem mY.later {B m : Nat} {v : Value} {w w' : World} (h : mY B v m w) (hb : Below w.heap.size w w') : mY B v m w' := by
 obtain ⟨ts, h1, h2⟩ := h
 exact ⟨ts, fA h1 hb, h2⟩
theorem mY.wide {B m k : Nat} {v : Value} {w : World} (h : mY B v m w) (hk : m ≤ k) : mY B v k w := by
 obtain ⟨ts, h1, h2, h3, h4⟩ := h
 exact ⟨ts, h1, h2, nT h3 hk, h4⟩
def aei (w : World) (e : Ending) (w' : World) : Prop := (∃ (v : Value) (l : Int), e = .returned (.tuple #[v, l]) ∧ 0 ≤ l ∧ l ≤ 100000 ∧ (l = 0 → mY w.heap.size v 12000 w')) ∧ Below w.heap.size w w'
theorem Sg (s : ByteArray) (w : World) (hs : s.size ≤ 100000000) : Calls Tryz.prog 114 #[.string s] w (aei w) := by
 by_cases h6 : (6000 : Int) < s.size
 ·go_in
  go_wp2_with fail
  go_ret2
  exact ⟨⟨_, _, rfl, aA, aA, fun h => absurd h aA⟩, bR _ _⟩
 have hlit := World.ownsRow_lit w #[] 0 (e := 171) (size := 3) (nR _) aA rfl
 go_in
 go_wp2_with fail
 go_loopw [4, 5, 6, 7] (fun v l f i wr => ∃ (k : Nat) (ln : Int) (b : Bool), k ≤ s.size ∧ i = .int i64 k ∧ l = .int i64 ln ∧ 1 ≤ ln ∧ ln ≤ k + 1 ∧ f = .bool b ∧ mY w.heap.size v (2 * k) wr ∧ Below w.heap.size w wr) (fun _ _ _ i _ => s.size - (intOf i).toNat)
 case atStart => exact ⟨0, 1, false, nZ _, rfl, rfl, aA, aA, rfl, ⟨[], hlit, ⟨_, _, rfl⟩, nR _, av⟩, bA _ _⟩
 obtain ⟨k, ln, b, hk, rfl, rfl, hl0, hl1, rfl, hT, hb⟩ := hrel
 obtain ⟨wo, rfl⟩ := nW wr
 clear hlit
 by_cases hlt : k < s.size
 ·have q1 : (0 : Int) ≤ (k : Int) := by omega
  have q2 : (k : Int) < (s.size : Int) := ah
  cases c0 : ((s[k].toNat : Int) == 10) with
  | true =>
    go_wp2_with fail
    go_roundw
    case rel => exact ⟨k + 1, ln + 1, true, ah, by go_num, rfl, ah, ah, rfl, hT.wide ah, hb⟩
    simp [intOf]; omega
  | false =>
  cases c1 : ((s[k].toNat : Int) == 32) with
  | true =>
    exact I5
  | false =>
  cases c2 : ((s[k].toNat : Int) == 9) with
  | true =>
    exact I5
  | false =>
  cases c3 : ((s[k].toNat : Int) == 35) with
  | true =>
    go_wp2_with fail
    go_loop [7] (fun i => ∃ j : Nat, k ≤ j ∧ j ≤ s.size ∧ i = .int i64 j) (fun i => s.size - (intOf i).toNat)
    case atStart => exact ⟨k, nR _, hk, rfl⟩
    obtain ⟨j, hj, hj1, rfl⟩ := hrel
    by_cases hjl : j < s.size
    ·have z1 : (0 : Int) ≤ (j : Int) := by omega
     have z2 : (j : Int) < (s.size : Int) := ah
     cases d0 : ((s[j].toNat : Int) != 10) with
     | true =>
       go_wp2_with fail
       exact N6
     | false =>
       have hne : k < j := by
        rcases Nat.lt_or_ge k j with h | h
        ·exact h
        have e : j = k := ah
        subst e
        simp at c0 d0
        exact absurd d0 c0
       go_wp2_with fail
       go_roundw
       case rel => exact ⟨j, ln, b, hj1, rfl, rfl, hl0, ah, rfl, hT.wide ah, hb⟩
       simp [intOf]; omega
    obtain rfl : j = s.size := by omega
    go_wp2_with fail
    go_roundw
    case rel => exact ⟨s.size, ln, b, nR _, rfl, rfl, hl0, ah, rfl, hT.wide ah, hb⟩
    simp [intOf]; omega
  | false =>
    go_wp2_with fail
    refine (MX s k _ ah hlt).mono ?_
    rintro e w1 ⟨⟨kd, t, n, rfl, ht, hn⟩, hb1⟩
    have hT1 := hT.later hb1
    have hbw := hb.trans (hb1.mono hb.size)
    rcases hn with rfl | ⟨hn0, hn1⟩
    ·go_wp2_with fail
     go_ret2
     exact ⟨⟨_, _, rfl, ah, ah, fun h => absurd h ah⟩, hbw.alloc hbw.size _⟩
    obtain ⟨j, rfl⟩ : ∃ j : Nat, n = j := ⟨n.toNat, ah⟩
    obtain ⟨ts, hown, hsl, hlen, hok⟩ := hT1
    have bx := Blk.new w1 171 (aV kd t ln)
    obtain ⟨cx, lx, fx⟩ := bx.all
    have hba := hbw.alloc hbw.size (.cells (aV kd t ln) 171)
    have hoa := hown.alloc (.cells (aV kd t ln) 171)
    cases b with
    | false =>
      go_wp2_with (first | (at_builtin; refine kI (w1.heap.size + 1) av rfl _ _ 165 aM 171 _ 3 32 sF Tryz.underlying165 aM aA aA w.heap.size _ _ _ aM hoa _ 1 _ aM aM eZ ah hba.size ?_) | fail)
      rintro v' w2 ho2 hg2 -
      have hb2 := gN hba hba.size hoa hg2
      clear hown hoa cx fx lx bx
      go_wp2_with fail
      go_roundw
      case rel => exact ⟨j, ln, false, ah, rfl, rfl, hl0, ah, rfl, mY.push (t := ⟨kd, t, ln⟩) rfl ho2 hlen ah hok ⟨hl0, BQ, BR⟩, hb2⟩
      simp [intOf]; omega
    | true =>
      obtain ⟨g, cap, rfl⟩ := hsl
      rcases List.eq_nil_or_concat ts with rfl | ⟨us, y, rfl⟩
      ·simp only [List.length_nil] at hown hoa
       go_wp2_with (first | (at_builtin; refine kI (w1.heap.size + 1) av rfl _ _ 165 aM 171 _ 3 32 sF Tryz.underlying165 aM aA aA w.heap.size _ _ _ aM hoa _ 1 _ aM aM eZ ah hba.size ?_) | fail)
       rintro v' w2 ho2 hg2 -
       have hb2 := gN hba hba.size hoa hg2
       go_wp2_with fail
       go_roundw
       case rel => exact ⟨j, ln, false, ah, rfl, rfl, hl0, ah, rfl, mY.push (ts := []) (t := ⟨kd, t, ln⟩) rfl ho2 hlen ah hok ⟨hl0, BQ, BR⟩, hb2⟩
       simp [intOf]; omega
      rw [List.concat_eq_append] at hown hoa hok hlen
      have hc := fun i (hi : i < 3) => (hoa.cellAt (us.length * 3 + i) aJ).trans (Sf us y i)
      have y0 := hc 0 aA
      have y1 := hc 1 aA
      have y2 := hc 2 aA
      simp only [Nat.add_zero, eX.cells, List.getElem?_cons_zero, List.getElem?_cons_succ] at y0 y1 y2
      simp only [List.length_append, List.length_singleton] at hown hoa hlen
      clear hc
      have hok' := hok y av
      have m0 : (0 : Int) ≤ (us.length : Int) := ah
      have hgl := (hown.lt g rfl).2
      go_wp2_with fail
      refine (wJ _ _ _ _).mono ?_
      rintro e w3 ⟨b1, rfl, hb3⟩
      have bx3 := bx.below hb3 av
      have ho3 := fA hoa hb3
      have hw3 := hba.trans (hb3.mono hba.size)
      have y3 := ((hb3.cell (p := ⟨g, us.length * 3 + 2, none⟩) aJ)).trans y2
      clear cx fx lx y0 y1 y2 hown hoa bx
      obtain ⟨cx, lx, fx⟩ := bx3.all
      cases b1 with
      | false =>
        go_wp2_with (first | (at_builtin; refine kI (w3.heap.size) av rfl _ _ 165 aM 171 _ 3 32 sF Tryz.underlying165 aM aA aA w.heap.size _ _ _ aM ho3 _ 1 _ aM aM eZ ah hw3.size ?_) | fail)
        rintro v' w9 ho9 hg9 -
        have hb9 := gN hw3 hw3.size ho3 hg9
        exact Oe
      | true =>
        go_wp2_with fail
        refine (nV _ _ _ _).mono ?_
        rintro e w4 ⟨b2, rfl, hb4⟩
        have bx4 := bx3.later hb4
        have ho4 := fA ho3 hb4
        have hw4 := hw3.trans (hb4.mono hw3.size)
        have y4 := ((hb4.cell (p := ⟨g, us.length * 3 + 2, none⟩) iJ)).trans y3
        clear cx fx lx y3 ho3 bx3
        obtain ⟨cx, lx, fx⟩ := bx4.all
        cases b2 with
        | false =>
          go_wp2_with (first | (at_builtin; refine kI (w4.heap.size) av rfl _ _ 165 aM 171 _ 3 32 sF Tryz.underlying165 aM aA aA w.heap.size _ _ _ aM ho4 _ 1 _ aM aM eZ ah hw4.size ?_) | fail)
          rintro v' w9 ho9 hg9 -
          have hb9 := gN hw4 hw4.size ho4 hg9
          exact Oe
        | true =>
          go_wp2_with (first | (at_builtin; refine kI (w4.heap.size) av rfl _ _ 165 aM 171 _ 3 32 sF Tryz.underlying165 aM aA aA w.heap.size _ _ _ aM ho4 _ 1 _ aM aM eZ ah hw4.size ?_) | fail)
          rintro v5 w5 ho5 hg5 -
          have hb5 := gN hw4 hw4.size ho4 hg5
          have bx5 := bx4.grown hg5 (fun e => by have e : some w1.heap.size = some g := e; injection e with e; omega)
          clear cx fx lx y4 ho4 bx4
          obtain ⟨cx, lx, fx⟩ := bx5.all
          go_wp2_with (first | (at_builtin; refine kI (w5.heap.size) av rfl _ _ 165 aM 171 _ 3 32 sF Tryz.underlying165 aM aA aA w.heap.size _ _ _ aM ho5 _ 1 _ aM aM eZ ah hb5.size ?_) | fail)
          rintro v' w9 ho9 hg9 -
          have hb9 := gN hb5 hb5.size ho5 hg9
          go_wp2_with fail
          go_roundw
          case rel =>
           refine ⟨j, ln, false, ah, rfl, rfl, hl0, ah, rfl, mY.push (ts := us ++ [y] ++ [⟨7, ⟨#[59]⟩, y.line⟩]) (m := 2 * k + 1) (t := ⟨kd, t, ln⟩) rfl (by simpa [eX.cells] using ho9) aJ ah (fun x hx => ?_) ⟨hl0, BQ, BR⟩, hb9⟩
           rcases mA hx with hx | hx
           ·exact hok x hx
           rw [mS hx]; exact ⟨hok'.1, hok'.2.1, (by show (ByteArray.mk #[59]).size ≤ 100000; decide)⟩
          simp [intOf]; omega
 obtain rfl : k = s.size := by omega
 go_wp2_with fail
 go_ret2
 exact ⟨⟨_, _, rfl, aA, aA, fun _ => hT.wide ah⟩, hb⟩
end
section
open Go Go.RowKit
theorem AJ : (Tryz.prog.info? 9).map (fun i => (i.zero, i.size, i.bytes)) = some (some (.string aC), 1, 16) := aI
theorem QA : (Tryz.prog.info? 78).map (fun i => (i.zero, i.size, i.bytes)) = some (some (.agg (dS aC none 0 0 0)), 3, 48) := aI
theorem QB : (Tryz.prog.info? 45).map (fun i => (i.zero, i.size, i.bytes)) = some (some (.agg (fU aC 0 none 0 0 0 0 0 0 aC none 0 0)), 9, 120) := aI
structure Fr (F : List Nat) (w w' : World) : Prop where
 os : w'.os = w.os
 tape : w'.tape = w.tape
 output : w'.output = w.output
 size : w.heap.size ≤ w'.heap.size
 block : ∀ b, b < w.heap.size → b ∉ F → w'.heap[b]? = w.heap[b]?
section
variable {F G : List Nat} {w w' w2 : World} {B : Nat}
theorem Fr.refl (F : List Nat) (w : World) : Fr F w w := ⟨rfl, rfl, rfl, nR _, fun _ _ _ => rfl⟩
theorem Fr.trans (h : Fr F w w') (h' : Fr F w' w2) : Fr F w w2 := ⟨h'.os.trans h.os, h'.tape.trans h.tape, h'.output.trans h.output, nT h.size h'.size, fun b hb hn => (h'.block b (nL hb h.size) hn).trans (h.block b hb hn)⟩
theorem Fr.mono (h : Fr F w w') (hs : ∀ b ∈ F, b ∈ G) : Fr G w w' := ⟨h.os, h.tape, h.output, h.size, fun b hb hn => h.block b hb fun hf => hn (hs b hf)⟩
theorem Fr.of_below (h : Below w.heap.size w w') : Fr F w w' := ⟨h.os, h.tape, h.output, h.size, fun b hb _ => h.block b hb⟩
theorem Fr.aF (h : Fr F w w') {p : Addr} (hp : p.block ∈ F) (u : Value) : Fr F w (w'.setCell p u) :=
 ⟨h.os, h.tape, h.output, by simpa [World.setCell] using h.size, fun b hb hn => (Below.heap_setCell w' p u b (fun e => hn (by rw [e]; exact hp))).trans (h.block b hb hn)⟩
theorem Fr.below (h : Fr F w w') (hF : ∀ b ∈ F, B ≤ b) (hB : B ≤ w.heap.size) : Below B w w' :=
 ⟨h.os, h.tape, h.output, h.size, fun b hb => h.block b ah fun hf => by have := hF b hf; omega⟩
theorem aO.fr {ds : List Dat} {vs : List Value} (h : aO w ds G vs) (hf : Fr F w w') (hd : ∀ b ∈ G, b ∉ F) : aO w' ds G vs := h.kept fun b hb => hf.block b (h.lt b hb) (hd b hb)
theorem dK.fr {d : Dat} {v : Value} (h : dK w d G v) (hf : Fr F w w') (hd : ∀ b ∈ G, b ∉ F) : dK w' d G v := h.kept fun b hb => hf.block b (h.lt b hb) (hd b hb)
end
theorem Si {w : World} {base : Nat} {e : TypeId} {size n : Nat} {v : Value} {xs ys : List Value} (h : w.ownsRow base e size v n xs) (hx : xs = ys) : w.ownsRow base e size v n ys := hx ▸ h
theorem Blk.fr {F : List Nat} {w w' : World} {g : Nat} {t : TypeId} {cs : Array Value} (h : Blk w g t cs) (hf : Fr F w w') (hg : g ∉ F) : Blk w' g t cs := (hf.block g h.lt hg).trans h
theorem ep.pK {w : World} {c : ep} {F : List Nat} {vs : List Value} (h : aO w c.aG F vs) : ∃ jA nfields zw, F = zw ∧ vs = [Value.string c.name, .slice jA c.fields.length nfields, .int i64 c.line] ∧ dK w (.row 1 c.fields.length (flat aR c.fields)) zw (.slice jA c.fields.length nfields) := by
 unfold ep.aG at h
 obtain ⟨G0, H0, v0, t0, rfl, rfl, a0, h⟩ := h.out
 obtain ⟨G1, H1, v1, t1, rfl, rfl, a1, h⟩ := h.out
 obtain ⟨G2, H2, v2, t2, rfl, rfl, a2, h⟩ := h.out
 obtain ⟨rfl, rfl⟩ := h.jc
 obtain ⟨rfl, rfl⟩ := a0.oq
 obtain ⟨A1, c1, rfl, -, -⟩ := aW.shape (f := aR) (a1.rep (lo := 0) (hi := w.heap.size) fun g hg => ⟨nZ _, a1.lt g hg⟩)
 obtain ⟨rfl, rfl⟩ := a2.iF
 exact ⟨A1, c1, G1, av, rfl, a1⟩
theorem ep.ownIn {w : World} {c : ep} {Ia : Value} {zw : List Nat} (GJ : dK w (.row 1 c.fields.length (flat aR c.fields)) zw Ia) : aO w c.aG zw [.string c.name, Ia, Value.int i64 c.line] := by
 have H : aO w [.str c.name, .row 1 c.fields.length (flat aR c.fields), .int i64 c.line] _ [.string c.name, Ia, .int i64 c.line] := (aO.aN .mkStr (aO.aN GJ (aO.aN .mkInt (aO.eO (w := w)))))
 simpa [ep.aG] using H
theorem bO.pK {w : World} {c : bO} {F : List Nat} {vs : List Value} (h : aO w c.aG F vs) : ∃ nJ lI D8 dY dD qJ, F = (D8 ++ qJ) ∧ vs = [Value.string c.name, .int i64 c.params, .slice nJ c.slots.length lI, .int i64 c.bQ, .int i64 c.oW, .int i64 c.aZ, .int i64 c.bV, .string c.bU, .slice dY c.aT.length dD] ∧ dK w (.row 1 c.slots.length (flat aR c.slots)) D8 (.slice nJ c.slots.length lI) ∧ dK w (.row 6 c.aT.length (flat ak.aG c.aT)) qJ (.slice dY c.aT.length dD) := by
 unfold bO.aG at h
 obtain ⟨G0, H0, v0, t0, rfl, rfl, a0, h⟩ := h.out
 obtain ⟨G1, H1, v1, t1, rfl, rfl, a1, h⟩ := h.out
 obtain ⟨G2, H2, v2, t2, rfl, rfl, a2, h⟩ := h.out
 obtain ⟨G3, H3, v3, t3, rfl, rfl, a3, h⟩ := h.out
 obtain ⟨G4, H4, v4, t4, rfl, rfl, a4, h⟩ := h.out
 obtain ⟨G5, H5, v5, t5, rfl, rfl, a5, h⟩ := h.out
 obtain ⟨G6, H6, v6, t6, rfl, rfl, a6, h⟩ := h.out
 obtain ⟨G7, H7, v7, t7, rfl, rfl, a7, h⟩ := h.out
 obtain ⟨G8, H8, v8, t8, rfl, rfl, a8, h⟩ := h.out
 obtain ⟨rfl, rfl⟩ := h.jc
 obtain ⟨rfl, rfl⟩ := a0.oq
 obtain ⟨rfl, rfl⟩ := a1.iF
 obtain ⟨A2, c2, rfl, -, -⟩ := aW.shape (f := aR) (a2.rep (lo := 0) (hi := w.heap.size) fun g hg => ⟨nZ _, a2.lt g hg⟩)
 obtain ⟨rfl, rfl⟩ := a3.iF
 obtain ⟨rfl, rfl⟩ := a4.iF
 obtain ⟨rfl, rfl⟩ := a5.iF
 obtain ⟨rfl, rfl⟩ := a6.iF
 obtain ⟨rfl, rfl⟩ := a7.oq
 obtain ⟨A8, c8, rfl, -, -⟩ := aW.shape (f := ak.aG) (a8.rep (lo := 0) (hi := w.heap.size) fun g hg => ⟨nZ _, a8.lt g hg⟩)
 exact ⟨A2, c2, G2, A8, c8, G8, av, rfl, a2, a8⟩
theorem bO.ownIn {w : World} {c : bO} {Nf : Value} {D8 : List Nat} (MZ : dK w (.row 1 c.slots.length (flat aR c.slots)) D8 Nf) {xV : Value} {qJ : List Nat} (qy : dK w (.row 6 c.aT.length (flat ak.aG c.aT)) qJ xV) : aO w c.aG (D8 ++ qJ) [.string c.name, Value.int i64 c.params, Nf, .int i64 c.bQ, .int i64 c.oW, .int i64 c.aZ, .int i64 c.bV, .string c.bU, xV] := by
 have H : aO w [.str c.name, .int i64 c.params, .row 1 c.slots.length (flat aR c.slots), .int i64 c.bQ, .int i64 c.oW, .int i64 c.aZ, .int i64 c.bV, .str c.bU, .row 6 c.aT.length (flat ak.aG c.aT)] _ [.string c.name, .int i64 c.params, Nf, .int i64 c.bQ, .int i64 c.oW, .int i64 c.aZ, .int i64 c.bV, .string c.bU, xV] := (aO.aN .mkStr (aO.aN .mkInt (aO.aN MZ (aO.aN .mkInt (aO.aN .mkInt (aO.aN .mkInt (aO.aN .mkInt (aO.aN .mkStr (aO.aN qy (aO.eO (w := w)))))))))))
 simpa [bO.aG] using H
theorem bg.pK {w : World} {c : bg} {F : List Nat} {vs : List Value} (h : aO w c.aG F vs) : ∃ dh bP sG bM bG uY bK bC uZ, F = (sG ++ (uY ++ uZ)) ∧ vs = [Value.slice dh c.au.length bP, .slice bM c.records.length bG, .slice bK c.globals.length bC, .int i64 c.main] ∧ dK w (.row 9 c.au.length (flat bO.aG c.au)) sG (.slice dh c.au.length bP) ∧ dK w (.row 3 c.records.length (flat ep.aG c.records)) uY (.slice bM c.records.length bG) ∧ dK w (.row 1 c.globals.length (flat aR c.globals)) uZ (.slice bK c.globals.length bC) := by
 unfold bg.aG at h
 obtain ⟨G0, H0, v0, t0, rfl, rfl, a0, h⟩ := h.out
 obtain ⟨G1, H1, v1, t1, rfl, rfl, a1, h⟩ := h.out
 obtain ⟨G2, H2, v2, t2, rfl, rfl, a2, h⟩ := h.out
 obtain ⟨G3, H3, v3, t3, rfl, rfl, a3, h⟩ := h.out
 obtain ⟨rfl, rfl⟩ := h.jc
 obtain ⟨A0, c0, rfl, -, -⟩ := aW.shape (f := bO.aG) (a0.rep (lo := 0) (hi := w.heap.size) fun g hg => ⟨nZ _, a0.lt g hg⟩)
 obtain ⟨A1, c1, rfl, -, -⟩ := aW.shape (f := ep.aG) (a1.rep (lo := 0) (hi := w.heap.size) fun g hg => ⟨nZ _, a1.lt g hg⟩)
 obtain ⟨A2, c2, rfl, -, -⟩ := aW.shape (f := aR) (a2.rep (lo := 0) (hi := w.heap.size) fun g hg => ⟨nZ _, a2.lt g hg⟩)
 obtain ⟨rfl, rfl⟩ := a3.iF
 exact ⟨A0, c0, G0, A1, c1, G1, A2, c2, G2, av, rfl, a0, a1, a2⟩
theorem bg.ownIn {w : World} {c : bg} {AO : Value} {sG : List Nat} (rW : dK w (.row 9 c.au.length (flat bO.aG c.au)) sG AO) {D9 : Value} {uY : List Nat} (ql : dK w (.row 3 c.records.length (flat ep.aG c.records)) uY D9) {Ea : Value} {uZ : List Nat} (qm : dK w (.row 1 c.globals.length (flat aR c.globals)) uZ Ea) : aO w c.aG (sG ++ (uY ++ uZ)) [AO, D9, Ea, .int i64 c.main] := by
 have H : aO w [.row 9 c.au.length (flat bO.aG c.au), .row 3 c.records.length (flat ep.aG c.records), .row 1 c.globals.length (flat aR c.globals), .int i64 c.main] _ [AO, D9, Ea, .int i64 c.main] := (aO.aN rW (aO.aN ql (aO.aN qm (aO.aN .mkInt (aO.eO (w := w))))))
 simpa [bg.aG] using H
section
variable {α : Type} {f : α → List Dat} {k : Nat} {w w' : World} {lo hi : Nat} {x v : Value} {c : α} {l : List α} {F : List Nat}
theorem aW.fr (h : aW w lo hi k f v l) (hf : Fr F w w') (hd : ∀ b ∈ F, b < lo ∨ hi ≤ b) (hhi : hi ≤ w.heap.size) : aW w' lo hi k f v l :=
 h.keep fun p h1 h2 => World.cell?_of_block (hf.block p.block ah fun hp => by have := hd _ hp; omega)
theorem dZ.fr (h : dZ w lo hi f x c) (hf : Fr F w w') (hd : ∀ b ∈ F, b < lo ∨ hi ≤ b) (hhi : hi ≤ w.heap.size) : dZ w' lo hi f x c :=
 h.keep fun p h1 h2 => World.cell?_of_block (hf.block p.block ah fun hp => by have := hd _ hp; omega)
end
end
end Go.Proofs.YthbcamfejgghhaaGreatDoor
