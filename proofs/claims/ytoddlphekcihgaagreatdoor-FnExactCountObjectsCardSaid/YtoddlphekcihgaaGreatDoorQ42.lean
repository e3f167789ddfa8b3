/- A Qa of a machine: is it Ml Of the reference. Is a machine QH Of the reference. FP of the reference. TA, QZ of the laws. An ar -/
import Derived.Test.YtoddlphekcihgaaGreatDoorQ01
import Derived.Test.YtoddlphekcihgaaGreatDoorQ31
import Derived.Test.YtoddlphekcihgaaGreatDoorQ33
import Derived.Test.YtoddlphekcihgaaGreatDoorQ41
import Derived.Deep.Slices
import Derived.Deep.Fields
set_option maxRecDepth 100000
set_option maxHeartbeats 40000000
set_option linter.unusedVariables false
set_option linter.unusedSimpArgs false
namespace Go.Proofs.YtoddlphekcihgaaGreatDoor
section
open Go.RowKit
theorem FQ (c : jG) (x : Value) (left : Int) (w : World) (lo hi : Nat) (h : fA w lo hi jG.ay x c) (hhi : hi ≤ w.heap.size) (hl0 : 0 ≤ left) (hl1 : left ≤ 1048576) (hf : c.Fits) :
 Calls Tryz.prog 111 #[x, .int .i64 left] w fun e w' => e = .returned (.int .i64 (leftOf left c.dX)) ∧ Below w.heap.size w w' := by
 obtain ⟨jf, iH, jg, iI, jh, iJ, pQ, oW, kr, jO, rfl, sS, Cu, wY, hmarks, Cv, wZ, sU, Cw, xg, hcells, Lm, Fu, uj, Er, xY⟩ := jG.form h
 obtain ⟨CY, CZ, C4, TC⟩ := hf
 have HB : Hid (c.dX = (c.dZ.length + sumOf aQ.dX c.dZ) + (c.dU.length + sumOf kH.dX c.dU) + (c.eu.length + sumOf kG.dX c.eu) + (c.cells.length + sumOf oL c.cells) + c.gen.dX) := rfl
 unfold maxLen at wY wZ
 unfold maxLen at xg Fu xY
 have IK := lH CY
 clear CY
 have IL := lH CZ
 clear CZ
 have IP := lH C4
 clear C4
 have U4 := lH TC
 clear TC
 have hw0 : Below w.heap.size w (w.alloc (.cells #[Value.int .i64 c.kind, .int .i64 c.pc, .int .i64 c.frame, .int .i64 c.base, .int .i64 c.line, .int .i64 c.object, .slice jf c.dZ.length iH, .slice jg c.dU.length iI, .slice jh c.eu.length iJ, .slice pQ c.cells.length oW, .int .i64 c.gN, .int .i64 c.kJ, .int .i64 c.fQ, .slice kr c.fP.length jO] 191)) := bA _ _
 go_enter Tryz.func111, Tryz.ntmps111
 go_wp2_with fail
 refine (rU c.dZ _ _ _ lo hi (sS.below hw0 hhi) (nT hhi hw0.size) (by omega) (by omega) IK.out).mono ?_; rintro e w1 ⟨rfl, hb1⟩
 have hw1 : Below w.heap.size w w1 := hw0.trans (hb1.mono hw0.size)
 have a1 := (Blk.new w 191 #[Value.int .i64 c.kind, .int .i64 c.pc, .int .i64 c.frame, .int .i64 c.base, .int .i64 c.line, .int .i64 c.object, .slice jf c.dZ.length iH, .slice jg c.dU.length iI, .slice jh c.eu.length iJ, .slice pQ c.cells.length oW, .int .i64 c.gN, .int .i64 c.kJ, .int .i64 c.fQ, .slice kr c.fP.length jO]).later hb1
 have ca := a1.cell
 have la := a1.lt
 by_cases zG : left < ((c.dZ.length + sumOf aQ.dX c.dZ) : Nat)
 ·rw [dM zG]
  go_wp2_with fail
  go_ret
  exact ⟨eX (dM (by have := HB.out; omega)).symm, hw1⟩
 rw [ep zG]
 generalize hL : left - (((c.dZ.length + sumOf aQ.dX c.dZ) : Nat) : Int) = mF
 have l1a : mF ≤ left - ((c.dZ.length + sumOf aQ.dX c.dZ) : Nat) := by omega
 have l1b : left - ((c.dZ.length + sumOf aQ.dX c.dZ) : Nat) ≤ mF := by omega
 clear hL
 go_wp2_with fail
 refine (AV c.dU _ _ _ lo hi (hmarks.below hw1 hhi) (nT hhi hw1.size) (by omega) (by omega) IL.out).mono ?_; rintro e w2 ⟨rfl, hb2⟩
 have hw2 : Below w.heap.size w w2 := hw1.trans (hb2.mono hw1.size)
 have a2 := a1.later hb2
 clear ca la
 have ca := a2.cell
 have la := a2.lt
 by_cases zH : mF < ((c.dU.length + sumOf kH.dX c.dU) : Nat)
 ·rw [dM zH]
  go_wp2_with fail
  go_ret
  exact ⟨eX (dM (by have := HB.out; omega)).symm, hw2⟩
 rw [ep zH]
 generalize hL : mF - (((c.dU.length + sumOf kH.dX c.dU) : Nat) : Int) = oC
 have l2a : oC ≤ mF - ((c.dU.length + sumOf kH.dX c.dU) : Nat) := by omega
 have l2b : mF - ((c.dU.length + sumOf kH.dX c.dU) : Nat) ≤ oC := by omega
 clear hL
 go_wp2_with fail
 refine (AA c.eu _ _ _ lo hi (sU.below hw2 hhi) (nT hhi hw2.size) (by omega) (by omega) IP.out).mono ?_; rintro e w3 ⟨rfl, hb3⟩
 have hw3 : Below w.heap.size w w3 := hw2.trans (hb3.mono hw2.size)
 have a3 := a2.later hb3
 clear ca la
 have ca := a3.cell
 have la := a3.lt
 by_cases zI : oC < ((c.eu.length + sumOf kG.dX c.eu) : Nat)
 ·rw [dM zI]
  go_wp2_with fail
  go_ret
  exact ⟨eX (dM (by have := HB.out; omega)).symm, hw3⟩
 rw [ep zI]
 generalize hL : oC - (((c.eu.length + sumOf kG.dX c.eu) : Nat) : Int) = pI
 have l3a : pI ≤ oC - ((c.eu.length + sumOf kG.dX c.eu) : Nat) := by omega
 have l3b : oC - ((c.eu.length + sumOf kG.dX c.eu) : Nat) ≤ pI := by omega
 clear hL
 go_wp2_with fail
 refine (yG c.cells _ _ _ lo hi (hcells.below hw3 hhi) (nT hhi hw3.size) (by omega) (by omega)).mono ?_; rintro e w4 ⟨rfl, hb4⟩
 have hw4 : Below w.heap.size w w4 := hw3.trans (hb4.mono hw3.size)
 have a4 := a3.later hb4
 clear ca la
 have ca := a4.cell
 have la := a4.lt
 by_cases Jn : pI < ((c.cells.length + sumOf oL c.cells) : Nat)
 ·rw [dM Jn]
  go_wp2_with fail
  go_ret
  exact ⟨eX (dM (by have := HB.out; omega)).symm, hw4⟩
 rw [ep Jn]
 generalize hL : pI - (((c.cells.length + sumOf oL c.cells) : Nat) : Int) = qo
 have l4a : qo ≤ pI - ((c.cells.length + sumOf oL c.cells) : Nat) := by omega
 have l4b : pI - ((c.cells.length + sumOf oL c.cells) : Nat) ≤ qo := by omega
 clear hL
 go_wp2_with fail
 refine (Bl c.gen _ _ _ lo hi (iY.mk_ (uj.below hw4 hhi)) (nT hhi hw4.size) (by omega) (by omega) U4.out).mono ?_; rintro e w5 ⟨rfl, hb5⟩
 have hw5 : Below w.heap.size w w5 := hw4.trans (hb5.mono hw4.size)
 have a5 := a4.later hb5
 clear ca la
 have ca := a5.cell
 have la := a5.lt
 by_cases OH : qo < (c.gen.dX : Nat)
 ·rw [dM OH]
  go_wp2_with fail
  go_ret
  exact ⟨eX (dM (by have := HB.out; omega)).symm, hw5⟩
 rw [ep OH]
 generalize hL : qo - ((c.gen.dX : Nat) : Int) = vg
 have l5a : vg ≤ qo - (c.gen.dX : Nat) := by omega
 have l5b : qo - (c.gen.dX : Nat) ≤ vg := by omega
 clear hL
 go_wp2_with fail
 go_ret
 exact ⟨eX (by rw [ep (by have := HB.out; omega)]; have := HB.out; omega), hw5⟩
theorem D6 (l : List jG) (v : Value) (left : Int) (w : World) (lo hi : Nat) (h : dz w lo hi 14 jG.ay v l) (hhi : hi ≤ w.heap.size) (hl0 : 0 ≤ left) (hl1 : left ≤ 1048576) (hf : ∀ c ∈ l, c.Fits) :
 Calls Tryz.prog 69 #[v, .int .i64 left] w fun e w' => e = .returned (.int .i64 (leftOf left (l.length + sumOf jG.dX l))) ∧ Below w.heap.size w w' := by
 obtain ⟨A, cap, rfl, hc1, hc2⟩ := h.shape
 unfold maxLen at hc2
 have HF := lH hf
 clear hf
 by_cases hn : left < l.length
 ·go_enter Tryz.func69, Tryz.ntmps69
  go_wp2_with fail
  go_ret
  exact ⟨eX (dM (by omega)).symm, bR _ _⟩
 go_enter Tryz.func69, Tryz.ntmps69
 go_wp2_with fail
 go_loopw [1, 5] (fun t i wr => ∃ k : Nat, k ≤ l.length ∧ i = .int .i64 k ∧ t = .int .i64 (left - l.length - sumOf jG.dX (l.take k)) ∧ sumOf jG.dX (l.take k) ≤ left - l.length ∧ Below w.heap.size w wr) (fun _ i _ => l.length - (intOf i).toNat)
 case atStart => exact ⟨0, nZ _, rfl, by simp [sumOf], by simp [sumOf]; omega, bR _ _⟩
 case round =>
  obtain ⟨k, hk, rfl, rfl, hle, hb⟩ := hrel
  obtain ⟨wo, rfl⟩ := nW wr
  have hz := hb.size
  by_cases hlt : k < l.length
  ·obtain ⟨c, hc⟩ : ∃ c, l[k]? = some c := ⟨_, gE hlt⟩
   obtain ⟨g, off, jf, iH, jg, iI, jh, iJ, pQ, oW, kr, jO, rfl, hg1, hg2, hmem, hrep, q0, q1, q2, q3, q4, q5, q6, q7, q8, q9, q10, q11, q12, q13⟩ := jG.at_ (h.below hb hhi) hc
   have HB := lH (rM (b := jG.dX) hc)
   have hft := HF.out c hmem
   clear hc hmem
   go_wp2_with fail
   refine (FQ c _ _ _ _ _ hrep (by omega) (by omega) (by omega) hft).mono ?_; rintro e w1 ⟨rfl, hb1⟩
   have hb2 := hb.trans (hb1.mono hz)
   clear hrep q0 q1 q2 q3 q4 q5 q6 q7 q8 q9 q10 q11 q12 q13
   by_cases hk1 : left - l.length - sumOf jG.dX (l.take k) < c.dX
   ·rw [dM hk1]
    go_wp2_with fail
    go_ret
    exact ⟨eX (dM (by have := HB.out; have := pX jG.dX l (k + 1); omega)).symm, hb2⟩
   ·rw [ep hk1]
    go_wp2_with fail
    go_roundw
    case rel => exact ⟨k + 1, by omega, by go_num, by rw [HB.out]; go_num, by rw [HB.out]; omega, hb2⟩
    case measure => simp [intOf]; omega
  ·obtain rfl : k = l.length := by omega
   rw [List.take_length] at hle ⊢
   go_wp2_with fail
   go_ret
   exact ⟨eX (by rw [ep (by omega)]; omega), hb⟩
end
section
open Go.ChangeShapes Go.WideShapes Go.RowKit Go.Deep
section
variable {H : Type} {enc : TypeId × Value → H} {w : World} {spare : Nat → Bool} {held : Bool}
theorem Kb {α : Type} {f : α → List Dat} {z : Nat} {P : α → Prop} (a : Addr) (len : Nat) (He : ∀ i, i < len → ∃ (cs : List Value) (c : α), cs.length = z ∧ (∀ j u, cs[j]? = some u → w.cell? (a.add (i * z + j)) = some u) ∧ eU w 0 w.heap.size (f c) cs ∧ P c) :
 ∀ k, k ≤ len → ∃ (l : List α) (vs : List Value), l.length = k ∧ vs.length = k * z ∧ eU w 0 w.heap.size (flat f l) vs ∧ (∀ j u, vs[j]? = some u → w.cell? (a.add j) = some u) ∧ ∀ c ∈ l, P c := by
 intro k
 induction k with
 | zero => intro _; exact ⟨[], [], rfl, by simp, by rw [oP]; exact .lu, by simp, by simp⟩
 | succ k ih =>
   intro hk
   obtain ⟨l, vs, h1, h2, h3, h4, h5⟩ := ih (by omega)
   obtain ⟨cs, c, g1, g2, g3, g4⟩ := He k (by omega)
   refine ⟨l ++ [c], vs ++ cs, by simp [h1], by rw [List.length_append, h2, g1, Nat.succ_mul], ?_, fun j u hj => ?_, ?_⟩
   ·rw [xD, ru, oP, List.append_nil]; exact h3.app g3
   ·by_cases hlt : j < vs.length
    ·rw [List.getElem?_append_left hlt] at hj; exact h4 j u hj
    ·rw [List.getElem?_append_right (by omega)] at hj
     have := g2 _ u hj
     rw [← h2, show vs.length + (j - vs.length) = j by omega] at this
     exact this
   ·intro x hx
    rcases List.mem_append.1 hx with hx | hx
    ·exact h5 x hx
    ·rw [List.mem_singleton.1 hx]; exact g4
theorem open_slice {α : Type} {f : α → List Dat} {z : Nat} {P : α → Prop} {tS tE : TypeId} (hz : 0 < z) (hu : Tryz.prog.underlying tS = some (.slice tE)) (hk : Tryz.prog.cellsOf tE = z)
 (He : ∀ (fuel : Nat) (cs : List Value) (x : DataW H × List MemPlace), DataW.trod enc Tryz.prog w 0 spare held fuel tE cs = some x → ∃ c : α, eU w 0 w.heap.size (f c) cs ∧ P c)
 {n : Nat} {v : Value} {y : DataW H × List MemPlace} (h : DataW.trod enc Tryz.prog w 0 spare held n tS [v] = some y) : ∃ l : List α, dz w 0 w.heap.size z f v l ∧ ∀ c ∈ l, P c := by
 rcases DataW.trod_slice hu h with ⟨hcs, -⟩ | ⟨a, len, cap, elems, rest, m, hm, hcs, -, -, hl, hcap, hel, hi, -, -⟩
 ·simp at hcs
  subst hcs
  exact ⟨[], Rep.u7 Rds.none_ (by rw [oP]; exact .lu), by simp⟩
 ·simp at hcs
  subst hcs
  obtain ⟨l, vs, g1, g2, g3, g4, g5⟩ := Kb (w := w) (f := f) (z := z) (P := P) a len (fun i hlt => by
   have hi' := hi i hlt
   rw [gE (by omega), hk] at hi'
   obtain ⟨cs', hc, ht⟩ := Option.bind_eq_some_iff.1 hi'
   obtain ⟨-, U5, hat⟩ := World.cells?_some hc
   obtain ⟨c, hr, hf⟩ := He m cs' _ ht
   refine ⟨cs', c, U5, fun j u hu => ?_, hr, hf⟩
   have hj : j < cs'.length := (List.getElem?_eq_some_iff.1 hu).1
   rw [← Go.Deep.add_add, hat j (by omega), hu]) len (nR _)
  subst g1
  refine ⟨l, Rep.u7 (vs := vs) ⟨some a, cap, rfl, hl, hcap, g2, (fun h => by cases h), fun hn => ?_⟩ g3, g5⟩
  obtain ⟨b, off, spot⟩ := a
  have hv0 : 0 < vs.length := by rw [g2]; exact Nat.mul_pos hn hz
  have hc0 := g4 0 _ (gE hv0)
  have hspot : spot = none := by simpa [Addr.add] using World.cell?_spot hc0
  subst hspot
  refine ⟨b, off, rfl, nZ _, ?_, fun j u hu => ?_⟩
  ·have := World.block_lt_of_cell? w _ hc0
   simpa [Addr.add] using this
  ·have := g4 j u hu
   rwa [Addr.add_lit] at this
theorem oK : Tryz.prog.cellsOf 9 = 1 ∧ Tryz.prog.cellsOf 3 = 1 ∧ Tryz.prog.cellsOf 24 = 1 ∧ Tryz.prog.cellsOf 22 = 1 ∧ Tryz.prog.cellsOf 23 = 1 ∧ Tryz.prog.cellsOf 25 = 1 ∧ Tryz.prog.cellsOf 36 = 2 ∧ Tryz.prog.cellsOf 29 = 1 ∧ Tryz.prog.cellsOf 28 = 1 ∧ Tryz.prog.cellsOf 30 = 1 ∧ Tryz.prog.cellsOf 4 = 1 ∧ Tryz.prog.cellsOf 86 = 1 ∧ Tryz.prog.cellsOf 87 = 1 ∧ Tryz.prog.cellsOf 34 = 1 ∧ Tryz.prog.cellsOf 189 = 4 ∧ Tryz.prog.cellsOf 88 = 1 ∧ Tryz.prog.cellsOf 27 = 5 ∧ Tryz.prog.cellsOf 32 = 13 ∧ Tryz.prog.cellsOf 33 = 1 ∧ Tryz.prog.cellsOf 38 = 6 := by refine ⟨?_, ?_, ?_, ?_, ?_, ?_, ?_, ?_, ?_, ?_, ?_, ?_, ?_, ?_, ?_, ?_, ?_, ?_, ?_, ?_⟩ <;> kernel_rfl
theorem oI {fuel i : Nat} {c : Value} {xs : List (DataW H × List MemPlace)} (hi : i < xs.length) (h' : DataW.trod enc Tryz.prog w 0 spare held fuel 3 [c] = xs[i]?) : ∃ z, c = .int .i64 z := by
 have h := h'.trans (gE hi)
 obtain ⟨z, f, -, -⟩ := DataW.trod_int Tryz.underlying3 h
 exact ⟨z, by simpa using f⟩
theorem oB {fuel i : Nat} {c : Value} {xs : List (DataW H × List MemPlace)} (hi : i < xs.length) (h' : DataW.trod enc Tryz.prog w 0 spare held fuel 4 [c] = xs[i]?) : ∃ z, c = .bool z := by
 have h := h'.trans (gE hi)
 obtain ⟨z, f, -⟩ := DataW.trod_bool Tryz.underlying4 h
 exact ⟨z, by simpa using f⟩
theorem oS {fuel i : Nat} {c : Value} {xs : List (DataW H × List MemPlace)} (hi : i < xs.length) (h' : DataW.trod enc Tryz.prog w 0 spare held fuel 9 [c] = xs[i]?) : ∃ z : ByteArray, c = .string z ∧ z.size ≤ 9223372036854775807 := by
 have h := h'.trans (gE hi)
 obtain ⟨z, f, -, hz⟩ := DataW.trod_string Tryz.underlying9 h
 exact ⟨z, by simpa using f, by unfold maxLen at hz; omega⟩
theorem wL (fuel : Nat) (cs : List Value) (x : DataW H × List MemPlace) (h : DataW.trod enc Tryz.prog w 0 spare held fuel 9 cs = some x) : ∃ s : ByteArray, eU w 0 w.heap.size (eF s) cs ∧ s.size ≤ 9223372036854775807 := by
 obtain ⟨z, rfl, -, hz⟩ := DataW.trod_string Tryz.underlying9 h
 exact ⟨z, .dJ .mkStr .lu, by unfold maxLen at hz; omega⟩
theorem C5 (fuel : Nat) (cs : List Value) (x : DataW H × List MemPlace) (h : DataW.trod enc Tryz.prog w 0 spare held fuel 3 cs = some x) : ∃ n : Int, eU w 0 w.heap.size (gW n) cs ∧ True := by
 obtain ⟨z, rfl, -, -⟩ := DataW.trod_int Tryz.underlying3 h
 exact ⟨z, .dJ .mkInt .lu, trivial⟩
theorem zJ (fuel : Nat) (cs : List Value) (x : DataW H × List MemPlace) (h : DataW.trod enc Tryz.prog w 0 spare held fuel 127 cs = some x) : ∃ c : jF, eU w 0 w.heap.size c.ay cs ∧ c.Fits := by
 obtain ⟨xs, n, hn, hx, hcl, hlen, hg⟩ := DataW.trod_struct Tryz.underlying127 h
 rw [show Tryz.prog.cellsOf 127 = 4 by kernel_rfl] at hcl
 match cs, hcl with
 | [c0, c1, c2, c3], _ =>
   replace hlen : xs.length = 4 := hlen
   obtain ⟨z0, rfl, w0⟩ := oS (c := c0) (xs := xs) (i := 0) (by omega) (by simpa [oK] using hg 0 _ rfl)
   obtain ⟨z1, rfl⟩ := oI (c := c1) (xs := xs) (i := 1) (by omega) (by simpa [oK] using hg 1 _ rfl)
   obtain ⟨z2, rfl⟩ := oI (c := c2) (xs := xs) (i := 2) (by omega) (by simpa [oK] using hg 2 _ rfl)
   obtain ⟨z3, rfl⟩ := oI (c := c3) (xs := xs) (i := 3) (by omega) (by simpa [oK] using hg 3 _ rfl)
   exact ⟨⟨z0, z1, z2, z3⟩, (eU.dJ .mkStr (eU.dJ .mkInt (eU.dJ .mkInt (eU.dJ .mkInt .lu)))), w0⟩
theorem wM (fuel : Nat) (cs : List Value) (x : DataW H × List MemPlace) (h : DataW.trod enc Tryz.prog w 0 spare held fuel 130 cs = some x) : ∃ c : gU, eU w 0 w.heap.size c.ay cs ∧ c.Fits := by
 obtain ⟨xs, n, hn, hx, hcl, hlen, hg⟩ := DataW.trod_struct Tryz.underlying130 h
 rw [show Tryz.prog.cellsOf 130 = 3 by kernel_rfl] at hcl
 match cs, hcl with
 | [c0, c1, c2], _ =>
   replace hlen : xs.length = 3 := hlen
   obtain ⟨z0, rfl, w0⟩ := oS (c := c0) (xs := xs) (i := 0) (by omega) (by simpa [oK] using hg 0 _ rfl)
   have h1 : DataW.trod enc Tryz.prog w 0 spare held n 24 [c1] = some (xs[1]'(by omega)) := (show _ = xs[1]? by simpa [oK] using hg 1 _ rfl).trans (gE _)
   obtain ⟨z1, r1, w1⟩ := open_slice (f := eF) (z := 1) (by decide) Tryz.underlying24 (by kernel_rfl) wL h1
   obtain ⟨z2, rfl⟩ := oI (c := c2) (xs := xs) (i := 2) (by omega) (by simpa [oK] using hg 2 _ rfl)
   exact ⟨⟨z0, z1, z2⟩, (eU.dJ .mkStr (eU.dJ r1 (eU.dJ .mkInt .lu))), ⟨w0, w1⟩⟩
theorem G6 (fuel : Nat) (cs : List Value) (x : DataW H × List MemPlace) (h : DataW.trod enc Tryz.prog w 0 spare held fuel 133 cs = some x) : ∃ c : eO, eU w 0 w.heap.size c.ay cs ∧ c.Fits := by
 obtain ⟨xs, n, hn, hx, hcl, hlen, hg⟩ := DataW.trod_struct Tryz.underlying133 h
 rw [show Tryz.prog.cellsOf 133 = 5 by kernel_rfl] at hcl
 match cs, hcl with
 | [c0, c1, c2, c3, c4], _ =>
   replace hlen : xs.length = 5 := hlen
   obtain ⟨z0, rfl⟩ := oI (c := c0) (xs := xs) (i := 0) (by omega) (by simpa [oK] using hg 0 _ rfl)
   obtain ⟨z1, rfl⟩ := oI (c := c1) (xs := xs) (i := 1) (by omega) (by simpa [oK] using hg 1 _ rfl)
   obtain ⟨z2, rfl⟩ := oI (c := c2) (xs := xs) (i := 2) (by omega) (by simpa [oK] using hg 2 _ rfl)
   obtain ⟨z3, rfl⟩ := oI (c := c3) (xs := xs) (i := 3) (by omega) (by simpa [oK] using hg 3 _ rfl)
   obtain ⟨z4, rfl, w4⟩ := oS (c := c4) (xs := xs) (i := 4) (by omega) (by simpa [oK] using hg 4 _ rfl)
   exact ⟨⟨z0, z1, z2, z3, z4⟩, (eU.dJ .mkInt (eU.dJ .mkInt (eU.dJ .mkInt (eU.dJ .mkInt (eU.dJ .mkStr .lu))))), w4⟩
theorem IQ (fuel : Nat) (cs : List Value) (x : DataW H × List MemPlace) (h : DataW.trod enc Tryz.prog w 0 spare held fuel 27 cs = some x) : ∃ c : dK, eU w 0 w.heap.size c.ay cs ∧ c.Fits := by
 obtain ⟨xs, n, hn, hx, hcl, hlen, hg⟩ := DataW.trod_struct Tryz.underlying27 h
 rw [show Tryz.prog.cellsOf 27 = 5 by kernel_rfl] at hcl
 match cs, hcl with
 | [c0, c1, c2, c3, c4], _ =>
   replace hlen : xs.length = 5 := hlen
   have h0 : DataW.trod enc Tryz.prog w 0 spare held n 22 [c0] = some (xs[0]'(by omega)) := (show _ = xs[0]? by simpa [oK] using hg 0 _ rfl).trans (gE _)
   obtain ⟨z0, r0, w0⟩ := open_slice (f := jF.ay) (z := 4) (by decide) Tryz.underlying22 (by kernel_rfl) zJ h0
   have h1 : DataW.trod enc Tryz.prog w 0 spare held n 23 [c1] = some (xs[1]'(by omega)) := (show _ = xs[1]? by simpa [oK] using hg 1 _ rfl).trans (gE _)
   obtain ⟨z1, r1, w1⟩ := open_slice (f := gU.ay) (z := 3) (by decide) Tryz.underlying23 (by kernel_rfl) wM h1
   have h2 : DataW.trod enc Tryz.prog w 0 spare held n 24 [c2] = some (xs[2]'(by omega)) := (show _ = xs[2]? by simpa [oK] using hg 2 _ rfl).trans (gE _)
   obtain ⟨z2, r2, w2⟩ := open_slice (f := eF) (z := 1) (by decide) Tryz.underlying24 (by kernel_rfl) wL h2
   obtain ⟨z3, rfl⟩ := oI (c := c3) (xs := xs) (i := 3) (by omega) (by simpa [oK] using hg 3 _ rfl)
   have h4 : DataW.trod enc Tryz.prog w 0 spare held n 25 [c4] = some (xs[4]'(by omega)) := (show _ = xs[4]? by simpa [oK] using hg 4 _ rfl).trans (gE _)
   obtain ⟨z4, r4, w4⟩ := open_slice (f := eO.ay) (z := 5) (by decide) Tryz.underlying25 (by kernel_rfl) G6 h4
   exact ⟨⟨z0, z1, z2, z3, z4⟩, (eU.dJ r0 (eU.dJ r1 (eU.dJ r2 (eU.dJ .mkInt (eU.dJ r4 .lu))))), ⟨w0, w1, w2, w4⟩⟩
theorem IU (fuel : Nat) (cs : List Value) (x : DataW H × List MemPlace) (h : DataW.trod enc Tryz.prog w 0 spare held fuel 36 cs = some x) : ∃ c : CsT, eU w 0 w.heap.size c.ay cs ∧ True := by
 obtain ⟨xs, n, hn, hx, hcl, hlen, hg⟩ := DataW.trod_struct Tryz.underlying36 h
 rw [show Tryz.prog.cellsOf 36 = 2 by kernel_rfl] at hcl
 match cs, hcl with
 | [c0, c1], _ =>
   replace hlen : xs.length = 2 := hlen
   obtain ⟨z0, rfl⟩ := oI (c := c0) (xs := xs) (i := 0) (by omega) (by simpa [oK] using hg 0 _ rfl)
   obtain ⟨z1, rfl⟩ := oI (c := c1) (xs := xs) (i := 1) (by omega) (by simpa [oK] using hg 1 _ rfl)
   exact ⟨⟨z0, z1⟩, (eU.dJ .mkInt (eU.dJ .mkInt .lu)), trivial⟩
theorem rQ (fuel : Nat) (cs : List Value) (x : DataW H × List MemPlace) (h : DataW.trod enc Tryz.prog w 0 spare held fuel 38 cs = some x) : ∃ c : aQ, eU w 0 w.heap.size c.ay cs ∧ c.Fits := by
 obtain ⟨xs, n, hn, hx, hcl, hlen, hg⟩ := DataW.trod_struct Tryz.underlying38 h
 rw [show Tryz.prog.cellsOf 38 = 6 by kernel_rfl] at hcl
 match cs, hcl with
 | [c0, c1, c2, c3, c4, c5], _ =>
   replace hlen : xs.length = 5 := hlen
   obtain ⟨z0, rfl⟩ := oI (c := c0) (xs := xs) (i := 0) (by omega) (by simpa [oK] using hg 0 _ rfl)
   obtain ⟨z1, rfl⟩ := oI (c := c1) (xs := xs) (i := 1) (by omega) (by simpa [oK] using hg 1 _ rfl)
   obtain ⟨z2, rfl⟩ := oI (c := c2) (xs := xs) (i := 2) (by omega) (by simpa [oK] using hg 2 _ rfl)
   obtain ⟨z3, rfl, w3⟩ := oS (c := c3) (xs := xs) (i := 3) (by omega) (by simpa [oK] using hg 3 _ rfl)
   have h4 : DataW.trod enc Tryz.prog w 0 spare held n 36 [c4, c5] = some (xs[4]'(by omega)) := (show _ = xs[4]? by simpa [oK] using hg 4 _ rfl).trans (gE _)
   obtain ⟨z4, r4, w4⟩ := IU _ _ _ h4
   exact ⟨⟨z0, z1, z2, z3, z4⟩, (eU.dJ .mkInt (eU.dJ .mkInt (eU.dJ .mkInt (eU.dJ .mkStr (eU.app r4 eU.lu))))), w3⟩
theorem FR (fuel : Nat) (cs : List Value) (x : DataW H × List MemPlace) (h : DataW.trod enc Tryz.prog w 0 spare held fuel 136 cs = some x) : ∃ c : fV, eU w 0 w.heap.size c.ay cs ∧ c.Fits := by
 obtain ⟨xs, n, hn, hx, hcl, hlen, hg⟩ := DataW.trod_struct Tryz.underlying136 h
 rw [show Tryz.prog.cellsOf 136 = 5 by kernel_rfl] at hcl
 match cs, hcl with
 | [c0, c1, c2, c3, c4], _ =>
   replace hlen : xs.length = 5 := hlen
   obtain ⟨z0, rfl⟩ := oI (c := c0) (xs := xs) (i := 0) (by omega) (by simpa [oK] using hg 0 _ rfl)
   obtain ⟨z1, rfl⟩ := oI (c := c1) (xs := xs) (i := 1) (by omega) (by simpa [oK] using hg 1 _ rfl)
   obtain ⟨z2, rfl⟩ := oI (c := c2) (xs := xs) (i := 2) (by omega) (by simpa [oK] using hg 2 _ rfl)
   have h3 : DataW.trod enc Tryz.prog w 0 spare held n 29 [c3] = some (xs[3]'(by omega)) := (show _ = xs[3]? by simpa [oK] using hg 3 _ rfl).trans (gE _)
   obtain ⟨z3, r3, w3⟩ := open_slice (f := aQ.ay) (z := 6) (by decide) Tryz.underlying29 (by kernel_rfl) rQ h3
   have h4 : DataW.trod enc Tryz.prog w 0 spare held n 29 [c4] = some (xs[4]'(by omega)) := (show _ = xs[4]? by simpa [oK] using hg 4 _ rfl).trans (gE _)
   obtain ⟨z4, r4, w4⟩ := open_slice (f := aQ.ay) (z := 6) (by decide) Tryz.underlying29 (by kernel_rfl) rQ h4
   exact ⟨⟨z0, z1, z2, z3, z4⟩, (eU.dJ .mkInt (eU.dJ .mkInt (eU.dJ .mkInt (eU.dJ r3 (eU.dJ r4 .lu))))), ⟨w3, w4⟩⟩
theorem FT (fuel : Nat) (cs : List Value) (x : DataW H × List MemPlace) (h : DataW.trod enc Tryz.prog w 0 spare held fuel 166 cs = some x) : ∃ c : kZ, eU w 0 w.heap.size c.ay cs ∧ True := by
 obtain ⟨xs, n, hn, hx, hcl, hlen, hg⟩ := DataW.trod_struct Tryz.underlying166 h
 rw [show Tryz.prog.cellsOf 166 = 2 by kernel_rfl] at hcl
 match cs, hcl with
 | [c0, c1], _ =>
   replace hlen : xs.length = 2 := hlen
   obtain ⟨z0, rfl⟩ := oI (c := c0) (xs := xs) (i := 0) (by omega) (by simpa [oK] using hg 0 _ rfl)
   obtain ⟨z1, rfl⟩ := oI (c := c1) (xs := xs) (i := 1) (by omega) (by simpa [oK] using hg 1 _ rfl)
   exact ⟨⟨z0, z1⟩, (eU.dJ .mkInt (eU.dJ .mkInt .lu)), trivial⟩
theorem G7 (fuel : Nat) (cs : List Value) (x : DataW H × List MemPlace) (h : DataW.trod enc Tryz.prog w 0 spare held fuel 32 cs = some x) : ∃ c : dP, eU w 0 w.heap.size c.ay cs ∧ c.Fits := by
 obtain ⟨xs, n, hn, hx, hcl, hlen, hg⟩ := DataW.trod_struct Tryz.underlying32 h
 rw [show Tryz.prog.cellsOf 32 = 13 by kernel_rfl] at hcl
 match cs, hcl with
 | [c0, c1, c2, c3, c4, c5, c6, c7, c8, c9, c10, c11, c12], _ =>
   replace hlen : xs.length = 13 := hlen
   have h0 : DataW.trod enc Tryz.prog w 0 spare held n 24 [c0] = some (xs[0]'(by omega)) := (show _ = xs[0]? by simpa [oK] using hg 0 _ rfl).trans (gE _)
   obtain ⟨z0, r0, w0⟩ := open_slice (f := eF) (z := 1) (by decide) Tryz.underlying24 (by kernel_rfl) wL h0
   have h1 : DataW.trod enc Tryz.prog w 0 spare held n 23 [c1] = some (xs[1]'(by omega)) := (show _ = xs[1]? by simpa [oK] using hg 1 _ rfl).trans (gE _)
   obtain ⟨z1, r1, w1⟩ := open_slice (f := gU.ay) (z := 3) (by decide) Tryz.underlying23 (by kernel_rfl) wM h1
   have h2 : DataW.trod enc Tryz.prog w 0 spare held n 28 [c2] = some (xs[2]'(by omega)) := (show _ = xs[2]? by simpa [oK] using hg 2 _ rfl).trans (gE _)
   obtain ⟨z2, r2, w2⟩ := open_slice (f := fV.ay) (z := 5) (by decide) Tryz.underlying28 (by kernel_rfl) FR h2
   have h3 : DataW.trod enc Tryz.prog w 0 spare held n 29 [c3] = some (xs[3]'(by omega)) := (show _ = xs[3]? by simpa [oK] using hg 3 _ rfl).trans (gE _)
   obtain ⟨z3, r3, w3⟩ := open_slice (f := aQ.ay) (z := 6) (by decide) Tryz.underlying29 (by kernel_rfl) rQ h3
   obtain ⟨z4, rfl, w4⟩ := oS (c := c4) (xs := xs) (i := 4) (by omega) (by simpa [oK] using hg 4 _ rfl)
   obtain ⟨z5, rfl⟩ := oI (c := c5) (xs := xs) (i := 5) (by omega) (by simpa [oK] using hg 5 _ rfl)
   have h6 : DataW.trod enc Tryz.prog w 0 spare held n 24 [c6] = some (xs[6]'(by omega)) := (show _ = xs[6]? by simpa [oK] using hg 6 _ rfl).trans (gE _)
   obtain ⟨z6, r6, w6⟩ := open_slice (f := eF) (z := 1) (by decide) Tryz.underlying24 (by kernel_rfl) wL h6
   have h7 : DataW.trod enc Tryz.prog w 0 spare held n 24 [c7] = some (xs[7]'(by omega)) := (show _ = xs[7]? by simpa [oK] using hg 7 _ rfl).trans (gE _)
   obtain ⟨z7, r7, w7⟩ := open_slice (f := eF) (z := 1) (by decide) Tryz.underlying24 (by kernel_rfl) wL h7
   have h8 : DataW.trod enc Tryz.prog w 0 spare held n 30 [c8] = some (xs[8]'(by omega)) := (show _ = xs[8]? by simpa [oK] using hg 8 _ rfl).trans (gE _)
   obtain ⟨z8, r8, w8⟩ := open_slice (f := kZ.ay) (z := 2) (by decide) Tryz.underlying30 (by kernel_rfl) FT h8
   obtain ⟨z9, rfl⟩ := oB (c := c9) (xs := xs) (i := 9) (by omega) (by simpa [oK] using hg 9 _ rfl)
   obtain ⟨z10, rfl⟩ := oI (c := c10) (xs := xs) (i := 10) (by omega) (by simpa [oK] using hg 10 _ rfl)
   obtain ⟨z11, rfl⟩ := oI (c := c11) (xs := xs) (i := 11) (by omega) (by simpa [oK] using hg 11 _ rfl)
   obtain ⟨z12, rfl⟩ := oI (c := c12) (xs := xs) (i := 12) (by omega) (by simpa [oK] using hg 12 _ rfl)
   exact ⟨⟨z0, z1, z2, z3, z4, z5, z6, z7, z8, z9, z10, z11, z12⟩, (eU.dJ r0 (eU.dJ r1 (eU.dJ r2 (eU.dJ r3 (eU.dJ .mkStr (eU.dJ .mkInt (eU.dJ r6 (eU.dJ r7 (eU.dJ r8 (eU.dJ .zL (eU.dJ .mkInt (eU.dJ .mkInt (eU.dJ .mkInt .lu))))))))))))), ⟨w0, w1, w2, w3, w4, w6, w7, fun _ _ => trivial⟩⟩
theorem C6 (fuel : Nat) (cs : List Value) (x : DataW H × List MemPlace) (h : DataW.trod enc Tryz.prog w 0 spare held fuel 213 cs = some x) : ∃ c : kH, eU w 0 w.heap.size c.ay cs ∧ True := by
 obtain ⟨xs, n, hn, hx, hcl, hlen, hg⟩ := DataW.trod_struct Tryz.underlying213 h
 rw [show Tryz.prog.cellsOf 213 = 5 by kernel_rfl] at hcl
 match cs, hcl with
 | [c0, c1, c2, c3, c4], _ =>
   replace hlen : xs.length = 5 := hlen
   obtain ⟨z0, rfl⟩ := oI (c := c0) (xs := xs) (i := 0) (by omega) (by simpa [oK] using hg 0 _ rfl)
   obtain ⟨z1, rfl⟩ := oI (c := c1) (xs := xs) (i := 1) (by omega) (by simpa [oK] using hg 1 _ rfl)
   obtain ⟨z2, rfl⟩ := oI (c := c2) (xs := xs) (i := 2) (by omega) (by simpa [oK] using hg 2 _ rfl)
   obtain ⟨z3, rfl⟩ := oI (c := c3) (xs := xs) (i := 3) (by omega) (by simpa [oK] using hg 3 _ rfl)
   obtain ⟨z4, rfl⟩ := oI (c := c4) (xs := xs) (i := 4) (by omega) (by simpa [oK] using hg 4 _ rfl)
   exact ⟨⟨z0, z1, z2, z3, z4⟩, (eU.dJ .mkInt (eU.dJ .mkInt (eU.dJ .mkInt (eU.dJ .mkInt (eU.dJ .mkInt .lu))))), trivial⟩
theorem C8 (fuel : Nat) (cs : List Value) (x : DataW H × List MemPlace) (h : DataW.trod enc Tryz.prog w 0 spare held fuel 215 cs = some x) : ∃ c : kG, eU w 0 w.heap.size c.ay cs ∧ True := by
 obtain ⟨xs, n, hn, hx, hcl, hlen, hg⟩ := DataW.trod_struct Tryz.underlying215 h
 rw [show Tryz.prog.cellsOf 215 = 8 by kernel_rfl] at hcl
 match cs, hcl with
 | [c0, c1, c2, c3, c4, c5, c6, c7], _ =>
   replace hlen : xs.length = 8 := hlen
   obtain ⟨z0, rfl⟩ := oI (c := c0) (xs := xs) (i := 0) (by omega) (by simpa [oK] using hg 0 _ rfl)
   obtain ⟨z1, rfl⟩ := oI (c := c1) (xs := xs) (i := 1) (by omega) (by simpa [oK] using hg 1 _ rfl)
   obtain ⟨z2, rfl⟩ := oI (c := c2) (xs := xs) (i := 2) (by omega) (by simpa [oK] using hg 2 _ rfl)
   obtain ⟨z3, rfl⟩ := oI (c := c3) (xs := xs) (i := 3) (by omega) (by simpa [oK] using hg 3 _ rfl)
   obtain ⟨z4, rfl⟩ := oI (c := c4) (xs := xs) (i := 4) (by omega) (by simpa [oK] using hg 4 _ rfl)
   obtain ⟨z5, rfl⟩ := oI (c := c5) (xs := xs) (i := 5) (by omega) (by simpa [oK] using hg 5 _ rfl)
   obtain ⟨z6, rfl⟩ := oI (c := c6) (xs := xs) (i := 6) (by omega) (by simpa [oK] using hg 6 _ rfl)
   obtain ⟨z7, rfl⟩ := oI (c := c7) (xs := xs) (i := 7) (by omega) (by simpa [oK] using hg 7 _ rfl)
   exact ⟨⟨z0, z1, z2, z3, z4, z5, z6, z7⟩, (eU.dJ .mkInt (eU.dJ .mkInt (eU.dJ .mkInt (eU.dJ .mkInt (eU.dJ .mkInt (eU.dJ .mkInt (eU.dJ .mkInt (eU.dJ .mkInt .lu)))))))), trivial⟩
theorem Bt (fuel : Nat) (cs : List Value) (x : DataW H × List MemPlace) (h : DataW.trod enc Tryz.prog w 0 spare held fuel 189 cs = some x) : ∃ c : iY, eU w 0 w.heap.size c.ay cs ∧ c.Fits := by
 obtain ⟨xs, n, hn, hx, hcl, hlen, hg⟩ := DataW.trod_struct Tryz.underlying189 h
 rw [show Tryz.prog.cellsOf 189 = 4 by kernel_rfl] at hcl
 match cs, hcl with
 | [c0, c1, c2, c3], _ =>
   replace hlen : xs.length = 4 := hlen
   obtain ⟨z0, rfl⟩ := oI (c := c0) (xs := xs) (i := 0) (by omega) (by simpa [oK] using hg 0 _ rfl)
   obtain ⟨z1, rfl⟩ := oI (c := c1) (xs := xs) (i := 1) (by omega) (by simpa [oK] using hg 1 _ rfl)
   obtain ⟨z2, rfl⟩ := oI (c := c2) (xs := xs) (i := 2) (by omega) (by simpa [oK] using hg 2 _ rfl)
   have h3 : DataW.trod enc Tryz.prog w 0 spare held n 29 [c3] = some (xs[3]'(by omega)) := (show _ = xs[3]? by simpa [oK] using hg 3 _ rfl).trans (gE _)
   obtain ⟨z3, r3, w3⟩ := open_slice (f := aQ.ay) (z := 6) (by decide) Tryz.underlying29 (by kernel_rfl) rQ h3
   exact ⟨⟨z0, z1, z2, z3⟩, (eU.dJ .mkInt (eU.dJ .mkInt (eU.dJ .mkInt (eU.dJ r3 .lu)))), w3⟩
theorem FU (fuel : Nat) (cs : List Value) (x : DataW H × List MemPlace) (h : DataW.trod enc Tryz.prog w 0 spare held fuel 191 cs = some x) : ∃ c : jG, eU w 0 w.heap.size c.ay cs ∧ c.Fits := by
 obtain ⟨xs, n, hn, hx, hcl, hlen, hg⟩ := DataW.trod_struct Tryz.underlying191 h
 rw [show Tryz.prog.cellsOf 191 = 14 by kernel_rfl] at hcl
 match cs, hcl with
 | [c0, c1, c2, c3, c4, c5, c6, c7, c8, c9, c10, c11, c12, c13], _ =>
   replace hlen : xs.length = 11 := hlen
   obtain ⟨z0, rfl⟩ := oI (c := c0) (xs := xs) (i := 0) (by omega) (by simpa [oK] using hg 0 _ rfl)
   obtain ⟨z1, rfl⟩ := oI (c := c1) (xs := xs) (i := 1) (by omega) (by simpa [oK] using hg 1 _ rfl)
   obtain ⟨z2, rfl⟩ := oI (c := c2) (xs := xs) (i := 2) (by omega) (by simpa [oK] using hg 2 _ rfl)
   obtain ⟨z3, rfl⟩ := oI (c := c3) (xs := xs) (i := 3) (by omega) (by simpa [oK] using hg 3 _ rfl)
   obtain ⟨z4, rfl⟩ := oI (c := c4) (xs := xs) (i := 4) (by omega) (by simpa [oK] using hg 4 _ rfl)
   obtain ⟨z5, rfl⟩ := oI (c := c5) (xs := xs) (i := 5) (by omega) (by simpa [oK] using hg 5 _ rfl)
   have h6 : DataW.trod enc Tryz.prog w 0 spare held n 29 [c6] = some (xs[6]'(by omega)) := (show _ = xs[6]? by simpa [oK] using hg 6 _ rfl).trans (gE _)
   obtain ⟨z6, r6, w6⟩ := open_slice (f := aQ.ay) (z := 6) (by decide) Tryz.underlying29 (by kernel_rfl) rQ h6
   have h7 : DataW.trod enc Tryz.prog w 0 spare held n 86 [c7] = some (xs[7]'(by omega)) := (show _ = xs[7]? by simpa [oK] using hg 7 _ rfl).trans (gE _)
   obtain ⟨z7, r7, w7⟩ := open_slice (f := kH.ay) (z := 5) (by decide) Tryz.underlying86 (by kernel_rfl) C6 h7
   have h8 : DataW.trod enc Tryz.prog w 0 spare held n 87 [c8] = some (xs[8]'(by omega)) := (show _ = xs[8]? by simpa [oK] using hg 8 _ rfl).trans (gE _)
   obtain ⟨z8, r8, w8⟩ := open_slice (f := kG.ay) (z := 8) (by decide) Tryz.underlying87 (by kernel_rfl) C8 h8
   have h9 : DataW.trod enc Tryz.prog w 0 spare held n 34 [c9] = some (xs[9]'(by omega)) := (show _ = xs[9]? by simpa [oK] using hg 9 _ rfl).trans (gE _)
   obtain ⟨z9, r9, w9⟩ := open_slice (f := gW) (z := 1) (by decide) Tryz.underlying34 (by kernel_rfl) C5 h9
   have h10 : DataW.trod enc Tryz.prog w 0 spare held n 189 [c10, c11, c12, c13] = some (xs[10]'(by omega)) := (show _ = xs[10]? by simpa [oK] using hg 10 _ rfl).trans (gE _)
   obtain ⟨z10, r10, w10⟩ := Bt _ _ _ h10
   exact ⟨⟨z0, z1, z2, z3, z4, z5, z6, z7, z8, z9, z10⟩, (eU.dJ .mkInt (eU.dJ .mkInt (eU.dJ .mkInt (eU.dJ .mkInt (eU.dJ .mkInt (eU.dJ .mkInt (eU.dJ r6 (eU.dJ r7 (eU.dJ r8 (eU.dJ r9 (eU.app r10 eU.lu))))))))))), ⟨w6, fun _ _ => trivial, fun _ _ => trivial, w10⟩⟩
theorem FV (fuel : Nat) (cs : List Value) (x : DataW H × List MemPlace) (h : DataW.trod enc Tryz.prog w 0 spare held fuel 90 cs = some x) : ∃ c : jS, eU w 0 w.heap.size c.ay cs ∧ c.Fits := by
 obtain ⟨xs, n, hn, hx, hcl, hlen, hg⟩ := DataW.trod_struct Tryz.underlying90 h
 rw [show Tryz.prog.cellsOf 90 = 12 by kernel_rfl] at hcl
 match cs, hcl with
 | [c0, c1, c2, c3, c4, c5, c6, c7, c8, c9, c10, c11], _ =>
   replace hlen : xs.length = 12 := hlen
   obtain ⟨z0, rfl⟩ := oI (c := c0) (xs := xs) (i := 0) (by omega) (by simpa [oK] using hg 0 _ rfl)
   obtain ⟨z1, rfl⟩ := oI (c := c1) (xs := xs) (i := 1) (by omega) (by simpa [oK] using hg 1 _ rfl)
   obtain ⟨z2, rfl⟩ := oI (c := c2) (xs := xs) (i := 2) (by omega) (by simpa [oK] using hg 2 _ rfl)
   obtain ⟨z3, rfl⟩ := oI (c := c3) (xs := xs) (i := 3) (by omega) (by simpa [oK] using hg 3 _ rfl)
   obtain ⟨z4, rfl⟩ := oI (c := c4) (xs := xs) (i := 4) (by omega) (by simpa [oK] using hg 4 _ rfl)
   have h5 : DataW.trod enc Tryz.prog w 0 spare held n 29 [c5] = some (xs[5]'(by omega)) := (show _ = xs[5]? by simpa [oK] using hg 5 _ rfl).trans (gE _)
   obtain ⟨z5, r5, w5⟩ := open_slice (f := aQ.ay) (z := 6) (by decide) Tryz.underlying29 (by kernel_rfl) rQ h5
   have h6 : DataW.trod enc Tryz.prog w 0 spare held n 86 [c6] = some (xs[6]'(by omega)) := (show _ = xs[6]? by simpa [oK] using hg 6 _ rfl).trans (gE _)
   obtain ⟨z6, r6, w6⟩ := open_slice (f := kH.ay) (z := 5) (by decide) Tryz.underlying86 (by kernel_rfl) C6 h6
   have h7 : DataW.trod enc Tryz.prog w 0 spare held n 87 [c7] = some (xs[7]'(by omega)) := (show _ = xs[7]? by simpa [oK] using hg 7 _ rfl).trans (gE _)
   obtain ⟨z7, r7, w7⟩ := open_slice (f := kG.ay) (z := 8) (by decide) Tryz.underlying87 (by kernel_rfl) C8 h7
   have h8 : DataW.trod enc Tryz.prog w 0 spare held n 88 [c8] = some (xs[8]'(by omega)) := (show _ = xs[8]? by simpa [oK] using hg 8 _ rfl).trans (gE _)
   obtain ⟨z8, r8, w8⟩ := open_slice (f := jG.ay) (z := 14) (by decide) Tryz.underlying88 (by kernel_rfl) FU h8
   have h9 : DataW.trod enc Tryz.prog w 0 spare held n 34 [c9] = some (xs[9]'(by omega)) := (show _ = xs[9]? by simpa [oK] using hg 9 _ rfl).trans (gE _)
   obtain ⟨z9, r9, w9⟩ := open_slice (f := gW) (z := 1) (by decide) Tryz.underlying34 (by kernel_rfl) C5 h9
   obtain ⟨z10, rfl, w10⟩ := oS (c := c10) (xs := xs) (i := 10) (by omega) (by simpa [oK] using hg 10 _ rfl)
   obtain ⟨z11, rfl⟩ := oI (c := c11) (xs := xs) (i := 11) (by omega) (by simpa [oK] using hg 11 _ rfl)
   exact ⟨⟨z0, z1, z2, z3, z4, z5, z6, z7, z8, z9, z10, z11⟩, (eU.dJ .mkInt (eU.dJ .mkInt (eU.dJ .mkInt (eU.dJ .mkInt (eU.dJ .mkInt (eU.dJ r5 (eU.dJ r6 (eU.dJ r7 (eU.dJ r8 (eU.dJ r9 (eU.dJ .mkStr (eU.dJ .mkInt .lu)))))))))))), ⟨w5, fun _ _ => trivial, fun _ _ => trivial, w8, w10⟩⟩
theorem D7 (fuel : Nat) (cs : List Value) (x : DataW H × List MemPlace) (h : DataW.trod enc Tryz.prog w 0 spare held fuel 40 cs = some x) : ∃ c : eG, eU w 0 w.heap.size c.ay cs ∧ c.Fits := by
 obtain ⟨xs, n, hn, hx, hcl, hlen, hg⟩ := DataW.trod_struct Tryz.underlying40 h
 rw [show Tryz.prog.cellsOf 40 = 29 by kernel_rfl] at hcl
 match cs, hcl with
 | [c0, c1, c2, c3, c4, c5, c6, c7, c8, c9, c10, c11, c12, c13, c14, c15, c16, c17, c18, c19, c20, c21, c22, c23, c24, c25, c26, c27, c28], _ =>
   replace hlen : xs.length = 8 := hlen
   have h0 : DataW.trod enc Tryz.prog w 0 spare held n 27 [c0, c1, c2, c3, c4] = some (xs[0]'(by omega)) := (show _ = xs[0]? by simpa [oK] using hg 0 _ rfl).trans (gE _)
   obtain ⟨z0, r0, w0⟩ := IQ _ _ _ h0
   have h1 : DataW.trod enc Tryz.prog w 0 spare held n 32 [c5, c6, c7, c8, c9, c10, c11, c12, c13, c14, c15, c16, c17] = some (xs[1]'(by omega)) := (show _ = xs[1]? by simpa [oK] using hg 1 _ rfl).trans (gE _)
   obtain ⟨z1, r1, w1⟩ := G7 _ _ _ h1
   have h2 : DataW.trod enc Tryz.prog w 0 spare held n 33 [c18] = some (xs[2]'(by omega)) := (show _ = xs[2]? by simpa [oK] using hg 2 _ rfl).trans (gE _)
   obtain ⟨z2, r2, w2⟩ := open_slice (f := jS.ay) (z := 12) (by decide) Tryz.underlying33 (by kernel_rfl) FV h2
   have h3 : DataW.trod enc Tryz.prog w 0 spare held n 34 [c19] = some (xs[3]'(by omega)) := (show _ = xs[3]? by simpa [oK] using hg 3 _ rfl).trans (gE _)
   obtain ⟨z3, r3, w3⟩ := open_slice (f := gW) (z := 1) (by decide) Tryz.underlying34 (by kernel_rfl) C5 h3
   obtain ⟨z4, rfl⟩ := oI (c := c20) (xs := xs) (i := 4) (by omega) (by simpa [oK] using hg 4 _ rfl)
   obtain ⟨z5, rfl⟩ := oI (c := c21) (xs := xs) (i := 5) (by omega) (by simpa [oK] using hg 5 _ rfl)
   obtain ⟨z6, rfl⟩ := oI (c := c22) (xs := xs) (i := 6) (by omega) (by simpa [oK] using hg 6 _ rfl)
   have h7 : DataW.trod enc Tryz.prog w 0 spare held n 38 [c23, c24, c25, c26, c27, c28] = some (xs[7]'(by omega)) := (show _ = xs[7]? by simpa [oK] using hg 7 _ rfl).trans (gE _)
   obtain ⟨z7, r7, w7⟩ := rQ _ _ _ h7
   exact ⟨⟨z0, z1, z2, z3, z4, z5, z6, z7⟩, (eU.app r0 (eU.app r1 (eU.dJ r2 (eU.dJ r3 (eU.dJ .mkInt (eU.dJ .mkInt (eU.dJ .mkInt (eU.app r7 eU.lu)))))))), ⟨w0, w1, w2, w7⟩⟩
theorem FW {r : Reach} {b0 : Nat} {v : Value} {d : DataW H} {p : List MemPlace} (hv : Value.okWide Tryz.prog w r b0 40 v) (h : DataW.Trod enc Tryz.prog w 0 spare held 40 v d p) : ∃ c : eG, fA w 0 w.heap.size eG.ay v c ∧ c.Fits := by
 obtain ⟨cs, rfl, hsz⟩ := okWide_struct Tryz.underlying40 hv
 obtain ⟨fuel, hf⟩ := h
 obtain ⟨c, hr, hft⟩ := D7 fuel _ _ hf
 exact ⟨c, ⟨cs.toList, by simp, by simpa [Value.cells] using hr⟩, hft⟩
end
end
end Go.Proofs.YtoddlphekcihgaaGreatDoor
