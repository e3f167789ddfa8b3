/- The aj of a pattern: plain lemmas. No program. Items of entries, co-expressions, eT; the cells of a value in a row. No program. The rows of a machine: whi -/
import Derived.Test.YtoddlphekcihgaaGreatDoorQ11
import Derived.Deep.DeepCutAuto
set_option maxRecDepth 100000
set_option maxHeartbeats 8000000
set_option linter.unusedVariables false
set_option linter.unusedSimpArgs false
namespace Go.Proofs.YtoddlphekcihgaaGreatDoor
open Go.RowKit
section
def mY (op : Int) : List Int :=
 if op = 1 then [2] else if 2 ≤ op ∧ op ≤ 6 then [1] else if 7 ≤ op ∧ op ≤ 10 then [3] else if op = 13 then [12] else if op = 14 ∨ op = 15 then [12, 12] else if op = 16 ∨ op = 17 then [12] else []
def qZ (op : Int) : Bool := decide (op = 16 ∨ op = 17 ∨ op = 18 ∨ op = 20)
theorem xQ (op : Int) : jT op = mY op ++ (if qZ op = true then [13] else []) := by
 unfold jT mY qZ
 by_cases h1 : op = 1; · subst h1; decide
 by_cases h2 : 2 ≤ op ∧ op ≤ 6; · rw [if_neg h1, if_pos h2, if_neg h1, if_pos h2, if_neg (by simp; omega)]; rfl
 by_cases h3 : 7 ≤ op ∧ op ≤ 10; · rw [if_neg h1, if_neg h2, if_pos h3, if_neg h1, if_neg h2, if_pos h3, if_neg (by simp; omega)]; rfl
 by_cases h4 : op = 13; · subst h4; decide
 by_cases h5 : op = 18; · subst h5; decide
 by_cases h6 : op = 14; · subst h6; decide
 by_cases h7 : op = 15; · subst h7; decide
 by_cases h8 : op = 16; · subst h8; decide
 by_cases h9 : op = 17; · subst h9; decide
 by_cases h10 : op = 20; · subst h10; decide
 simp [h1, h2, h3, h4, h5, h6, h7, h8, h9, h10]
theorem Jc (op : Int) : ∀ k ∈ mY op, k ≠ 13 := by
 unfold mY
 repeat' split
 all_goals (intro k hk; simp at hk <;> omega)
theorem Nw (op : Int) : (mY op).length ≤ 2 := by
 unfold mY
 repeat' split
 all_goals simp
section
variable {s : dP}
theorem wX : ∀ {a : List Int} {c : List aQ}, a.length ≠ c.length → jU s a c = false
 | [], [], h => absurd rfl h
 | [], _ :: _, _ => rfl
 | _ :: _, [], _ => rfl
 | k :: a, v :: c, h => by
   simp only [jU]
   rw [wX (by simpa using h), Bool.and_false]
theorem tT : ∀ {a b : List Int} {c d : List aQ}, a.length = c.length → jU s (a ++ b) (c ++ d) = (jU s a c && jU s b d)
 | [], b, [], d, _ => by simp [jU]
 | k :: a, b, v :: c, d, h => by
   simp only [List.cons_append, jU]
   rw [tT (by simpa using h), Bool.and_assoc]
theorem uM {a : List Int} {c : List aQ} {j : Nat} {k : Int} {v : aQ} (ha : a[j]? = some k) (hc : c[j]? = some v) : jU s (a.take (j + 1)) (c.take (j + 1)) = (jU s (a.take j) (c.take j) && qU s k v) := by
 have h1 := (List.getElem?_eq_some_iff.1 ha).1
 have h2 := (List.getElem?_eq_some_iff.1 hc).1
 rw [qB ha, qB hc, tT (by simp; omega)]
 simp [jU]
theorem AU {a : List Int} {c : List aQ} {j : Nat} {k : Int} {v : aQ} (ha : a[j]? = some k) (hc : c[j]? = some v) (hq : qU s k v = false) (b : List Int) (d : List aQ) (hl : a.length = c.length) : jU s (a ++ b) (c ++ d) = false := by
 have h1 := (List.getElem?_eq_some_iff.1 ha).1
 have e1 : a = a.take (j + 1) ++ a.drop (j + 1) := (List.take_append_drop _ _).symm
 have e2 : c = c.take (j + 1) ++ c.drop (j + 1) := (List.take_append_drop _ _).symm
 rw [tT hl]
 conv => lhs; lhs; rw [e1, e2]
 rw [tT (by simp; omega), uM ha hc, hq]
 simp
theorem Jd (op : Int) (l : List aQ) (hop : 1 ≤ op ∧ op ≤ 23) (hl : l.length = (mY op).length + (if qZ op = true then 1 else 0)) (hk : jU s (mY op) (l.take (mY op).length) = true) :
 yc s op l = jU s (if qZ op = true then [13] else []) (l.drop (mY op).length) := by
 unfold yc
 rw [dT hop, xQ]
 conv => lhs; rw [← List.take_append_drop (mY op).length l]
 rw [tT (by rw [List.length_take]; omega), hk]
 rfl
theorem Lh (op : Int) (l : List aQ) (hl : l.length ≠ (mY op).length + (if qZ op = true then 1 else 0)) : yc s op l = false := by
 unfold yc
 rw [xQ, wX, Bool.and_false]
 rw [List.length_append]
 split at hl
 ·rename_i h; rw [if_pos h]; simp; omega
 ·rename_i h; rw [if_neg h]; simp; omega
theorem Ny (op : Int) (l : List aQ) (h : ¬ (1 ≤ op ∧ op ≤ 23)) : yc s op l = false := by
 unfold yc; rw [dF h]; rfl
theorem Je (op : Int) (l : List aQ) (hl : l.length = (mY op).length + (if qZ op = true then 1 else 0)) {j : Nat} {k : Int} {v : aQ} (ha : (mY op)[j]? = some k) (hc : l[j]? = some v) (hq : qU s k v = false) : yc s op l = false := by
 have h1 := (List.getElem?_eq_some_iff.1 ha).1
 unfold yc
 rw [xQ]
 conv => lhs; rw [← List.take_append_drop (mY op).length l]
 rw [AU ha (c := l.take (mY op).length) (by rw [List.getElem?_take, if_pos h1]; exact hc) hq _ _ (by rw [List.length_take]; omega), Bool.and_false]
theorem Cq {k : Int} {v : aQ} (hk : k ≠ 13) : qU s k v = (cK s v && decide (v.kind = k)) := by unfold qU; rw [if_neg hk]
end
end
theorem dV {w : World} {lo hi g off cap j p : Nat} {l : List aQ} {c : aQ} (h : dz w lo hi 6 aQ.ay (.slice (some ⟨g, off, none⟩) l.length cap) l) (hc : l[j]? = some c) (hp : p = off + j * 6) :
 w.cell? ⟨g, p, none⟩ = some (.int .i64 c.kind) ∧ w.cell? ⟨g, p + 1, none⟩ = some (.int .i64 c.number) ∧ w.cell? ⟨g, p + 2, none⟩ = some (.int .i64 c.index) ∧ w.cell? ⟨g, p + 3, none⟩ = some (.string c.text) ∧ w.cell? ⟨g, p + 4, none⟩ = some (.int .i64 c.eB) ∧ w.cell? ⟨g, p + 5, none⟩ = some (.int .i64 c.dW) := by
 obtain ⟨g', off', hA, h1, h2, -, -, q0, q1, q2, q3, q4, q5⟩ := aQ.at_ h hc
 injection hA with hA
 injection hA with e1 e2
 subst e1 e2 hp
 exact ⟨q0, q1, q2, q3, q4, q5⟩
theorem Ep {s : dP} {l : List aQ} (h : ¬ l.length = 2) : vU s l = false := by
 match l, h with
 | [], _ => rfl
 | [_], _ => rfl
 | _ :: _ :: _ :: _, _ => rfl
 | [_, _], h => exact absurd rfl h
theorem JH {s : dP} {l : List aQ} {a b : aQ} (h : l.length = 2) (ha : l[0]? = some a) (hb : l[1]? = some b) : vU s l = (decide (a.kind = 5) && l.all (ig s)) := by
 match l, h with
 | [x, y], _ =>
   obtain rfl := Option.some.inj ha
   obtain rfl := Option.some.inj hb
   simp [vU, Bool.and_assoc]
theorem Ik {s : dP} {l : List aQ} {a b : aQ} (h : l.length = 2) (ha : l[0]? = some a) (hb : l[1]? = some b) : vU s l = (decide (a.kind = 5) && cK s a && ig s b) := by
 match l, h with
 | [x, y], _ =>
   obtain rfl := Option.some.inj ha
   obtain rfl := Option.some.inj hb
   show (decide (x.kind = 5) && ig s x && ig s y) = _
   by_cases hk : x.kind = 5
   ·have : ig s x = cK s x := by unfold ig; rw [dT (by omega)]; rfl
    rw [this]
   ·rw [dF hk]; rfl
theorem Li {s : dP} {l : List aQ} (h : ¬ l.length = 3) : KT s l = false := by
 match l, h with
 | [], _ => rfl
 | [_], _ => rfl
 | [_, _], _ => rfl
 | _ :: _ :: _ :: _ :: _, _ => rfl
 | [_, _, _], h => exact absurd rfl h
theorem GB {s : dP} {l : List aQ} {a b c : aQ} (h : l.length = 3) (ha : l[0]? = some a) (hb : l[1]? = some b) (hc : l[2]? = some c) : KT s l = (decide (a.kind = 19) && cK s a && decide (b.kind = 19) && cK s b && decide (c.kind = 1) && cK s c && decide (0 ≤ c.number)) := by
 match l, h with
 | [x, y, z], _ =>
   obtain rfl := Option.some.inj ha
   obtain rfl := Option.some.inj hb
   obtain rfl := Option.some.inj hc
   rfl
theorem GD {s : dP} {l : List aQ} (h : ¬ l.length = 2) : yN s l = false := by
 match l, h with
 | [], _ => rfl
 | [_], _ => rfl
 | _ :: _ :: _ :: _, _ => rfl
 | [_, _], h => exact absurd rfl h
theorem Nz {s : dP} {l : List aQ} {a : aQ} (h : l.all (ig s) = true) (ha : a ∈ l) (hk : a.kind = 2) : a.text.size ≤ 120 := by
 have := List.all_eq_true.1 h a ha
 simp [ig, cK, wfB, hk] at this
 omega
theorem Lj {s : dP} {l : List aQ} {a b : aQ} (h : l.length = 2) (ha : l[0]? = some a) (hb : l[1]? = some b) : yN s l = (decide (a.kind = 2) && decide (b.kind = 1) && l.all (ig s) && decide (1 ≤ b.number) && decide (b.number ≤ a.text.size + 1)) := by
 match l, h with
 | [x, y], _ =>
   obtain rfl := Option.some.inj ha
   obtain rfl := Option.some.inj hb
   simp [yN, Bool.and_assoc]
theorem JI {s : dP} {l : List aQ} {a b : aQ} (h : l.length = 2) (ha : l[0]? = some a) (hb : l[1]? = some b) : yN s l = (decide (a.kind = 2) && decide (b.kind = 1) && cK s a && cK s b && decide (1 ≤ b.number) && decide (b.number ≤ a.text.size + 1)) := by
 match l, h with
 | [x, y], _ =>
   obtain rfl := Option.some.inj ha
   obtain rfl := Option.some.inj hb
   show (decide (x.kind = 2) && decide (y.kind = 1) && ig s x && ig s y && decide (1 ≤ y.number) && decide (y.number ≤ x.text.size + 1)) = _
   by_cases hk : x.kind = 2
   ·by_cases hj : y.kind = 1
    ·have h1 : ig s x = cK s x := by unfold ig; rw [dT (by omega)]; rfl
     have h2 : ig s y = cK s y := by unfold ig; rw [dT (by omega)]; rfl
     rw [h1, h2]
    ·rw [dF hj]; simp
   ·rw [dF hk]; simp
theorem Ll {s : dP} {a : aQ} (h : cK s a = true) (hk : a.kind = 2) : a.text.size ≤ 120 := by
 simp [cK, wfB, hk] at h
 omega
theorem rP (m : eG) (l : List Int) (v : Value) (w : World) {g off lo hi lo' hi' : Nat} (h : At w g off lo hi eG.ay m) (hv : dz w lo' hi' 1 gW v l) (hhi : hi' ≤ w.heap.size) :
 Calls Tryz.prog 102 #[.pointer (some ⟨g, off, none⟩), v] w fun e w' => e = .returned (.bool (l.all (mI m.store))) ∧ Below w.heap.size w w' := by
 obtain ⟨A, cap, rfl, hc1, hc2⟩ := hv.shape
 unfold maxLen at hc2
 obtain ⟨A0, n0, A4, n4, hg, r1, r2, r3, r4, cr, ci⟩ := eG.lens h
 go_enter Tryz.func102, Tryz.ntmps102
 go_wp2_with fail
 go_loopw [9] (fun i wr => ∃ k : Nat, k ≤ l.length ∧ i = .int .i64 k ∧ Hid ((l.take k).all (mI m.store) = true) ∧ Below w.heap.size w wr) (fun i _ => l.length - (intOf i).toNat)
 case atStart => exact ⟨0, nZ _, rfl, by simp [Hid], bR _ _⟩
 case round =>
  obtain ⟨k, hk, rfl, hgo, hb⟩ := hrel
  obtain ⟨wo, rfl⟩ := nW wr
  have hz := hb.size
  have hgo' : g < wo.heap.size := nL hg hz
  replace cr := (hb.cell (p := ⟨g, off, none⟩) hg).trans cr
  replace ci := (hb.cell (p := ⟨g, off + 4, none⟩) hg).trans ci
  by_cases hlt : k < l.length
  ·obtain ⟨c, hc⟩ : ∃ c, l[k]? = some c := ⟨_, gE hlt⟩
   obtain ⟨g', off', rfl, hg1, hg2, q0⟩ := (hv.below hb hhi).num hc
   have HN := lH (fun h => fJ (q := (mI m.store)) hc hgo.out h)
   have HF := lH (fun h => lI (q := (mI m.store)) (mG hc) h)
   clear hc hgo
   have hwa := hb
   have h0 := h.below hwa
   have hs0 := eG.qF h0
   go_wp2_with fail
   refine (fF m.store c 9 _ hs0).mono ?_; rintro e w1 ⟨rfl, rfl⟩
   cases hq : kU m.store c 9 with
   | true =>
     have HN := lH (HN.out hq)
     clear HF
     go_wp2_with fail
     go_roundw
     case rel => exact ⟨k + 1, by omega, by go_num, HN, hwa⟩
     case measure => simp [intOf]; omega
   | false =>
     have HF := lH (HF.out hq)
     clear HN
     go_wp2_with fail
     go_ret
     exact ⟨ah HF.out.symm, hwa⟩
  ·obtain rfl : k = l.length := by omega
   rw [List.take_length] at hgo
   go_wp2_with fail
   go_ret
   exact ⟨ah hgo.out.symm, hb⟩
theorem jH (m : eG) (l : List kH) (v : Value) (w : World) {g off lo hi lo' hi' : Nat} (h : At w g off lo hi eG.ay m) (hv : dz w lo' hi' 5 kH.ay v l) (hhi : hi' ≤ w.heap.size) :
 Calls Tryz.prog 100 #[.pointer (some ⟨g, off, none⟩), v] w fun e w' => e = .returned (.bool (l.all (kF m.code.av.length))) ∧ Below w.heap.size w w' := by
 obtain ⟨A, cap, rfl, hc1, hc2⟩ := hv.shape
 unfold maxLen at hc2
 obtain ⟨A0, n0, A4, n4, hg, r1, r2, r3, r4, cr, ci⟩ := eG.lens h
 go_enter Tryz.func100, Tryz.ntmps100
 go_wp2_with fail
 go_loopw [9] (fun i wr => ∃ k : Nat, k ≤ l.length ∧ i = .int .i64 k ∧ Hid ((l.take k).all (kF m.code.av.length) = true) ∧ Below w.heap.size w wr) (fun i _ => l.length - (intOf i).toNat)
 case atStart => exact ⟨0, nZ _, rfl, by simp [Hid], bR _ _⟩
 case round =>
  obtain ⟨k, hk, rfl, hgo, hb⟩ := hrel
  obtain ⟨wo, rfl⟩ := nW wr
  have hz := hb.size
  have hgo' : g < wo.heap.size := nL hg hz
  replace cr := (hb.cell (p := ⟨g, off, none⟩) hg).trans cr
  replace ci := (hb.cell (p := ⟨g, off + 4, none⟩) hg).trans ci
  by_cases hlt : k < l.length
  ·obtain ⟨c, hc⟩ : ∃ c, l[k]? = some c := ⟨_, gE hlt⟩
   obtain ⟨g', off', rfl, hg1, hg2, hmem, hrep, q0, q1, q2, q3, q4⟩ := kH.at_ (hv.below hb hhi) hc
   have HN := lH (fun h => fJ (q := (kF m.code.av.length)) hc hgo.out h)
   have HF := lH (fun h => lI (q := (kF m.code.av.length)) (mG hc) h)
   clear hc hgo hmem hrep
   have hwa : Below w.heap.size w (wo.alloc (.cells #[Value.int .i64 c.fail, .int .i64 c.height, .int .i64 c.dx, .int .i64 c.eT, .int .i64 c.count] 208)) := hb.alloc hz _
   have h0 := h.below hwa
   have hga : g < (wo.alloc (.cells #[Value.int .i64 c.fail, .int .i64 c.height, .int .i64 c.dx, .int .i64 c.eT, .int .i64 c.count] 208)).heap.size := nL hg hwa.size
   have a0 := Blk.new wo 208 #[Value.int .i64 c.fail, .int .i64 c.height, .int .i64 c.dx, .int .i64 c.eT, .int .i64 c.count]
   have hs0 := eG.qF h0
   go_upto_region 4 with fail
   rcases dC (c.fail < -1) with ⟨t0, d0⟩ | ⟨t0, d0⟩
   ·have HV : kF m.code.av.length c = false := by rw [Bool.eq_false_iff]; intro h; simp [kF] at h; omega
    clear t0
    go_quiet (fail)
    have HF := lH (HF.out HV)
    clear HN
    go_wp2_with fail
    go_ret
    exact ⟨ah HF.out.symm, (by first | exact hwa | exact bN hwa _ | exact aC hwa)⟩
   rcases dC ((m.code.av.length : Int) ≤ c.fail) with ⟨t1, d1⟩ | ⟨t1, d1⟩
   ·have HV : kF m.code.av.length c = false := by rw [Bool.eq_false_iff]; intro h; simp [kF] at h; omega
    clear t0 t1
    go_quiet (fail)
    have HF := lH (HF.out HV)
    clear HN
    go_wp2_with fail
    go_ret
    exact ⟨ah HF.out.symm, (by first | exact hwa | exact bN hwa _ | exact aC hwa)⟩
   rcases dC (c.height < 0) with ⟨t2, d2⟩ | ⟨t2, d2⟩
   ·have HV : kF m.code.av.length c = false := by rw [Bool.eq_false_iff]; intro h; simp [kF] at h; omega
    clear t0 t1 t2
    go_quiet (fail)
    have HF := lH (HF.out HV)
    clear HN
    go_wp2_with fail
    go_ret
    exact ⟨ah HF.out.symm, (by first | exact hwa | exact bN hwa _ | exact aC hwa)⟩
   rcases dC (c.dx < 0) with ⟨t3, d3⟩ | ⟨t3, d3⟩
   ·have HV : kF m.code.av.length c = false := by rw [Bool.eq_false_iff]; intro h; simp [kF] at h; omega
    clear t0 t1 t2 t3
    go_quiet (fail)
    have HF := lH (HF.out HV)
    clear HN
    go_wp2_with fail
    go_ret
    exact ⟨ah HF.out.symm, (by first | exact hwa | exact bN hwa _ | exact aC hwa)⟩
   rcases dC (c.eT < 0) with ⟨t4, d4⟩ | ⟨t4, d4⟩
   ·have HV : kF m.code.av.length c = false := by rw [Bool.eq_false_iff]; intro h; simp [kF] at h; omega
    clear t0 t1 t2 t3 t4
    go_quiet (fail)
    have HF := lH (HF.out HV)
    clear HN
    go_wp2_with fail
    go_ret
    exact ⟨ah HF.out.symm, (by first | exact hwa | exact bN hwa _ | exact aC hwa)⟩
   have HV : kF m.code.av.length c = true := by simp [kF]; omega
   clear t0 t1 t2 t3 t4
   go_quiet (fail)
   have HN := lH (HN.out HV)
   clear HF
   go_wp2_with fail
   go_roundw
   case rel => exact ⟨k + 1, by omega, by go_num, HN, (by first | exact hwa | exact bN hwa _ | exact aC hwa)⟩
   case measure => simp [intOf]; omega
  ·obtain rfl : k = l.length := by omega
   rw [List.take_length] at hgo
   go_wp2_with fail
   go_ret
   exact ⟨ah hgo.out.symm, hb⟩
theorem zU (c : gU) (x : Value) (left : Int) (w : World) (lo hi : Nat) (h : fA w lo hi gU.ay x c) (hhi : hi ≤ w.heap.size) (hl0 : 0 ≤ left) (hl1 : left ≤ 1048576) (hf : c.Fits) :
 Calls Tryz.prog 64 #[x, .int .i64 left] w fun e w' => e = .returned (.int .i64 (leftOf left c.dX)) ∧ Below w.heap.size w w' := by
 obtain ⟨lX, nfields, rfl, wO, I7, BD⟩ := gU.form h
 obtain ⟨fname, Jf⟩ := hf
 have HB : Hid (c.dX = c.name.size + (c.fields.length + sumOf ByteArray.size c.fields)) := rfl
 unfold maxLen at BD
 have NA := lH Jf
 clear Jf
 have hw0 : Below w.heap.size w (w.alloc (.cells #[Value.string c.name, .slice lX c.fields.length nfields, .int .i64 c.line] 130)) := bA _ _
 by_cases OY : left < (c.name.size : Nat)
 ·go_enter Tryz.func64, Tryz.ntmps64
  go_wp2_with fail
  go_ret
  exact ⟨eX (dM (by have := HB.out; omega)).symm, hw0⟩
 go_enter Tryz.func64, Tryz.ntmps64
 go_wp2_with fail
 refine (vF c.fields _ _ _ lo hi (wO.below hw0 hhi) (nT hhi hw0.size) (by omega) (by omega) NA.out).mono ?_; rintro e w1 ⟨rfl, hb1⟩
 have hw1 : Below w.heap.size w w1 := hw0.trans (hb1.mono hw0.size)
 have a1 := (Blk.new w 130 #[Value.string c.name, .slice lX c.fields.length nfields, .int .i64 c.line]).later hb1
 have ca := a1.cell
 have la := a1.lt
 by_cases GG : left - (c.name.size : Nat) < ((c.fields.length + sumOf ByteArray.size c.fields) : Nat)
 ·rw [dM GG]
  go_wp2_with fail
  go_ret
  exact ⟨eX (dM (by have := HB.out; omega)).symm, hw1⟩
 rw [ep GG]
 generalize hL : left - (c.name.size : Nat) - (((c.fields.length + sumOf ByteArray.size c.fields) : Nat) : Int) = mF
 have l1a : mF ≤ left - (c.name.size : Nat) - ((c.fields.length + sumOf ByteArray.size c.fields) : Nat) := by omega
 have l1b : left - (c.name.size : Nat) - ((c.fields.length + sumOf ByteArray.size c.fields) : Nat) ≤ mF := by omega
 clear hL
 go_wp2_with fail
 go_ret
 exact ⟨eX (by rw [ep (by have := HB.out; omega)]; have := HB.out; omega), hw1⟩
theorem vY (l : List gU) (v : Value) (left : Int) (w : World) (lo hi : Nat) (h : dz w lo hi 3 gU.ay v l) (hhi : hi ≤ w.heap.size) (hl0 : 0 ≤ left) (hl1 : left ≤ 1048576) (hf : ∀ c ∈ l, c.Fits) :
 Calls Tryz.prog 27 #[v, .int .i64 left] w fun e w' => e = .returned (.int .i64 (leftOf left (l.length + sumOf gU.dX l))) ∧ Below w.heap.size w w' := by
 obtain ⟨A, cap, rfl, hc1, hc2⟩ := h.shape
 unfold maxLen at hc2
 have HF := lH hf
 clear hf
 by_cases hn : left < l.length
 ·go_enter Tryz.func27, Tryz.ntmps27
  go_wp2_with fail
  go_ret
  exact ⟨eX (dM (by omega)).symm, bR _ _⟩
 go_enter Tryz.func27, Tryz.ntmps27
 go_wp2_with fail
 go_loopw [1, 5] (fun t i wr => ∃ k : Nat, k ≤ l.length ∧ i = .int .i64 k ∧ t = .int .i64 (left - l.length - sumOf gU.dX (l.take k)) ∧ sumOf gU.dX (l.take k) ≤ left - l.length ∧ Below w.heap.size w wr) (fun _ i _ => l.length - (intOf i).toNat)
 case atStart => exact ⟨0, nZ _, rfl, by simp [sumOf], by simp [sumOf]; omega, bR _ _⟩
 case round =>
  obtain ⟨k, hk, rfl, rfl, hle, hb⟩ := hrel
  obtain ⟨wo, rfl⟩ := nW wr
  have hz := hb.size
  by_cases hlt : k < l.length
  ·obtain ⟨c, hc⟩ : ∃ c, l[k]? = some c := ⟨_, gE hlt⟩
   obtain ⟨g, off, lX, nfields, rfl, hg1, hg2, hmem, hrep, q0, q1, q2⟩ := gU.at_ (h.below hb hhi) hc
   have HB := lH (rM (b := gU.dX) hc)
   have hft := HF.out c hmem
   clear hc hmem
   go_wp2_with fail
   refine (zU c _ _ _ _ _ hrep (by omega) (by omega) (by omega) hft).mono ?_; rintro e w1 ⟨rfl, hb1⟩
   have hb2 := hb.trans (hb1.mono hz)
   clear hrep q0 q1 q2
   by_cases hk1 : left - l.length - sumOf gU.dX (l.take k) < c.dX
   ·rw [dM hk1]
    go_wp2_with fail
    go_ret
    exact ⟨eX (dM (by have := HB.out; have := pX gU.dX l (k + 1); omega)).symm, hb2⟩
   ·rw [ep hk1]
    go_wp2_with fail
    go_roundw
    case rel => exact ⟨k + 1, by omega, by go_num, by rw [HB.out]; go_num, by rw [HB.out]; omega, hb2⟩
    case measure => simp [intOf]; omega
  ·obtain rfl : k = l.length := by omega
   rw [List.take_length] at hle ⊢
   go_wp2_with fail
   go_ret
   exact ⟨eX (by rw [ep (by omega)]; omega), hb⟩
theorem DT (l : List kZ) (v : Value) (left : Int) (w : World) (lo hi : Nat) (h : dz w lo hi 2 kZ.ay v l) (hhi : hi ≤ w.heap.size) (hl0 : 0 ≤ left) (hl1 : left ≤ 1048576) (hf : ∀ y ∈ l, y.Fits) :
 Calls Tryz.prog 32 #[v, .int .i64 left] w fun e w' => e = .returned (.int .i64 (leftOf left (l.length + sumOf kZ.dX l))) ∧ Below w.heap.size w w' := by
 obtain ⟨A, cap, rfl, hc1, hc2⟩ := h.shape
 unfold maxLen at hc2
 rw [wN (b := kZ.dX) (fun _ => rfl) l, Nat.add_zero]
 by_cases hn : left < l.length
 ·go_enter Tryz.func32, Tryz.ntmps32
  go_wp2_with fail
  go_ret
  exact ⟨eX (dM (by omega)).symm, bR _ _⟩
 go_enter Tryz.func32, Tryz.ntmps32
 go_wp2_with fail
 go_ret
 exact ⟨eX (by rw [ep (by omega)]), bR _ _⟩
theorem AV (l : List kH) (v : Value) (left : Int) (w : World) (lo hi : Nat) (h : dz w lo hi 5 kH.ay v l) (hhi : hi ≤ w.heap.size) (hl0 : 0 ≤ left) (hl1 : left ≤ 1048576) (hf : ∀ y ∈ l, y.Fits) :
 Calls Tryz.prog 67 #[v, .int .i64 left] w fun e w' => e = .returned (.int .i64 (leftOf left (l.length + sumOf kH.dX l))) ∧ Below w.heap.size w w' := by
 obtain ⟨A, cap, rfl, hc1, hc2⟩ := h.shape
 unfold maxLen at hc2
 rw [wN (b := kH.dX) (fun _ => rfl) l, Nat.add_zero]
 by_cases hn : left < l.length
 ·go_enter Tryz.func67, Tryz.ntmps67
  go_wp2_with fail
  go_ret
  exact ⟨eX (dM (by omega)).symm, bR _ _⟩
 go_enter Tryz.func67, Tryz.ntmps67
 go_wp2_with fail
 go_ret
 exact ⟨eX (by rw [ep (by omega)]), bR _ _⟩
theorem DU (c : kZ) (x : Value) (w : World) (lo hi : Nat) (h : fA w lo hi kZ.ay x c) (hhi : hi ≤ w.heap.size) (hbk : c.dX ≤ 1048576) :
 Calls Tryz.prog 86 #[x] w (uN kZ.ay c w) := by
 obtain rfl := kZ.form h
 go_enter Tryz.func86, Tryz.ntmps86
 go_wp2_with fail
 refine bodyPost_ret (v := .agg #[Value.int .i64 c.routine, .int .i64 c.frame]) ?_ rfl ⟨[Value.int .i64 c.routine, .int .i64 c.frame], rfl, (.gG (.gG .lu)), ?_⟩
 ·simp [results, Tryz.results86, go_sem]
 ·exact ((bA _ _).alloc (by simp) _).alloc (by simp; omega) _
theorem JJ : (Tryz.prog.info? 148).map (fun i => (i.zero, i.size, i.bytes)) = some (some (.agg #[.int .i64 0, .int .i64 0]), 2, 16) := by kernel_rfl
theorem Cr (l : List kZ) (v : Value) (w : World) (lo hi : Nat) (h : dz w lo hi 2 kZ.ay v l) (hhi : hi ≤ w.heap.size) (hl : l.length + sumOf kZ.dX l ≤ 1048576) :
 Calls Tryz.prog 46 #[v] w (vT 2 kZ.ay l w) := by
 obtain ⟨i0, hi0, hz0, hz1, hz2⟩ := info_parts JJ
 obtain ⟨A, cap, rfl, hc1, hc2⟩ := h.shape
 unfold maxLen at hc2
 go_enter Tryz.func46, Tryz.ntmps46
 go_wp2_with (first | (at_make; refine wpList_make_full w rfl (.tmp 6) (.tmp 6) 50 rfl w.heap.size 148 i0 _ 2 Tryz.underlying50 hi0 hz0 hz1 .i64 .i64 _ _ l.length rfl rfl rfl rfl (by rw [hz2]; omega) (by unfold maxLen; omega) (nR _) ?_))
 intro w1 hown hg
 have hb := kM hg (nR w.heap.size) (fun g hg => by cases hg)
 have hz : w.heap.size + 1 ≤ w1.heap.size := (hown.lt _ rfl).2
 obtain ⟨Z, hown⟩ : ∃ Z, w1.ownsRow w.heap.size 148 2 (.slice (some ⟨w.heap.size, 0, none⟩) l.length l.length) l.length Z := ⟨_, hown⟩
 have HZ := lH hown.1
 clear hg
 go_wp2_with fail
 go_loopw [4] (fun i wr => ∃ (k : Nat) (vs : List Value), k ≤ l.length ∧ i = .int .i64 k ∧ wr.ownsRow w.heap.size 148 2 (.slice (some ⟨w.heap.size, 0, none⟩) l.length l.length) l.length (vs ++ Z.drop (k * 2)) ∧ gZ wr (w.heap.size + 1) wr.heap.size (flat kZ.ay (l.take k)) vs ∧ Below w.heap.size w wr ∧ w.heap.size + 1 ≤ wr.heap.size) (fun i _ => l.length - (intOf i).toNat)
 case atStart => exact ⟨0, [], nZ _, rfl, by simpa using hown, by simp only [List.take_zero, oP]; exact .lu, hb, hz⟩
 case round =>
  clear hown hb hz
  obtain ⟨k, vs, hk, rfl, hown, hrep, hb, hz⟩ := hrel
  obtain ⟨wo, rfl⟩ := nW wr
  have hvs : vs.length = k * 2 := by rw [hrep.len, qJ kZ.gK, List.length_take, Nat.min_eq_left hk]
  have HV := lH hvs
  clear hvs
  by_cases hlt : k < l.length
  ·obtain ⟨c, hc⟩ : ∃ c, l[k]? = some c := ⟨_, gE hlt⟩
   obtain ⟨g, off, rfl, hg1, hg2, hmem, hcr, q0, q1⟩ := kZ.at_ (h.below hb hhi) hc
   have HD := lH (rz (f := kZ.ay) hc)
   have hbm := qK (b := kZ.dX) hmem
   clear hc hmem
   go_wp2_with fail
   refine (DU c _ _ _ _ hcr (by omega) (by omega)).mono ?_; rintro e w1 ⟨cs, rfl, hx, hb1⟩
   obtain hcs := kZ.form ⟨cs, rfl, hx.rep⟩
   obtain rfl : cs = [Value.int .i64 c.routine, .int .i64 c.frame] := congrArg Array.toList (Value.agg.inj hcs)
   have z1 := hb1.size
   have hown1 := pG hown hb1
   have qD := (hrep.below hb1 (nR _)).app hx hz z1
   have hb2 := hb.trans (hb1.mono (by omega))
   clear hown hrep hx hb1 hb hcr q0 q1
   obtain ⟨⟨o0, d0⟩, f0⟩ := gM hown1 (k * 2) (by omega)
   obtain ⟨⟨o1, d1⟩, f1⟩ := gM hown1 (k * 2 + 1) (by omega)
   have pO := qc [Value.int .i64 c.routine, .int .i64 c.frame] _ _ (k * 2) hown1
   rw [oq _ _ _ HV.out (by rw [HZ.out]; simp; omega)] at pO
   have qQ := gZ.gq (g := w.heap.size) (.inl (Nat.lt_succ_self _)) [Value.int .i64 c.routine, .int .i64 c.frame] _ (k * 2) qD
   have tC := lK (nR w.heap.size) [Value.int .i64 c.routine, .int .i64 c.frame] _ _ (k * 2) hb2
   have qR := kK w.heap.size [Value.int .i64 c.routine, .int .i64 c.frame] w1 (k * 2)
   simp only [gq, Nat.add_assoc, Nat.reduceAdd, List.length_cons, List.length_nil] at pO qQ tC qR
   have O2 := lH pO
   have R2 := lH qQ
   have S2 := lH qR
   clear pO qQ hown1 qD qR hcs
   go_wp2_with fail
   go_roundw
   case rel =>
    refine ⟨k + 1, vs ++ [Value.int .i64 c.routine, .int .i64 c.frame], by omega, by go_num, ?_, ?_, tC, by rw [S2.out]; omega⟩
    ·rw [Nat.succ_mul]; exact O2.out
    ·rw [HD.out, S2.out]; exact R2.out
   case measure => simp [intOf]; omega
  ·obtain rfl : k = l.length := by omega
   rw [List.take_length] at hrep
   go_wp2_with fail
   go_ret
   rw [List.drop_eq_nil_of_le (by rw [HZ.out]; exact nR _), List.append_nil] at hown
   exact ⟨_, rfl, dI.mk_ (mid := w.heap.size + 1) hown hrep (by simp [Value.ownBlock]) (by omega) hz, hb⟩
theorem DV (c : fV) (x : Value) (w : World) (lo hi : Nat) (h : fA w lo hi fV.ay x c) (hhi : hi ≤ w.heap.size) (hbk : c.dX ≤ 1048576) :
 Calls Tryz.prog 85 #[x] w (uN fV.ay c w) := by
 obtain ⟨pP, oV, rG, qP, rfl, yI, KU, EU, hkeys, Oz, I4⟩ := fV.form h
 unfold fV.dX at hbk
 unfold maxLen at EU I4
 go_enter Tryz.func85, Tryz.ntmps85
 go_wp2_with fail
 have fr0 := rZ.new w 136 97 #[Value.int .i64 c.kind, .int .i64 c.tag, .int .i64 c.ak, .slice pP c.aj.length oV, .slice rG c.aX.length qP] #[Value.int .i64 0, .int .i64 0, .int .i64 0, .slice none 0 0, .slice none 0 0] #[Value.int .i64 c.kind, .int .i64 c.tag, .int .i64 c.ak, .slice none 0 0, .slice none 0 0]
 refine (rA c.aj _ _ lo hi (yI.below fr0.bel hhi) (by simp; omega) (by omega)).mono ?_; rintro e w1 ⟨v1, rfl, r1, hb1⟩
 obtain ⟨B1, m1, rfl, -, -⟩ := r1.rep.shape
 have fr1 := fr0.later hb1
 have z1 : w.heap.size + 3 ≤ w1.heap.size := by have := fr1.var.lt; omega
 have R1 : dI w1 (w.heap.size + 3) w1.heap.size 6 aQ.ay (.slice B1 c.aj.length m1) c.aj := r1.wide (by simp) (nR _)
 clear hb1 r1
 obtain ⟨ca, co, fo, cr, fr', la, lv⟩ := fr1.rJ
 go_wp2_with fail
 refine (rA c.aX _ _ lo hi (hkeys.below (fr1.bel.setCell (by simp; omega) _) hhi) (nT hhi (fr1.bel.setCell (by simp; omega) _).size) (by omega)).mono ?_; rintro e w2 ⟨v2, rfl, r2, hb2⟩
 obtain ⟨B2, m2, rfl, -, -⟩ := r2.rep.shape
 have fr2 := (fr1.set _ _).later hb2
 have z2 : w.heap.size + 3 ≤ w2.heap.size := by have := fr2.var.lt; omega
 have R2 : dI w2 w1.heap.size w2.heap.size 6 aQ.ay (.slice B2 c.aX.length m2) c.aX := r2.wide (by simp [World.setCell]) (nR _)
 have y2 : w1.heap.size ≤ w2.heap.size := by have := hb2.size; simpa [World.setCell] using this
 replace R1 := dI.below (dI.eY R1 (.inl (by simp <;> omega)) _) hb2 (by simp [World.setCell] <;> omega)
 clear co fo ca cr fr' hb2 r2 la lv
 obtain ⟨ca, co, fo, cr, fr', la, lv⟩ := fr2.rJ
 go_wp2_with fail
 refine bodyPost_ret (v := .agg #[Value.int .i64 c.kind, .int .i64 c.tag, .int .i64 c.ak, .slice B1 c.aj.length m1, .slice B2 c.aX.length m2]) ?_ rfl ⟨[Value.int .i64 c.kind, .int .i64 c.tag, .int .i64 c.ak, .slice B1 c.aj.length m1, .slice B2 c.aX.length m2], rfl, (.gG (.gG (.gG (.rR (mid := w1.heap.size) ?_ (.rR (mid := w2.heap.size) ?_ .lu (by omega) (by first | (simp [World.setCell] <;> omega) | exact nR _ | omega)) (by omega) (by first | (simp [World.setCell] <;> omega) | exact nR _ | omega))))), ?_⟩
 ·simp [results, Tryz.results85, go_sem, cr]
 ·refine dI.wide (lo := w.heap.size + 3) (hi := w1.heap.size) ?_ (by omega) (nR _)
  iterate 6 refine dI.eY ?_ (.inl (by simp <;> omega)) _
  exact R1
 ·refine dI.wide (lo := w1.heap.size) (hi := w2.heap.size) ?_ (by omega) (nR _)
  iterate 6 refine dI.eY ?_ (.inl (by simp <;> omega)) _
  exact R2
 ·iterate 6 refine Below.setCell ?_ (by simp <;> omega) _
  exact fr2.bel
theorem JK : (Tryz.prog.info? 97).map (fun i => (i.zero, i.size, i.bytes)) = some (some (.agg #[.int .i64 0, .int .i64 0, .int .i64 0, .slice none 0 0, .slice none 0 0]), 5, 72) := by kernel_rfl
theorem Ct (l : List fV) (v : Value) (w : World) (lo hi : Nat) (h : dz w lo hi 5 fV.ay v l) (hhi : hi ≤ w.heap.size) (hl : l.length + sumOf fV.dX l ≤ 1048576) :
 Calls Tryz.prog 44 #[v] w (vT 5 fV.ay l w) := by
 obtain ⟨i0, hi0, hz0, hz1, hz2⟩ := info_parts JK
 obtain ⟨A, cap, rfl, hc1, hc2⟩ := h.shape
 unfold maxLen at hc2
 go_enter Tryz.func44, Tryz.ntmps44
 go_wp2_with (first | (at_make; refine wpList_make_full w rfl (.tmp 6) (.tmp 6) 48 rfl w.heap.size 97 i0 _ 5 Tryz.underlying48 hi0 hz0 hz1 .i64 .i64 _ _ l.length rfl rfl rfl rfl (by rw [hz2]; omega) (by unfold maxLen; omega) (nR _) ?_))
 intro w1 hown hg
 have hb := kM hg (nR w.heap.size) (fun g hg => by cases hg)
 have hz : w.heap.size + 1 ≤ w1.heap.size := (hown.lt _ rfl).2
 obtain ⟨Z, hown⟩ : ∃ Z, w1.ownsRow w.heap.size 97 5 (.slice (some ⟨w.heap.size, 0, none⟩) l.length l.length) l.length Z := ⟨_, hown⟩
 have HZ := lH hown.1
 clear hg
 go_wp2_with fail
 go_loopw [4] (fun i wr => ∃ (k : Nat) (vs : List Value), k ≤ l.length ∧ i = .int .i64 k ∧ wr.ownsRow w.heap.size 97 5 (.slice (some ⟨w.heap.size, 0, none⟩) l.length l.length) l.length (vs ++ Z.drop (k * 5)) ∧ gZ wr (w.heap.size + 1) wr.heap.size (flat fV.ay (l.take k)) vs ∧ Below w.heap.size w wr ∧ w.heap.size + 1 ≤ wr.heap.size) (fun i _ => l.length - (intOf i).toNat)
 case atStart => exact ⟨0, [], nZ _, rfl, by simpa using hown, by simp only [List.take_zero, oP]; exact .lu, hb, hz⟩
 case round =>
  clear hown hb hz
  obtain ⟨k, vs, hk, rfl, hown, hrep, hb, hz⟩ := hrel
  obtain ⟨wo, rfl⟩ := nW wr
  have hvs : vs.length = k * 5 := by rw [hrep.len, qJ fV.gK, List.length_take, Nat.min_eq_left hk]
  have HV := lH hvs
  clear hvs
  by_cases hlt : k < l.length
  ·obtain ⟨c, hc⟩ : ∃ c, l[k]? = some c := ⟨_, gE hlt⟩
   obtain ⟨g, off, pP, oV, rG, qP, rfl, hg1, hg2, hmem, hcr, q0, q1, q2, q3, q4⟩ := fV.at_ (h.below hb hhi) hc
   have HD := lH (rz (f := fV.ay) hc)
   have hbm := qK (b := fV.dX) hmem
   clear hc hmem
   go_wp2_with fail
   refine (DV c _ _ _ _ hcr (by omega) (by omega)).mono ?_; rintro e w1 ⟨cs, rfl, hx, hb1⟩
   obtain ⟨sI, sJ, uY, uZ, hcs, _, _, _, _, _, _⟩ := fV.form ⟨cs, rfl, hx.rep⟩
   obtain rfl : cs = [Value.int .i64 c.kind, .int .i64 c.tag, .int .i64 c.ak, .slice sI c.aj.length sJ, .slice uY c.aX.length uZ] := congrArg Array.toList (Value.agg.inj hcs)
   have z1 := hb1.size
   have hown1 := pG hown hb1
   have qD := (hrep.below hb1 (nR _)).app hx hz z1
   have hb2 := hb.trans (hb1.mono (by omega))
   clear hown hrep hx hb1 hb hcr q0 q1 q2 q3 q4
   obtain ⟨⟨o0, d0⟩, f0⟩ := gM hown1 (k * 5) (by omega)
   obtain ⟨⟨o1, d1⟩, f1⟩ := gM hown1 (k * 5 + 1) (by omega)
   obtain ⟨⟨o2, d2⟩, f2⟩ := gM hown1 (k * 5 + 2) (by omega)
   obtain ⟨⟨o3, d3⟩, f3⟩ := gM hown1 (k * 5 + 3) (by omega)
   obtain ⟨⟨o4, d4⟩, f4⟩ := gM hown1 (k * 5 + 4) (by omega)
   have pO := qc [Value.int .i64 c.kind, .int .i64 c.tag, .int .i64 c.ak, .slice sI c.aj.length sJ, .slice uY c.aX.length uZ] _ _ (k * 5) hown1
   rw [oq _ _ _ HV.out (by rw [HZ.out]; simp; omega)] at pO
   have qQ := gZ.gq (g := w.heap.size) (.inl (Nat.lt_succ_self _)) [Value.int .i64 c.kind, .int .i64 c.tag, .int .i64 c.ak, .slice sI c.aj.length sJ, .slice uY c.aX.length uZ] _ (k * 5) qD
   have tC := lK (nR w.heap.size) [Value.int .i64 c.kind, .int .i64 c.tag, .int .i64 c.ak, .slice sI c.aj.length sJ, .slice uY c.aX.length uZ] _ _ (k * 5) hb2
   have qR := kK w.heap.size [Value.int .i64 c.kind, .int .i64 c.tag, .int .i64 c.ak, .slice sI c.aj.length sJ, .slice uY c.aX.length uZ] w1 (k * 5)
   simp only [gq, Nat.add_assoc, Nat.reduceAdd, List.length_cons, List.length_nil] at pO qQ tC qR
   have O2 := lH pO
   have R2 := lH qQ
   have S2 := lH qR
   clear pO qQ hown1 qD qR hcs
   go_wp2_with fail
   go_roundw
   case rel =>
    refine ⟨k + 1, vs ++ [Value.int .i64 c.kind, .int .i64 c.tag, .int .i64 c.ak, .slice sI c.aj.length sJ, .slice uY c.aX.length uZ], by omega, by go_num, ?_, ?_, tC, by rw [S2.out]; omega⟩
    ·rw [Nat.succ_mul]; exact O2.out
    ·rw [HD.out, S2.out]; exact R2.out
   case measure => simp [intOf]; omega
  ·obtain rfl : k = l.length := by omega
   rw [List.take_length] at hrep
   go_wp2_with fail
   go_ret
   rw [List.drop_eq_nil_of_le (by rw [HZ.out]; exact nR _), List.append_nil] at hown
   exact ⟨_, rfl, dI.mk_ (mid := w.heap.size + 1) hown hrep (by simp [Value.ownBlock]) (by omega) hz, hb⟩
theorem zV (c : iY) (x : Value) (w : World) (lo hi : Nat) (h : fA w lo hi iY.ay x c) (hhi : hi ≤ w.heap.size) (hbk : c.dX ≤ 1048576) :
 Calls Tryz.prog 155 #[x] w (uN iY.ay c w) := by
 obtain ⟨tu, nargs, rfl, hargs, OB, I6⟩ := iY.form h
 unfold iY.dX at hbk
 unfold maxLen at I6
 go_enter Tryz.func155, Tryz.ntmps155
 go_wp2_with fail
 have fr0 := rZ.new w 189 158 #[Value.int .i64 c.kind, .int .i64 c.op, .int .i64 c.count, .slice tu c.args.length nargs] #[Value.int .i64 0, .int .i64 0, .int .i64 0, .slice none 0 0] #[Value.int .i64 c.kind, .int .i64 c.op, .int .i64 c.count, .slice none 0 0]
 refine (rA c.args _ _ lo hi (hargs.below fr0.bel hhi) (by simp; omega) (by omega)).mono ?_; rintro e w1 ⟨v1, rfl, r1, hb1⟩
 obtain ⟨B1, m1, rfl, -, -⟩ := r1.rep.shape
 have fr1 := fr0.later hb1
 have z1 : w.heap.size + 3 ≤ w1.heap.size := by have := fr1.var.lt; omega
 have R1 : dI w1 (w.heap.size + 3) w1.heap.size 6 aQ.ay (.slice B1 c.args.length m1) c.args := r1.wide (by simp) (nR _)
 clear hb1 r1
 obtain ⟨ca, co, fo, cr, fr', la, lv⟩ := fr1.rJ
 go_wp2_with fail
 refine bodyPost_ret (v := .agg #[Value.int .i64 c.kind, .int .i64 c.op, .int .i64 c.count, .slice B1 c.args.length m1]) ?_ rfl ⟨[Value.int .i64 c.kind, .int .i64 c.op, .int .i64 c.count, .slice B1 c.args.length m1], rfl, (.gG (.gG (.gG (.rR (mid := w1.heap.size) ?_ .lu (by omega) (by first | (simp [World.setCell] <;> omega) | exact nR _ | omega))))), ?_⟩
 ·simp [results, Tryz.results155, go_sem, cr]
 ·refine dI.wide (lo := w.heap.size + 3) (hi := w1.heap.size) ?_ (by omega) (nR _)
  iterate 5 refine dI.eY ?_ (.inl (by simp <;> omega)) _
  exact R1
 ·iterate 5 refine Below.setCell ?_ (by simp <;> omega) _
  exact fr1.bel
theorem Fq (c : jG) (x y : Value) (w : World) (lo hi lo' hi' : Nat) (h : fA w lo hi jG.ay x c) (h' : fA w lo' hi' jG.ay y c) (hhi : hi ≤ w.heap.size) (eP : hi' ≤ w.heap.size) :
 Calls Tryz.prog 145 #[x, y] w fun e w' => e = .returned (.bool true) ∧ Below w.heap.size w w' := by
 obtain ⟨jf, iH, jg, iI, jh, iJ, pQ, oW, kr, jO, rfl, sS, Cu, wY, hmarks, Cv, wZ, sU, Cw, xg, hcells, Lm, Fu, uj, Er, xY⟩ := jG.form h
 obtain ⟨nD, nH, nI, nJ, nM, nN, sK, sM, pJ, pK, rfl, Fv, NB, NC, Fw, ND, NF, Fx, NG, NH, hcells', TX, TY, Il, Pp, Pq⟩ := jG.form h'
 have K3 : (c.kind != c.kind) = false := by simp
 have bpc : (c.pc != c.pc) = false := by simp
 have H6 : (c.frame != c.frame) = false := by simp
 have Vh : (c.base != c.base) = false := by simp
 have IY : (c.line != c.line) = false := by simp
 have NI : (c.object != c.object) = false := by simp
 have QW : (c.gN != c.gN) = false := by simp
 have T7 : (c.kJ != c.kJ) = false := by simp
 have Pt : (c.fQ != c.fQ) = false := by simp
 have hw0 : Below w.heap.size w ((w.alloc (.cells #[Value.int .i64 c.kind, .int .i64 c.pc, .int .i64 c.frame, .int .i64 c.base, .int .i64 c.line, .int .i64 c.object, .slice jf c.dZ.length iH, .slice jg c.dU.length iI, .slice jh c.eu.length iJ, .slice pQ c.cells.length oW, .int .i64 c.gN, .int .i64 c.kJ, .int .i64 c.fQ, .slice kr c.fP.length jO] 160)).alloc (.cells #[Value.int .i64 c.kind, .int .i64 c.pc, .int .i64 c.frame, .int .i64 c.base, .int .i64 c.line, .int .i64 c.object, .slice nD c.dZ.length nH, .slice nI c.dU.length nJ, .slice nM c.eu.length nN, .slice sK c.cells.length sM, .int .i64 c.gN, .int .i64 c.kJ, .int .i64 c.fQ, .slice pJ c.fP.length pK] 160)) := (bA _ _).alloc (by simp) _
 have a0 := (Blk.new w 160 #[Value.int .i64 c.kind, .int .i64 c.pc, .int .i64 c.frame, .int .i64 c.base, .int .i64 c.line, .int .i64 c.object, .slice jf c.dZ.length iH, .slice jg c.dU.length iI, .slice jh c.eu.length iJ, .slice pQ c.cells.length oW, .int .i64 c.gN, .int .i64 c.kJ, .int .i64 c.fQ, .slice kr c.fP.length jO]).alloc (.cells #[Value.int .i64 c.kind, .int .i64 c.pc, .int .i64 c.frame, .int .i64 c.base, .int .i64 c.line, .int .i64 c.object, .slice nD c.dZ.length nH, .slice nI c.dU.length nJ, .slice nM c.eu.length nN, .slice sK c.cells.length sM, .int .i64 c.gN, .int .i64 c.kJ, .int .i64 c.fQ, .slice pJ c.fP.length pK] 160)
 have e0 := Blk.newAt (w.alloc (.cells #[Value.int .i64 c.kind, .int .i64 c.pc, .int .i64 c.frame, .int .i64 c.base, .int .i64 c.line, .int .i64 c.object, .slice jf c.dZ.length iH, .slice jg c.dU.length iI, .slice jh c.eu.length iJ, .slice pQ c.cells.length oW, .int .i64 c.gN, .int .i64 c.kJ, .int .i64 c.fQ, .slice kr c.fP.length jO] 160)) 160 #[Value.int .i64 c.kind, .int .i64 c.pc, .int .i64 c.frame, .int .i64 c.base, .int .i64 c.line, .int .i64 c.object, .slice nD c.dZ.length nH, .slice nI c.dU.length nJ, .slice nM c.eu.length nN, .slice sK c.cells.length sM, .int .i64 c.gN, .int .i64 c.kJ, .int .i64 c.fQ, .slice pJ c.fP.length pK] (w.heap.size + 1) (by simp)
 go_enter Tryz.func145, Tryz.ntmps145
 go_wp2_with fail
 refine (rV c.dZ _ _ _ lo hi lo' hi' (sS.below hw0 hhi) (Fv.below hw0 eP) (nT hhi hw0.size) (nT eP hw0.size)).mono ?_; rintro e w1 ⟨rfl, hb1⟩
 have hw1 : Below w.heap.size w w1 := hw0.trans (hb1.mono hw0.size)
 have a1 := a0.later hb1
 have e1 := e0.later hb1
 have ca := a1.cell
 have ce := e1.cell
 have la := a1.lt
 have le := e1.lt
 clear hb1
 go_wp2_with fail
 refine (AQ c.dU _ _ _ lo hi lo' hi' (hmarks.below hw1 hhi) (Fw.below hw1 eP) (nT hhi hw1.size) (nT eP hw1.size)).mono ?_; rintro e w2 ⟨rfl, hb2⟩
 have hw2 : Below w.heap.size w w2 := hw1.trans (hb2.mono hw1.size)
 have a2 := a1.later hb2
 have e2 := e1.later hb2
 clear ca ce la le
 have ca := a2.cell
 have ce := e2.cell
 have la := a2.lt
 have le := e2.lt
 clear hb2
 go_wp2_with fail
 refine (AB c.eu _ _ _ lo hi lo' hi' (sU.below hw2 hhi) (Fx.below hw2 eP) (nT hhi hw2.size) (nT eP hw2.size)).mono ?_; rintro e w3 ⟨rfl, hb3⟩
 have hw3 : Below w.heap.size w w3 := hw2.trans (hb3.mono hw2.size)
 have a3 := a2.later hb3
 have e3 := e2.later hb3
 clear ca ce la le
 have ca := a3.cell
 have ce := e3.cell
 have la := a3.lt
 have le := e3.lt
 clear hb3
 go_wp2_with fail
 refine (yV c.cells _ _ _ lo hi lo' hi' (hcells.below hw3 hhi) (hcells'.below hw3 eP) (nT hhi hw3.size) (nT eP hw3.size)).mono ?_; rintro e w4 ⟨rfl, hb4⟩
 have hw4 : Below w.heap.size w w4 := hw3.trans (hb4.mono hw3.size)
 have a4 := a3.later hb4
 have e4 := e3.later hb4
 clear ca ce la le
 have ca := a4.cell
 have ce := e4.cell
 have la := a4.lt
 have le := e4.lt
 clear hb4
 go_wp2_with fail
 refine (Bn c.gen _ _ _ lo hi lo' hi' (iY.mk_ (uj.below hw4 hhi)) (iY.mk_ (Il.below hw4 eP)) (nT hhi hw4.size) (nT eP hw4.size)).mono ?_; rintro e w5 ⟨rfl, hb5⟩
 have hw5 : Below w.heap.size w w5 := hw4.trans (hb5.mono hw4.size)
 have a5 := a4.later hb5
 have e5 := e4.later hb5
 clear ca ce la le
 have ca := a5.cell
 have ce := e5.cell
 have la := a5.lt
 have le := e5.lt
 clear hb5
 go_wp2_with fail
 go_ret
 exact ⟨rfl, hw5⟩
theorem DW (l : List jG) (v u : Value) (w : World) (lo hi lo' hi' : Nat) (h : dz w lo hi 14 jG.ay v l) (h' : dz w lo' hi' 14 jG.ay u l) (hhi : hi ≤ w.heap.size) (eP : hi' ≤ w.heap.size) :
 Calls Tryz.prog 110 #[v, u] w fun e w' => e = .returned (.bool true) ∧ Below w.heap.size w w' := by
 obtain ⟨A, cap, rfl, hc1, hc2⟩ := h.shape
 obtain ⟨A', cap', rfl, hc1', hc2'⟩ := h'.shape
 unfold maxLen at hc2 hc2'
 have hne : ((l.length : Int) != (l.length : Int)) = false := by simp
 go_enter Tryz.func110, Tryz.ntmps110
 go_wp2_with fail
 go_loopw [5] (fun i wr => ∃ k : Nat, k ≤ l.length ∧ i = .int .i64 k ∧ Below w.heap.size w wr) (fun i _ => l.length - (intOf i).toNat)
 case atStart => exact ⟨0, nZ _, rfl, bR _ _⟩
 case round =>
  obtain ⟨k, hk, rfl, hb⟩ := hrel
  obtain ⟨wo, rfl⟩ := nW wr
  have hz := hb.size
  by_cases hlt : k < l.length
  ·obtain ⟨c, hc⟩ : ∃ c, l[k]? = some c := ⟨_, gE hlt⟩
   obtain ⟨g, off, jf, iH, jg, iI, jh, iJ, pQ, oW, kr, jO, rfl, hg1, hg2, hmem, hrep, q0, q1, q2, q3, q4, q5, q6, q7, q8, q9, q10, q11, q12, q13⟩ := jG.at_ (h.below hb hhi) hc
   obtain ⟨g', off', nD, nH, nI, nJ, nM, nN, sK, sM, pJ, pK, rfl, hg1', wE, tF, qE, p0, p1, p2, p3, p4, p5, p6, p7, p8, p9, p10, p11, p12, p13⟩ := jG.at_ (h'.below hb eP) hc
   have e0 : (0 : Int) ≤ (k : Int) := by omega
   have e8 : (k : Int) < (l.length : Int) := by omega
   have y1 : hi ≤ wo.drew.heap.size := nT hhi hz
   have y2 : hi' ≤ wo.drew.heap.size := nT eP hz
   have t1 := nL hg2 y1
   have t2 := nL wE y2
   clear hc hmem tF
   go_wp2_with fail
   go_region_held3 (fun w' => (w'.cell? ⟨g, off + k * 14, none⟩ = some (.int .i64 c.kind) ∧ w'.cell? ⟨g, off + k * 14 + 1, none⟩ = some (.int .i64 c.pc) ∧ w'.cell? ⟨g, off + k * 14 + 2, none⟩ = some (.int .i64 c.frame) ∧ w'.cell? ⟨g, off + k * 14 + 3, none⟩ = some (.int .i64 c.base) ∧ w'.cell? ⟨g, off + k * 14 + 4, none⟩ = some (.int .i64 c.line) ∧ w'.cell? ⟨g, off + k * 14 + 5, none⟩ = some (.int .i64 c.object) ∧ w'.cell? ⟨g, off + k * 14 + 6, none⟩ = some (.slice jf c.dZ.length iH) ∧ w'.cell? ⟨g, off + k * 14 + 7, none⟩ = some (.slice jg c.dU.length iI) ∧ w'.cell? ⟨g, off + k * 14 + 8, none⟩ = some (.slice jh c.eu.length iJ) ∧ w'.cell? ⟨g, off + k * 14 + 9, none⟩ = some (.slice pQ c.cells.length oW) ∧ w'.cell? ⟨g, off + k * 14 + 10, none⟩ = some (.int .i64 c.gN) ∧ w'.cell? ⟨g, off + k * 14 + 11, none⟩ = some (.int .i64 c.kJ) ∧ w'.cell? ⟨g, off + k * 14 + 12, none⟩ = some (.int .i64 c.fQ) ∧ w'.cell? ⟨g, off + k * 14 + 13, none⟩ = some (.slice kr c.fP.length jO)) ∧ (w'.cell? ⟨g', off' + k * 14, none⟩ = some (.int .i64 c.kind) ∧ w'.cell? ⟨g', off' + k * 14 + 1, none⟩ = some (.int .i64 c.pc) ∧ w'.cell? ⟨g', off' + k * 14 + 2, none⟩ = some (.int .i64 c.frame) ∧ w'.cell? ⟨g', off' + k * 14 + 3, none⟩ = some (.int .i64 c.base) ∧ w'.cell? ⟨g', off' + k * 14 + 4, none⟩ = some (.int .i64 c.line) ∧ w'.cell? ⟨g', off' + k * 14 + 5, none⟩ = some (.int .i64 c.object) ∧ w'.cell? ⟨g', off' + k * 14 + 6, none⟩ = some (.slice nD c.dZ.length nH) ∧ w'.cell? ⟨g', off' + k * 14 + 7, none⟩ = some (.slice nI c.dU.length nJ) ∧ w'.cell? ⟨g', off' + k * 14 + 8, none⟩ = some (.slice nM c.eu.length nN) ∧ w'.cell? ⟨g', off' + k * 14 + 9, none⟩ = some (.slice sK c.cells.length sM) ∧ w'.cell? ⟨g', off' + k * 14 + 10, none⟩ = some (.int .i64 c.gN) ∧ w'.cell? ⟨g', off' + k * 14 + 11, none⟩ = some (.int .i64 c.kJ) ∧ w'.cell? ⟨g', off' + k * 14 + 12, none⟩ = some (.int .i64 c.fQ) ∧ w'.cell? ⟨g', off' + k * 14 + 13, none⟩ = some (.slice pJ c.fP.length pK)))
    (first | exact ⟨⟨q0, q1, q2, q3, q4, q5, q6, q7, q8, q9, q10, q11, q12, q13⟩, p0, p1, p2, p3, p4, p5, p6, p7, p8, p9, p10, p11, p12, p13⟩ | exact ⟨⟨(hbA.cell t1).trans q0, (hbA.cell t1).trans q1, (hbA.cell t1).trans q2, (hbA.cell t1).trans q3, (hbA.cell t1).trans q4, (hbA.cell t1).trans q5, (hbA.cell t1).trans q6, (hbA.cell t1).trans q7, (hbA.cell t1).trans q8, (hbA.cell t1).trans q9, (hbA.cell t1).trans q10, (hbA.cell t1).trans q11, (hbA.cell t1).trans q12, (hbA.cell t1).trans q13⟩, (hbA.cell t2).trans p0, (hbA.cell t2).trans p1, (hbA.cell t2).trans p2, (hbA.cell t2).trans p3, (hbA.cell t2).trans p4, (hbA.cell t2).trans p5, (hbA.cell t2).trans p6, (hbA.cell t2).trans p7, (hbA.cell t2).trans p8, (hbA.cell t2).trans p9, (hbA.cell t2).trans p10, (hbA.cell t2).trans p11, (hbA.cell t2).trans p12, (hbA.cell t2).trans p13⟩)
    ((go_at_call 145; refine (Fq c _ _ _ _ _ _ _ (hrep.same (Same.refl _).drew) (qE.same (Same.refl _).drew) y1 y2).mono ?_; rintro e wA ⟨rfl, hbA⟩))
   have hb2 : Below w.heap.size w wA := hb.drew.trans (hbA.mono hz)
   clear hrep qE q0 q1 q2 q3 q4 q5 q6 q7 q8 q9 q10 q11 q12 q13 p0 p1 p2 p3 p4 p5 p6 p7 p8 p9 p10 p11 p12 p13
   go_wp2_with fail
   go_roundw
   case rel => exact ⟨k + 1, by omega, by go_num, hb2⟩
   case measure => simp [intOf]; omega
  ·obtain rfl : k = l.length := by omega
   go_wp2_with fail
   go_ret
   exact ⟨rfl, hb⟩
end Go.Proofs.YtoddlphekcihgaaGreatDoor
