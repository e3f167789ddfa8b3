/- Rw of values, cells: which are good, of the program. slices.Index and slices.Lp of values, Lr of the program; OE of the reference.  -/
import Derived.Test.YtoddlphekcihgaaGreatDoorQ12
import Derived.Test.YtoddlphekcihgaaGreatDoorQ13
import Derived.Laws.StructEq
import Derived.Shelf.SlicesQ.Contains
set_option maxRecDepth 100000
set_option maxHeartbeats 8000000
set_option linter.unusedVariables false
set_option linter.unusedSimpArgs false
namespace Go.Proofs.YtoddlphekcihgaaGreatDoor
open Go.RowKit
theorem Cx (s : dP) (c : aQ) (x : Value) (w : World) {g off lo hi lo' hi' : Nat} (h : At w g off lo hi dP.ay s) (hx : fA w lo' hi' aQ.ay x c) :
 Calls Tryz.prog 138 #[.pointer (some ⟨g, off, none⟩), x] w fun e w' => e = .returned (.bool (ig s c)) ∧ Below w.heap.size w w' := by
 obtain rfl := aQ.form hx
 have hwa : Below w.heap.size w (w.alloc (.cells #[Value.int .i64 c.kind, .int .i64 c.number, .int .i64 c.index, .string c.text, .int .i64 c.eB, .int .i64 c.dW] 56)) := bA _ _
 have h0 := h.below hwa
 clear h hx
 by_cases hk : c.kind ≤ 12
 ·have D := lH (dT hk)
  go_enter Tryz.func138, Tryz.ntmps138
  go_wp2_with fail
  refine (mX s c _ _ h0 (aQ.mk_ (lo := 0) (hi := 0))).mono ?_; rintro e w1 ⟨rfl, hb1⟩
  have hw1 := hwa.trans (hb1.mono hwa.size)
  go_wp2_with fail
  go_ret
  exact ⟨ah (by unfold ig; rw [D.out]; rfl), hw1⟩
 ·have D := lH (dF hk)
  go_enter Tryz.func138, Tryz.ntmps138
  go_wp2_with fail
  go_ret
  exact ⟨ah (by unfold ig; rw [D.out]; rfl), hwa⟩
theorem fE (s : dP) (l : List aQ) (v : Value) (w : World) {g off lo hi lo' hi' : Nat} (h : At w g off lo hi dP.ay s) (hv : dz w lo' hi' 6 aQ.ay v l) (hhi : hi' ≤ w.heap.size) :
 Calls Tryz.prog 95 #[.pointer (some ⟨g, off, none⟩), v] w fun e w' => e = .returned (.bool (l.all (ig s))) ∧ Below w.heap.size w w' := by
 obtain ⟨A, cap, rfl, hc1, hc2⟩ := hv.shape
 unfold maxLen at hc2
 go_enter Tryz.func95, Tryz.ntmps95
 go_wp2_with fail
 go_loopw [9] (fun i wr => ∃ k : Nat, k ≤ l.length ∧ i = .int .i64 k ∧ Hid ((l.take k).all (ig s) = true) ∧ Below w.heap.size w wr) (fun i _ => l.length - (intOf i).toNat)
 case atStart => exact ⟨0, nZ _, rfl, by simp [Hid], bR _ _⟩
 case round =>
  obtain ⟨k, hk, rfl, hgo, hb⟩ := hrel
  obtain ⟨wo, rfl⟩ := nW wr
  have hz := hb.size
  by_cases hlt : k < l.length
  ·obtain ⟨c, hc⟩ : ∃ c, l[k]? = some c := ⟨_, gE hlt⟩
   obtain ⟨g', off', rfl, hg1, hg2, hmem, hrep, q0, q1, q2, q3, q4, q5⟩ := aQ.at_ (hv.below hb hhi) hc
   have hwa : Below w.heap.size w (wo.alloc (.cells #[Value.int .i64 c.kind, .int .i64 c.number, .int .i64 c.index, .string c.text, .int .i64 c.eB, .int .i64 c.dW] 56)) := hb.alloc hz _
   have h0 := h.below hwa
   have HN := lH (fun h => fJ (q := ig s) hc hgo.out h)
   have HF := lH (fun h => lI (q := ig s) (mG hc) h)
   clear hc hmem hrep hgo
   go_wp2_with fail
   refine (Cx s c _ _ h0 (aQ.mk_ (lo := 0) (hi := 0))).mono ?_; rintro e w1 ⟨rfl, hb1⟩
   have hw1 := hwa.trans (hb1.mono (nT hz (by simp)))
   clear q0 q1 q2 q3 q4 q5 hb1 h0
   cases hq : ig s c with
   | true =>
     have HN := lH (HN.out hq)
     clear hq HF
     go_wp2_with fail
     go_roundw
     case rel => exact ⟨k + 1, by omega, by go_num, HN, hw1⟩
     case measure => simp [intOf]; omega
   | false =>
     have HF := lH (HF.out hq)
     clear hq HN
     go_wp2_with fail
     go_ret
     exact ⟨ah HF.out.symm, hw1⟩
  ·obtain rfl : k = l.length := by omega
   rw [List.take_length] at hgo
   go_wp2_with fail
   go_ret
   exact ⟨ah hgo.out.symm, hb⟩
theorem NL (a b c d : Int) (w : World) : (Op.equalIn 9999 54 (.agg #[.int .i64 a, .int .i64 b]) (.agg #[.int .i64 c, .int .i64 d])).run Tryz.prog w = .ok (a == c && b == d) w := by
 have u3 := Tryz.underlying3
 have z3 := Tryz.sizeOf3
 have a3 := Tryz.isAgg3
 have hS2 : Tryz.prog.underlying 54 = some (.struct (Tryz.prog.fieldsOf 54)) := by kernel_rfl
 have hp2 : Tryz.prog.stoodInHeld 54 = false := by kernel_rfl
 rw [show (9999 : Nat) = 9998 + 1 from rfl, run_equalIn_agg w 9998 54 _ _ hS2 hp2]
 clear hS2 hp2
 simp only [Program.fieldsOf, Tryz.underlying54]
 go_simp
 by_cases h1 : a = c <;> by_cases h2 : b = d <;> simp [h1, h2]
theorem BH (x c : aQ) (w : World) : (binOp .eql 56 (.agg #[.int .i64 x.kind, .int .i64 x.number, .int .i64 x.index, .string x.text, .int .i64 x.eB, .int .i64 x.dW]) (.agg #[.int .i64 c.kind, .int .i64 c.number, .int .i64 c.index, .string c.text, .int .i64 c.eB, .int .i64 c.dW])).run Tryz.prog w = .ok (.bool (eqV x c)) w := by
 have u3 := Tryz.underlying3
 have u9 := Tryz.underlying9
 have ac := Tryz.isAgg54
 have zc := Tryz.sizeOf54
 have z3 := Tryz.sizeOf3
 have z9 := Tryz.sizeOf9
 have a3 := Tryz.isAgg3
 have a9 := Tryz.isAgg9
 have hS : Tryz.prog.underlying 56 = some (.struct (Tryz.prog.fieldsOf 56)) := by kernel_rfl
 have hp : Tryz.prog.stoodInHeld 56 = false := by kernel_rfl
 rw [run_eql_struct, show (10000 : Nat) = 9999 + 1 from rfl, run_equalIn_agg w 9999 56 _ _ hS hp]
 clear hS hp
 have hC := fun w => NL x.eB x.dW c.eB c.dW w
 simp only [Program.fieldsOf, Tryz.underlying56]
 go_simp
 unfold eqV
 rw [beq_toListBytes]
 by_cases h1 : x.kind = c.kind <;> by_cases h2 : x.number = c.number <;> by_cases h3 : x.index = c.index <;> by_cases h4 : x.text.toList = c.text.toList <;> by_cases h5 : x.eB = c.eB <;> by_cases h6 : x.dW = c.dW <;> simp_all
theorem Ls : Tryz.prog.eqGuardType Tryz.prog.depth 56 = false := by kernel_rfl
theorem Ip (l : List aQ) (x : aQ) (v : Value) (w : World) {lo hi : Nat} (hv : dz w lo hi 6 aQ.ay v l) (hhi : hi ≤ w.heap.size) :
 Calls Tryz.prog 167 #[v, .agg #[.int .i64 x.kind, .int .i64 x.number, .int .i64 x.index, .string x.text, .int .i64 x.eB, .int .i64 x.dW]] w fun e w' => e = .returned (.int .i64 (DR x l 0)) ∧ Below w.heap.size w w' := by
 obtain ⟨A, cap, rfl, hc1, hc2⟩ := hv.shape
 unfold maxLen at hc2
 obtain ⟨a0, hwa⟩ := eZ w 56 #[.int .i64 x.kind, .int .i64 x.number, .int .i64 x.index, .string x.text, .int .i64 x.eB, .int .i64 x.dW]
 go_enter Tryz.func167, Tryz.ntmps167
 go_wp2_with fail
 go_loopw [8] (fun i wr => ∃ k : Nat, k ≤ l.length ∧ i = .int .i64 k ∧ Hid (vK x (l.take k) = false) ∧ Below w.heap.size w wr ∧ Blk wr w.heap.size 56 #[Value.int .i64 x.kind, .int .i64 x.number, .int .i64 x.index, .string x.text, .int .i64 x.eB, .int .i64 x.dW]) (fun i _ => l.length - (intOf i).toNat)
 case atStart => exact ⟨0, nZ _, rfl, by simp [Hid, vK], hwa, a0⟩
 case round =>
  obtain ⟨k, hk, rfl, hgo, hb, hbx⟩ := hrel
  obtain ⟨wo, rfl⟩ := nW wr
  have hz := hb.size
  by_cases hlt : k < l.length
  ·obtain ⟨c, hc⟩ : ∃ c, l[k]? = some c := ⟨_, gE hlt⟩
   obtain ⟨g', off', rfl, hg1, hg2, hmem, hrep, q0, q1, q2, q3, q4, q5⟩ := aQ.at_ (hv.below hb hhi) hc
   have HA := lH (fun h => I9 0 hc hgo.out h)
   have HN := lH (fun h : eqV x c = false => (show vK x (l.take (k + 1)) = false by rw [Eo hc, hgo.out, h]; rfl))
   have cb := hbx.cell
   have lb := hbx.lt
   clear hc hmem hrep hgo
   have hm := Ls
   cases he : eqV x c with
   | true =>
     have HE := fun w => (BH x c w).trans (by rw [he])
     have HA := lH (HA.out he)
     clear HN he
     go_upto_region 4 with fail
     go_quiet (fail)
     go_wp2_with fail
     go_ret
     exact ⟨eX (by rw [HA.out]; omega), by first | exact hb | exact bN hb _⟩
   | false =>
     have HE := fun w => (BH x c w).trans (by rw [he])
     have HN := lH (HN.out he)
     clear HA he
     go_upto_region 4 with fail
     go_quiet (fail)
     go_wp2_with fail
     go_roundw
     case rel => exact ⟨k + 1, by omega, by go_num, HN, by first | exact hb | exact bN hb _, by first | exact hbx | exact hbx.drewN _⟩
     case measure => simp [intOf]; omega
  ·obtain rfl : k = l.length := by omega
   rw [List.take_length] at hgo
   go_wp2_with fail
   go_ret
   exact ⟨eX (Ja 0 hgo.out).symm, hb⟩
theorem JL (l : List aQ) (x : aQ) (v : Value) (w : World) {lo hi : Nat} (hv : dz w lo hi 6 aQ.ay v l) (hhi : hi ≤ w.heap.size) :
 Calls Tryz.prog 159 #[v, .agg #[Value.int .i64 x.kind, .int .i64 x.number, .int .i64 x.index, .string x.text, .int .i64 x.eB, .int .i64 x.dW]] w fun e w' => e = .returned (.bool (vK x l)) ∧ Below w.heap.size w w' := by
 have hwa : Below w.heap.size w (w.alloc (.cells #[Value.int .i64 x.kind, .int .i64 x.number, .int .i64 x.index, .string x.text, .int .i64 x.eB, .int .i64 x.dW] 56)) := bA _ _
 have hv0 := hv.below hwa hhi
 go_enter Tryz.func159, Tryz.ntmps159
 go_wp2_with fail
 refine (Ip l x _ _ hv0 (nT hhi hwa.size)).mono ?_; rintro e w1 ⟨rfl, hb1⟩
 have HI := lH (Gz (x := x) (l := l) 0 (by omega))
 have hw1 := hwa.trans (hb1.mono hwa.size)
 clear hb1 hv0 hv
 generalize DR x l 0 = j at *
 go_wp2_with fail
 go_ret
 exact ⟨ah (by rw [← HI.out]), hw1⟩
theorem jR (l : List aQ) (v : Value) (w : World) {lo hi : Nat} (hv : dz w lo hi 6 aQ.ay v l) (hhi : hi ≤ w.heap.size) :
 Calls Tryz.prog 139 #[v] w fun e w' => e = .returned (.bool (qb l)) ∧ Below w.heap.size w w' := by
 obtain ⟨A, cap, rfl, hc1, hc2⟩ := hv.shape
 unfold maxLen at hc2
 go_enter Tryz.func139, Tryz.ntmps139
 go_wp2_with fail
 go_loopw [6] (fun i wr => ∃ k : Nat, k ≤ l.length ∧ i = .int .i64 k ∧ Hid (vP l k) ∧ Below w.heap.size w wr) (fun i _ => l.length - (intOf i).toNat)
 case atStart => exact ⟨0, nZ _, rfl, vP.zero l, bR _ _⟩
 case round =>
  obtain ⟨k, hk, rfl, hgo, hb⟩ := hrel
  obtain ⟨wo, rfl⟩ := nW wr
  have hz := hb.size
  by_cases hlt : k < l.length
  ·obtain ⟨c, hc⟩ : ∃ c, l[k]? = some c := ⟨_, gE hlt⟩
   have hvb := hv.below hb hhi
   have hvt := hvb.take aQ.gK hk
   obtain ⟨g', off', rfl, hg1, hg2, hmem, hrep, q0, q1, q2, q3, q4, q5⟩ := aQ.at_ hvb hc
   have HN := lH (fun h => hgo.out.succ hc h)
   have HF := lH (fun h => Jb hc h)
   clear hc hmem hrep hgo hvb
   have hhk : k ≤ cap := by omega
   go_upto_region 4 with fail
   go_region_with (first | (go_at_call 159; refine (JL (l.take k) c _ _ (by first | exact hvt | exact hvt.same ((Same.refl _).drewN _) | exact hvt.same (Same.refl _).drew) (by first | exact nT hhi hz | simpa using nT hhi hz)).mono ?_; rintro e w1 ⟨rfl, hb1⟩) | fail)
   have hw1 : Below w.heap.size w w1 := (by first | exact hb | exact aC hb | exact bN hb _ : Below w.heap.size w _).trans (hb1.mono (by first | exact hz | simpa using hz))
   clear q0 q1 q2 q3 q4 q5 hb1 hvt hb
   cases hq : vK c (l.take k) with
   | true =>
     have HF := lH (HF.out hq)
     clear hq HN
     go_wp2_with fail
     go_ret
     exact ⟨ah HF.out.symm, hw1⟩
   | false =>
     have HN := lH (HN.out hq)
     clear hq HF
     go_wp2_with fail
     go_roundw
     case rel => exact ⟨k + 1, by omega, by go_num, HN, hw1⟩
     case measure => simp [intOf]; omega
  ·obtain rfl : k = l.length := by omega
   go_wp2_with fail
   go_ret
   exact ⟨ah hgo.out.all.symm, hb⟩
theorem Cy {l : List aQ} {i : Nat} {a b : aQ} (ha : l[i]? = some a) (hb : l[i + 1]? = some b) : pE (l.drop i) = (zk a && decide (b.kind ≤ 12) && pE (l.drop (i + 2))) := by
 obtain ⟨h1, e1⟩ := List.getElem?_eq_some_iff.1 ha
 obtain ⟨h2, e2⟩ := List.getElem?_eq_some_iff.1 hb
 rw [List.drop_eq_getElem_cons h1, List.drop_eq_getElem_cons h2, e1, e2]
 rfl
theorem zW {l : List aQ} {i : Nat} (h : l.length ≤ i + 1) : pE (l.drop i) = true := by
 have : (l.drop i).length ≤ 1 := by simp; omega
 match l.drop i, this with
 | [], _ => rfl
 | [_], _ => rfl
theorem zq {g : iY} {a : aQ} (hl : g.args.length = 1) (ha : g.args[0]? = some a) : pM g = (if g.op = 7 then decide (a.kind ≤ 12) else if g.op = 317 then decide (a.kind = 5) else false) := by
 obtain ⟨k, op, count, args⟩ := g
 match args, hl with
 | [x], _ =>
   obtain rfl := Option.some.inj ha
   by_cases h7 : op = 7
   ·subst h7; simp [pM]
   ·by_cases h3 : op = 317
    ·subst h3; simp [pM]
    ·simp [pM, h7, h3]
theorem qm {g : iY} {a b c : aQ} (hl : g.args.length = 3) (ha : g.args[0]? = some a) (hb : g.args[1]? = some b) (hc : g.args[2]? = some c) :
 pM g = (if g.op = 72 ∨ g.op = 338 then decide (a.kind = 1) && decide (b.kind = 1) && decide (c.kind = 1) && !decide (c.number = 0) else if g.op = 320 then decide (a.kind = 2) && pz b c else if g.op = 321 then decide (a.kind = 3) && pz b c else false) := by
 obtain ⟨k, op, count, args⟩ := g
 match args, hl with
 | [x, y, z], _ =>
   obtain rfl := Option.some.inj ha
   obtain rfl := Option.some.inj hb
   obtain rfl := Option.some.inj hc
   by_cases h7 : op = 7
   ·subst h7; simp [pM]
   by_cases h3 : op = 317
   ·subst h3; simp [pM]
   simp [pM, h7, h3]
theorem xk {g : iY} (h1 : ¬ g.args.length = 1) (h : g.op = 7 ∨ g.op = 317) : pM g = false := by
 obtain ⟨k, op, count, args⟩ := g
 match args, h1 with
 | [], _ => rcases h with h | h <;> (simp at h; subst h; rfl)
 | [_], h1 => exact absurd rfl h1
 | _ :: _ :: _, _ => rcases h with h | h <;> (simp at h; subst h; rfl)
theorem uG {g : iY} (h1 : ¬ g.args.length = 3) (h : g.op = 72 ∨ g.op = 338 ∨ g.op = 320 ∨ g.op = 321) : pM g = false := by
 obtain ⟨k, op, count, args⟩ := g
 match args, h1 with
 | [], _ => rcases h with h | h | h | h <;> (simp at h; subst h; rfl)
 | [_], _ => rcases h with h | h | h | h <;> (simp at h; subst h; rfl)
 | [_, _], _ => rcases h with h | h | h | h <;> (simp at h; subst h; rfl)
 | [_, _, _], h1 => exact absurd rfl h1
 | _ :: _ :: _ :: _ :: _, _ => rcases h with h | h | h | h <;> (simp at h; subst h; rfl)
theorem Es {g : iY} (h7 : ¬ g.op = 7) (h1 : ¬ g.op = 317) (h2 : ¬ g.op = 72) (h3 : ¬ g.op = 338) (h4 : ¬ g.op = 320) (h5 : ¬ g.op = 321) : pM g = false := by
 simp [pM, h7, h1, h2, h3, h4, h5]
theorem xq {g : iY} (h : ¬ 3 ≤ g.args.length) : wF g = false := by
 obtain ⟨k, op, count, args⟩ := g
 match args, h with
 | [], _ => rfl
 | [_], _ => rfl
 | [_, _], _ => rfl
 | _ :: _ :: _ :: _, h => exact absurd (by simp) h
theorem xu {g : iY} {a b c : aQ} (ha : g.args[0]? = some a) (hb : g.args[1]? = some b) (hc : g.args[2]? = some c) :
 wF g = (pz a b && decide (c.kind = 1) && (if g.op = 8 ∨ g.op = 325 ∨ g.op = 326 then decide (g.args.length = 3) && decide (c.number = 2) else if g.op = 61 then decide (g.args.length = 5) && (decide (c.number = 0) || decide (c.number = 1)) && pE (g.args.drop 3) else if g.op = 63 then decide (g.args.length = 7) && (decide (c.number = 0) || decide (c.number = 1)) && pE (g.args.drop 3) else false)) := by
 obtain ⟨k, op, count, args⟩ := g
 match args, ha, hb, hc with
 | x :: y :: z :: l, ha, hb, hc =>
   obtain rfl := Option.some.inj ha
   obtain rfl := Option.some.inj hb
   obtain rfl := Option.some.inj hc
   simp [wF]
def rF (l : List aQ) (ks : List Int) : Bool := decide (l.map aQ.kind = ks)
theorem Et {l : List aQ} {ks : List Int} (h : ¬ l.length = ks.length) : rF l ks = false := dF fun e => h (by rw [← e, List.length_map])
theorem Lt {l : List aQ} {ks : List Int} {k : Nat} {a : aQ} {n : Int} (ha : l[k]? = some a) (hn : ks[k]? = some n) (h : ¬ a.kind = n) : rF l ks = false := dF fun e => by
 rw [← e, List.getElem?_map, ha] at hn
 exact h (Option.some.inj hn)
theorem Iq {l : List aQ} {ks : List Int} {k : Nat} {a : aQ} {n : Int} (ha : l[k]? = some a) (hn : ks[k]? = some n) (h : a.kind = n) (hk : (l.take k).map aQ.kind = ks.take k) : (l.take (k + 1)).map aQ.kind = ks.take (k + 1) := by
 rw [List.take_add_one, List.take_add_one, ha, hn, List.map_append, hk, ← h]; rfl
theorem vZ {l : List aQ} {x y z : Int} (h : rF l [x, y, z] = true) : ∃ a b c, l.length = 3 ∧ l[0]? = some a ∧ l[1]? = some b ∧ l[2]? = some c ∧ a.kind = x ∧ b.kind = y ∧ c.kind = z := by
 have e := of_decide_eq_true h
 match l, e with
 | [a, b, c], e => simp at e; exact ⟨a, b, c, rfl, rfl, rfl, rfl, e.1, e.2.1, e.2.2⟩
theorem xw {l : List aQ} {x y z : Int} {a b c : aQ} (hl : l.length = 3) (ha : l[0]? = some a) (hb : l[1]? = some b) (hc : l[2]? = some c) (h1 : a.kind = x) (h2 : b.kind = y) (h3 : c.kind = z) : rF l [x, y, z] = true := by
 match l, hl with
 | [a', b', c'], _ =>
   obtain rfl := Option.some.inj ha
   obtain rfl := Option.some.inj hb
   obtain rfl := Option.some.inj hc
   simp [rF, h1, h2, h3]
theorem Jg {g : iY} (h : g.op = 72 ∨ g.op = 338) (hk : rF g.args [1, 1, 1] = false) : pM g = false := by
 by_cases h3 : g.args.length = 3
 ·obtain ⟨a, ha⟩ : ∃ c, g.args[0]? = some c := ⟨_, gE (by omega)⟩
  obtain ⟨b, hb⟩ : ∃ c, g.args[1]? = some c := ⟨_, gE (by omega)⟩
  obtain ⟨c, hc⟩ : ∃ c, g.args[2]? = some c := ⟨_, gE (by omega)⟩
  rw [qm h3 ha hb hc, if_pos h]
  by_cases e1 : a.kind = 1
  ·by_cases e2 : b.kind = 1
   ·by_cases e3 : c.kind = 1
    ·exfalso
     have := xw h3 ha hb hc e1 e2 e3
     rw [hk] at this; cases this
    ·simp [e3]
   ·simp [e2]
  ·simp [e1]
 ·exact uG h3 (by rcases h with h | h <;> simp [h])
theorem Lu {g : iY} (h : g.op = 317) : pM g = rF g.args [5] := by
 by_cases h1 : g.args.length = 1
 ·obtain ⟨a, ha⟩ : ∃ c, g.args[0]? = some c := ⟨_, gE (by omega)⟩
  rw [zq h1 ha, if_neg (by omega), if_pos h]
  match hg : g.args, h1 with
  | [x], _ =>
    rw [hg] at ha
    obtain rfl := Option.some.inj ha
    simp [rF]
 ·rw [xk h1 (Or.inr h), Et (by simpa using h1)]
theorem Lv {g : iY} (h : g.op = 320) (hk : rF g.args [2, 2, 1] = false) : pM g = false := by
 by_cases h3 : g.args.length = 3
 ·obtain ⟨a, ha⟩ : ∃ c, g.args[0]? = some c := ⟨_, gE (by omega)⟩
  obtain ⟨b, hb⟩ : ∃ c, g.args[1]? = some c := ⟨_, gE (by omega)⟩
  obtain ⟨c, hc⟩ : ∃ c, g.args[2]? = some c := ⟨_, gE (by omega)⟩
  rw [qm h3 ha hb hc, if_neg (by omega), if_pos h]
  by_cases e1 : a.kind = 2
  ·by_cases e2 : b.kind = 2
   ·by_cases e3 : c.kind = 1
    ·exfalso
     have := xw h3 ha hb hc e1 e2 e3
     rw [hk] at this; cases this
    ·simp [pz, e3]
   ·simp [pz, e2]
  ·simp [e1]
 ·exact uG h3 (by simp [h])
theorem Lx {g : iY} (h : g.op = 321) (hk : rF g.args [3, 2, 1] = false) : pM g = false := by
 by_cases h3 : g.args.length = 3
 ·obtain ⟨a, ha⟩ : ∃ c, g.args[0]? = some c := ⟨_, gE (by omega)⟩
  obtain ⟨b, hb⟩ : ∃ c, g.args[1]? = some c := ⟨_, gE (by omega)⟩
  obtain ⟨c, hc⟩ : ∃ c, g.args[2]? = some c := ⟨_, gE (by omega)⟩
  rw [qm h3 ha hb hc, if_neg (by omega), if_neg (by omega), if_pos h]
  by_cases e1 : a.kind = 3
  ·by_cases e2 : b.kind = 2
   ·by_cases e3 : c.kind = 1
    ·exfalso
     have := xw h3 ha hb hc e1 e2 e3
     rw [hk] at this; cases this
    ·simp [pz, e3]
   ·simp [pz, e2]
  ·simp [e1]
 ·exact uG h3 (by simp [h])
theorem JM {g : iY} (h : ¬ g.args.length % 2 = 1) : wF g = false := by
 by_cases h3 : 3 ≤ g.args.length
 ·obtain ⟨a, ha⟩ : ∃ c, g.args[0]? = some c := ⟨_, gE (by omega)⟩
  obtain ⟨b, hb⟩ : ∃ c, g.args[1]? = some c := ⟨_, gE (by omega)⟩
  obtain ⟨c, hc⟩ : ∃ c, g.args[2]? = some c := ⟨_, gE (by omega)⟩
  rw [xu ha hb hc, dF (by omega : ¬ g.args.length = 3), dF (by omega : ¬ g.args.length = 5), dF (by omega : ¬ g.args.length = 7)]
  simp
 ·exact xq h3
theorem Ir {g : iY} (h : pE (g.args.drop 3) = false) : wF g = false := by
 by_cases h3 : 3 ≤ g.args.length
 ·obtain ⟨a, ha⟩ : ∃ c, g.args[0]? = some c := ⟨_, gE (by omega)⟩
  obtain ⟨b, hb⟩ : ∃ c, g.args[1]? = some c := ⟨_, gE (by omega)⟩
  obtain ⟨c, hc⟩ : ∃ c, g.args[2]? = some c := ⟨_, gE (by omega)⟩
  have hn : ¬ g.args.length = 3 := fun e => by rw [zW (by omega)] at h; cases h
  rw [xu ha hb hc, h, dF hn]
  simp
 ·exact xq h3
theorem wG {s : dP} {a : aQ} (h : cK s a = true) (hk : a.kind = 2) : a.text.size ≤ 120 := by
 simp [cK, wfB, hk] at h
 omega
theorem Blk.nums {w : World} {g : Nat} {t : TypeId} {l : List Int} (h : Blk w g t (l.map (Value.int .i64)).toArray) (hl : l.length ≤ 9) : dz w g (g + 1) 1 gW (.slice (some ⟨g, 0, none⟩) l.length l.length) l :=
 dz.Rz.2 ⟨some ⟨g, 0, none⟩, l.length, rfl, nR _, by unfold maxLen; omega, by simp, (fun h => by cases h), fun hn => ⟨g, 0, rfl, nR _, by omega, fun i u hu => by rw [Nat.zero_add, h.cell]; simpa using hu⟩⟩
theorem Blk.R8 {w : World} {g lo hi : Nat} {t : TypeId} {c : aQ} (h : Blk w g t #[Value.int .i64 c.kind, .int .i64 c.number, .int .i64 c.index, .string c.text, .int .i64 c.eB, .int .i64 c.dW]) : dz w g (g + 1) 6 aQ.ay (.slice (some ⟨g, 0, none⟩) 1 1) [c] := by
 obtain ⟨cs, hx, hr⟩ := (aQ.mk_ (w := w) (lo := g) (hi := g + 1) (c := c))
 injection hx with hx
 obtain rfl : [Value.int .i64 c.kind, .int .i64 c.number, .int .i64 c.index, .string c.text, .int .i64 c.eB, .int .i64 c.dW] = cs := congrArg Array.toList hx
 refine Rep.u7 (n := 1) (size := 6) (vs := [Value.int .i64 c.kind, .int .i64 c.number, .int .i64 c.index, .string c.text, .int .i64 c.eB, .int .i64 c.dW]) ⟨some ⟨g, 0, none⟩, 1, rfl, nR _, by unfold maxLen; omega, rfl, (fun h => by cases h), fun hn => ⟨g, 0, rfl, nR _, by omega, fun i u hu => by rw [Nat.zero_add, h.cell]; simpa using hu⟩⟩ (by rw [ru, oP, List.append_nil]; exact hr)
theorem rW (l : List aQ) (v : Value) (w : World) {lo hi : Nat} (hv : dz w lo hi 6 aQ.ay v l) (hhi : hi ≤ w.heap.size) :
 Calls Tryz.prog 121 #[v] w fun e w' => e = .returned (.bool (qb l)) ∧ Below w.heap.size w w' := by
 obtain ⟨A, cap, rfl, hc1, hc2⟩ := hv.shape
 unfold maxLen at hc2
 have hm := Ls
 go_enter Tryz.func121, Tryz.ntmps121
 go_wp2_with fail
 go_loopw [3] (fun i wr => ∃ k : Nat, k ≤ l.length ∧ i = .int .i64 k ∧ Hid (vP l k) ∧ Below w.heap.size w wr) (fun i _ => l.length - (intOf i).toNat)
 case atStart => exact ⟨0, nZ _, rfl, vP.zero l, bR _ _⟩
 case round =>
  obtain ⟨k, hk, rfl, hgo, hb⟩ := hrel
  obtain ⟨wo, rfl⟩ := nW wr
  have hz := hb.size
  by_cases hlt : k < l.length
  ·obtain ⟨c, hc⟩ : ∃ c, l[k]? = some c := ⟨_, gE hlt⟩
   have HN := lH (fun h => hgo.out.succ hc h)
   have HF := lH (fun h => Jb hc h)
   clear hgo
   go_wp2_with fail
   go_loopw [4] (fun i wr => ∃ j : Nat, j ≤ k ∧ i = .int .i64 j ∧ Hid (vK c (l.take j) = false) ∧ Below w.heap.size w wr) (fun i _ => k - (intOf i).toNat)
   case atStart => exact ⟨0, nZ _, rfl, by simp [Hid, vK], hb⟩
   case round =>
    clear hb hz
    obtain ⟨j, hj, rfl, hno, hb⟩ := hrel
    obtain ⟨wp, rfl⟩ := nW wr
    have hz := hb.size
    have hvb := hv.below hb hhi
    by_cases hjk : j < k
    ·obtain ⟨d, hd⟩ : ∃ d, l[j]? = some d := ⟨_, gE (by omega)⟩
     obtain ⟨g1, off1, rfl, h1, h2, h3, h4, p0, p1, p2, p3, p4, p5⟩ := aQ.at_ hvb hc
     obtain ⟨g', off', hA, hg1, hg2, hmem, hrep, q0, q1, q2, q3, q4, q5⟩ := aQ.at_ hvb hd
     injection hA with hA
     injection hA with e1 e2
     subst e1 e2
     have HM := lH (Eo (x := c) hd)
     have HY := lH (fun h : eqV c d = true => HF.out (K4 (mG (show (l.take k)[j]? = some d by rw [List.getElem?_take, if_pos hjk, hd])) h))
     clear hc hd hmem hrep hvb h1 h2 h3 h4 HF HN
     cases he : eqV c d with
     | true =>
       have HE := fun w => (BH c d w).trans (by rw [he])
       have HY := lH (HY.out he)
       clear he HM
       go_upto_region 7 with fail
       go_quiet (fail)
       go_wp2_with fail
       go_ret
       exact ⟨ah HY.out.symm, by first | exact hb | exact bN hb _⟩
     | false =>
       have HE := fun w => (BH c d w).trans (by rw [he])
       have HN : Hid (vK c (l.take (j + 1)) = false) := lH (by rw [HM.out, hno.out, he]; rfl)
       clear he HM HY hno
       go_upto_region 7 with fail
       go_quiet (fail)
       go_wp2_with fail
       go_roundw
       case rel => exact ⟨j + 1, by omega, by go_num, HN, by first | exact hb | exact bN hb _⟩
       case measure => simp [intOf]; omega
    ·obtain rfl : j = k := by omega
     have HN := lH (HN.out hno.out)
     clear HF hno hc hvb
     go_wp2_with fail
     go_roundw
     case rel => exact ⟨j + 1, by omega, by go_num, HN, hb⟩
     case measure => simp [intOf]; omega
  ·obtain rfl : k = l.length := by omega
   go_wp2_with fail
   go_ret
   exact ⟨ah hgo.out.all.symm, hb⟩
theorem GI (c : dP) (x : Value) (left : Int) (w : World) (lo hi : Nat) (h : fA w lo hi dP.ay x c) (hhi : hi ≤ w.heap.size) (hl0 : 0 ≤ left) (hl1 : left ≤ 1048576) (hf : c.Fits) :
 Calls Tryz.prog 10 #[x, .int .i64 left] w fun e w' => e = .returned (.int .i64 (leftOf left c.dX)) ∧ Below w.heap.size w w' := by
 obtain ⟨qh, oD, bE, aY, lZ, kN, bH, aZ, nY, mJ, qj, oF, mq, kP, rfl, yJ, LA, Fy, qd, xM, tN, vG, GJ, zu, qg, xN, tO, wT, Jh, BI, yK, LB, Fz, vH, GK, zw⟩ := dP.form h
 obtain ⟨fnames, xR, GL, xS, LC, Ji, LD, GM⟩ := hf
 have HB : Hid (c.dX = (c.fu.length + sumOf ByteArray.size c.fu) + (c.aA.length + sumOf gU.dX c.aA) + (c.aI.length + sumOf fV.dX c.aI) + (c.aB.length + sumOf aQ.dX c.aB) + c.dR.size + (c.output.length + sumOf ByteArray.size c.output) + (c.gV.length + sumOf ByteArray.size c.gV) + (c.dY.length + sumOf kZ.dX c.dY)) := rfl
 unfold maxLen at Fy tN
 unfold maxLen at zu tO
 unfold maxLen at BI Fz zw
 have Pv := lH fnames
 clear fnames
 have Cz := lH xR
 clear xR
 have LG := lH GL
 clear GL
 have CB := lH xS
 clear xS
 have NM := lH Ji
 clear Ji
 have Pw := lH LD
 clear LD
 have LH := lH GM
 clear GM
 have hw0 : Below w.heap.size w (w.alloc (.cells #[Value.slice qh c.fu.length oD, .slice bE c.aA.length aY, .slice lZ c.aI.length kN, .slice bH c.aB.length aZ, .string c.dR, .int .i64 c.dL, .slice nY c.output.length mJ, .slice qj c.gV.length oF, .slice mq c.dY.length kP, .bool c.gF, .int .i64 c.je, .int .i64 c.fT, .int .i64 c.kI] 32)) := bA _ _
 go_enter Tryz.func10, Tryz.ntmps10
 go_wp2_with fail
 refine (vF c.fu _ _ _ lo hi (yJ.below hw0 hhi) (nT hhi hw0.size) (by omega) (by omega) Pv.out).mono ?_; rintro e w1 ⟨rfl, hb1⟩
 have hw1 : Below w.heap.size w w1 := hw0.trans (hb1.mono hw0.size)
 have a1 := (Blk.new w 32 #[Value.slice qh c.fu.length oD, .slice bE c.aA.length aY, .slice lZ c.aI.length kN, .slice bH c.aB.length aZ, .string c.dR, .int .i64 c.dL, .slice nY c.output.length mJ, .slice qj c.gV.length oF, .slice mq c.dY.length kP, .bool c.gF, .int .i64 c.je, .int .i64 c.fT, .int .i64 c.kI]).later hb1
 have ca := a1.cell
 have la := a1.lt
 by_cases Jj : left < ((c.fu.length + sumOf ByteArray.size c.fu) : Nat)
 ·rw [dM Jj]
  go_wp2_with fail
  go_ret
  exact ⟨eX (dM (by have := HB.out; omega)).symm, hw1⟩
 rw [ep Jj]
 generalize hL : left - (((c.fu.length + sumOf ByteArray.size c.fu) : Nat) : Int) = mF
 have l1a : mF ≤ left - ((c.fu.length + sumOf ByteArray.size c.fu) : Nat) := by omega
 have l1b : left - ((c.fu.length + sumOf ByteArray.size c.fu) : Nat) ≤ mF := by omega
 clear hL
 go_wp2_with fail
 refine (vY c.aA _ _ _ lo hi (qd.below hw1 hhi) (nT hhi hw1.size) (by omega) (by omega) Cz.out).mono ?_; rintro e w2 ⟨rfl, hb2⟩
 have hw2 : Below w.heap.size w w2 := hw1.trans (hb2.mono hw1.size)
 have a2 := a1.later hb2
 clear ca la
 have ca := a2.cell
 have la := a2.lt
 by_cases wH : mF < ((c.aA.length + sumOf gU.dX c.aA) : Nat)
 ·rw [dM wH]
  go_wp2_with fail
  go_ret
  exact ⟨eX (dM (by have := HB.out; omega)).symm, hw2⟩
 rw [ep wH]
 generalize hL : mF - (((c.aA.length + sumOf gU.dX c.aA) : Nat) : Int) = oC
 have l2a : oC ≤ mF - ((c.aA.length + sumOf gU.dX c.aA) : Nat) := by omega
 have l2b : mF - ((c.aA.length + sumOf gU.dX c.aA) : Nat) ≤ oC := by omega
 clear hL
 go_wp2_with fail
 refine (Dl c.aI _ _ _ lo hi (vG.below hw2 hhi) (nT hhi hw2.size) (by omega) (by omega) LG.out).mono ?_; rintro e w3 ⟨rfl, hb3⟩
 have hw3 : Below w.heap.size w w3 := hw2.trans (hb3.mono hw2.size)
 have a3 := a2.later hb3
 clear ca la
 have ca := a3.cell
 have la := a3.lt
 by_cases Eu : oC < ((c.aI.length + sumOf fV.dX c.aI) : Nat)
 ·rw [dM Eu]
  go_wp2_with fail
  go_ret
  exact ⟨eX (dM (by have := HB.out; omega)).symm, hw3⟩
 rw [ep Eu]
 generalize hL : oC - (((c.aI.length + sumOf fV.dX c.aI) : Nat) : Int) = pI
 have l3a : pI ≤ oC - ((c.aI.length + sumOf fV.dX c.aI) : Nat) := by omega
 have l3b : oC - ((c.aI.length + sumOf fV.dX c.aI) : Nat) ≤ pI := by omega
 clear hL
 go_wp2_with fail
 refine (rU c.aB _ _ _ lo hi (qg.below hw3 hhi) (nT hhi hw3.size) (by omega) (by omega) CB.out).mono ?_; rintro e w4 ⟨rfl, hb4⟩
 have hw4 : Below w.heap.size w w4 := hw3.trans (hb4.mono hw3.size)
 have a4 := a3.later hb4
 clear ca la
 have ca := a4.cell
 have la := a4.lt
 by_cases wI : pI < ((c.aB.length + sumOf aQ.dX c.aB) : Nat)
 rw [dM wI]
 rotate_left
 rw [ep wI]
 generalize hL : pI - (((c.aB.length + sumOf aQ.dX c.aB) : Nat) : Int) = qo
 have l4a : qo ≤ pI - ((c.aB.length + sumOf aQ.dX c.aB) : Nat) := by omega
 have l4b : pI - ((c.aB.length + sumOf aQ.dX c.aB) : Nat) ≤ qo := by omega
 clear hL
 by_cases JN : qo < (c.dR.size : Nat)
 skip
 rotate_left
 rotate_right 2
 iterate 2 focus
  go_wp2_with fail
  go_ret
  exact ⟨eX (dM (by have := HB.out; omega)).symm, hw4⟩
 go_wp2_with fail
 refine (vF c.output _ _ _ lo hi (wT.below hw4 hhi) (nT hhi hw4.size) (by omega) (by omega) NM.out).mono ?_; rintro e w5 ⟨rfl, hb5⟩
 have hw5 : Below w.heap.size w w5 := hw4.trans (hb5.mono hw4.size)
 have a5 := a4.later hb5
 clear ca la
 have ca := a5.cell
 have la := a5.lt
 by_cases GN : qo - (c.dR.size : Nat) < ((c.output.length + sumOf ByteArray.size c.output) : Nat)
 ·rw [dM GN]
  go_wp2_with fail
  go_ret
  exact ⟨eX (dM (by have := HB.out; omega)).symm, hw5⟩
 rw [ep GN]
 generalize hL : qo - (c.dR.size : Nat) - (((c.output.length + sumOf ByteArray.size c.output) : Nat) : Int) = vg
 have l5a : vg ≤ qo - (c.dR.size : Nat) - ((c.output.length + sumOf ByteArray.size c.output) : Nat) := by omega
 have l5b : qo - (c.dR.size : Nat) - ((c.output.length + sumOf ByteArray.size c.output) : Nat) ≤ vg := by omega
 clear hL
 go_wp2_with fail
 refine (vF c.gV _ _ _ lo hi (yK.below hw5 hhi) (nT hhi hw5.size) (by omega) (by omega) Pw.out).mono ?_; rintro e w6 ⟨rfl, hb6⟩
 have hw6 : Below w.heap.size w w6 := hw5.trans (hb6.mono hw5.size)
 have a6 := a5.later hb6
 clear ca la
 have ca := a6.cell
 have la := a6.lt
 by_cases Jk : vg < ((c.gV.length + sumOf ByteArray.size c.gV) : Nat)
 ·rw [dM Jk]
  go_wp2_with fail
  go_ret
  exact ⟨eX (dM (by have := HB.out; omega)).symm, hw6⟩
 rw [ep Jk]
 generalize hL : vg - (((c.gV.length + sumOf ByteArray.size c.gV) : Nat) : Int) = Ev
 have l6a : Ev ≤ vg - ((c.gV.length + sumOf ByteArray.size c.gV) : Nat) := by omega
 have l6b : vg - ((c.gV.length + sumOf ByteArray.size c.gV) : Nat) ≤ Ev := by omega
 clear hL
 go_wp2_with fail
 refine (DT c.dY _ _ _ lo hi (vH.below hw6 hhi) (nT hhi hw6.size) (by omega) (by omega) LH.out).mono ?_; rintro e w7 ⟨rfl, hb7⟩
 have hw7 : Below w.heap.size w w7 := hw6.trans (hb7.mono hw6.size)
 have a7 := a6.later hb7
 clear ca la
 have ca := a7.cell
 have la := a7.lt
 by_cases Ew : Ev < ((c.dY.length + sumOf kZ.dX c.dY) : Nat)
 ·rw [dM Ew]
  go_wp2_with fail
  go_ret
  exact ⟨eX (dM (by have := HB.out; omega)).symm, hw7⟩
 rw [ep Ew]
 generalize hL : Ev - (((c.dY.length + sumOf kZ.dX c.dY) : Nat) : Int) = OG
 have l7a : OG ≤ Ev - ((c.dY.length + sumOf kZ.dX c.dY) : Nat) := by omega
 have l7b : Ev - ((c.dY.length + sumOf kZ.dX c.dY) : Nat) ≤ OG := by omega
 clear hL
 go_wp2_with fail
 go_ret
 exact ⟨eX (by rw [ep (by have := HB.out; omega)]; have := HB.out; omega), hw7⟩
theorem zx (c : gU) (x : Value) (w : World) (lo hi : Nat) (h : fA w lo hi gU.ay x c) (hhi : hi ≤ w.heap.size) (hbk : c.dX ≤ 1048576) :
 Calls Tryz.prog 83 #[x] w (uN gU.ay c w) := by
 obtain ⟨lX, nfields, rfl, wO, I7, BD⟩ := gU.form h
 unfold gU.dX at hbk
 unfold maxLen at BD
 go_enter Tryz.func83, Tryz.ntmps83
 go_wp2_with fail
 have fr0 := rZ.new w 130 142 #[Value.string c.name, .slice lX c.fields.length nfields, .int .i64 c.line] #[Value.string ⟨#[]⟩, .slice none 0 0, .int .i64 0] #[Value.string c.name, .slice none 0 0, .int .i64 0]
 refine (uQ c.fields _ _ lo hi (wO.below fr0.bel hhi) (by simp; omega) (by omega)).mono ?_; rintro e w1 ⟨v1, rfl, r1, hb1⟩
 obtain ⟨B1, m1, rfl, -, -⟩ := r1.rep.shape
 have fr1 := fr0.later hb1
 have z1 : w.heap.size + 3 ≤ w1.heap.size := by have := fr1.var.lt; omega
 have R1 : dI w1 (w.heap.size + 3) w1.heap.size 1 eF (.slice B1 c.fields.length m1) c.fields := r1.wide (by simp) (nR _)
 clear hb1 r1
 obtain ⟨ca, co, fo, cr, fr', la, lv⟩ := fr1.rJ
 go_wp2_with fail
 refine bodyPost_ret (v := .agg #[Value.string c.name, .slice B1 c.fields.length m1, .int .i64 c.line]) ?_ rfl ⟨[Value.string c.name, .slice B1 c.fields.length m1, .int .i64 c.line], rfl, (.wD (.rR (mid := w1.heap.size) ?_ (.gG .lu) (by omega) (by simp [World.setCell] <;> omega))), ?_⟩
 ·simp [results, Tryz.results83, go_sem, cr]
 ·refine dI.wide (lo := w.heap.size + 3) (hi := w1.heap.size) ?_ (by omega) (nR _)
  iterate 5 refine dI.eY ?_ (.inl (by simp <;> omega)) _
  exact R1
 ·iterate 5 refine Below.setCell ?_ (by simp <;> omega) _
  exact fr1.bel
theorem JO : (Tryz.prog.info? 142).map (fun i => (i.zero, i.size, i.bytes)) = some (some (.agg #[.string ⟨#[]⟩, .slice none 0 0, .int .i64 0]), 3, 48) := by kernel_rfl
theorem vQ (l : List gU) (v : Value) (w : World) (lo hi : Nat) (h : dz w lo hi 3 gU.ay v l) (hhi : hi ≤ w.heap.size) (hl : l.length + sumOf gU.dX l ≤ 1048576) :
 Calls Tryz.prog 41 #[v] w (vT 3 gU.ay l w) := by
 obtain ⟨i0, hi0, hz0, hz1, hz2⟩ := info_parts JO
 obtain ⟨A, cap, rfl, hc1, hc2⟩ := h.shape
 unfold maxLen at hc2
 go_enter Tryz.func41, Tryz.ntmps41
 go_wp2_with (first | (at_make; refine wpList_make_full w rfl (.tmp 6) (.tmp 6) 44 rfl w.heap.size 142 i0 _ 3 Tryz.underlying44 hi0 hz0 hz1 .i64 .i64 _ _ l.length rfl rfl rfl rfl (by rw [hz2]; omega) (by unfold maxLen; omega) (nR _) ?_))
 intro w1 hown hg
 have hb := kM hg (nR w.heap.size) (fun g hg => by cases hg)
 have hz : w.heap.size + 1 ≤ w1.heap.size := (hown.lt _ rfl).2
 obtain ⟨Z, hown⟩ : ∃ Z, w1.ownsRow w.heap.size 142 3 (.slice (some ⟨w.heap.size, 0, none⟩) l.length l.length) l.length Z := ⟨_, hown⟩
 have HZ := lH hown.1
 clear hg
 go_wp2_with fail
 go_loopw [4] (fun i wr => ∃ (k : Nat) (vs : List Value), k ≤ l.length ∧ i = .int .i64 k ∧ wr.ownsRow w.heap.size 142 3 (.slice (some ⟨w.heap.size, 0, none⟩) l.length l.length) l.length (vs ++ Z.drop (k * 3)) ∧ gZ wr (w.heap.size + 1) wr.heap.size (flat gU.ay (l.take k)) vs ∧ Below w.heap.size w wr ∧ w.heap.size + 1 ≤ wr.heap.size) (fun i _ => l.length - (intOf i).toNat)
 case atStart => exact ⟨0, [], nZ _, rfl, by simpa using hown, by simp only [List.take_zero, oP]; exact .lu, hb, hz⟩
 case round =>
  clear hown hb hz
  obtain ⟨k, vs, hk, rfl, hown, hrep, hb, hz⟩ := hrel
  obtain ⟨wo, rfl⟩ := nW wr
  have hvs : vs.length = k * 3 := by rw [hrep.len, qJ gU.gK, List.length_take, Nat.min_eq_left hk]
  have HV := lH hvs
  clear hvs
  by_cases hlt : k < l.length
  ·obtain ⟨c, hc⟩ : ∃ c, l[k]? = some c := ⟨_, gE hlt⟩
   obtain ⟨g, off, lX, nfields, rfl, hg1, hg2, hmem, hcr, q0, q1, q2⟩ := gU.at_ (h.below hb hhi) hc
   have HD := lH (rz (f := gU.ay) hc)
   have hbm := qK (b := gU.dX) hmem
   clear hc hmem
   go_wp2_with fail
   refine (zx c _ _ _ _ hcr (by omega) (by omega)).mono ?_; rintro e w1 ⟨cs, rfl, hx, hb1⟩
   obtain ⟨qX, qY, hcs, _, _, _⟩ := gU.form ⟨cs, rfl, hx.rep⟩
   obtain rfl : cs = [Value.string c.name, .slice qX c.fields.length qY, .int .i64 c.line] := congrArg Array.toList (Value.agg.inj hcs)
   have z1 := hb1.size
   have hown1 := pG hown hb1
   have qD := (hrep.below hb1 (nR _)).app hx hz z1
   have hb2 := hb.trans (hb1.mono (by omega))
   clear hown hrep hx hb1 hb hcr q0 q1 q2
   obtain ⟨⟨o0, d0⟩, f0⟩ := gM hown1 (k * 3) (by omega)
   obtain ⟨⟨o1, d1⟩, f1⟩ := gM hown1 (k * 3 + 1) (by omega)
   obtain ⟨⟨o2, d2⟩, f2⟩ := gM hown1 (k * 3 + 2) (by omega)
   have pO := qc [Value.string c.name, .slice qX c.fields.length qY, .int .i64 c.line] _ _ (k * 3) hown1
   rw [oq _ _ _ HV.out (by rw [HZ.out]; simp; omega)] at pO
   have qQ := gZ.gq (g := w.heap.size) (.inl (Nat.lt_succ_self _)) [Value.string c.name, .slice qX c.fields.length qY, .int .i64 c.line] _ (k * 3) qD
   have tC := lK (nR w.heap.size) [Value.string c.name, .slice qX c.fields.length qY, .int .i64 c.line] _ _ (k * 3) hb2
   have qR := kK w.heap.size [Value.string c.name, .slice qX c.fields.length qY, .int .i64 c.line] w1 (k * 3)
   simp only [gq, Nat.add_assoc, Nat.reduceAdd, List.length_cons, List.length_nil] at pO qQ tC qR
   have O2 := lH pO
   have R2 := lH qQ
   have S2 := lH qR
   clear pO qQ hown1 qD qR hcs
   go_wp2_with fail
   go_roundw
   case rel =>
    refine ⟨k + 1, vs ++ [Value.string c.name, .slice qX c.fields.length qY, .int .i64 c.line], by omega, by go_num, ?_, ?_, tC, by rw [S2.out]; omega⟩
    ·rw [Nat.succ_mul]; exact O2.out
    ·rw [HD.out, S2.out]; exact R2.out
   case measure => simp [intOf]; omega
  ·obtain rfl : k = l.length := by omega
   rw [List.take_length] at hrep
   go_wp2_with fail
   go_ret
   rw [List.drop_eq_nil_of_le (by rw [HZ.out]; exact nR _), List.append_nil] at hown
   exact ⟨_, rfl, dI.mk_ (mid := w.heap.size + 1) hown hrep (by simp [Value.ownBlock]) (by omega) hz, hb⟩
end Go.Proofs.YtoddlphekcihgaaGreatDoor
