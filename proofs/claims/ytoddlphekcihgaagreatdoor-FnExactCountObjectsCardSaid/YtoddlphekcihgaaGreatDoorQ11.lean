/- TW of a store: plain lemmas. QV of the program. Rw of values: plain lemmas on parts of rows, and on a value's place in a row. No program. A UA -/
import Derived.Test.YtoddlphekcihgaaGreatDoorQ06
import Derived.Test.YtoddlphekcihgaaGreatDoorQ08
import Derived.Test.YtoddlphekcihgaaGreatDoorQ10
set_option maxRecDepth 100000
set_option maxHeartbeats 8000000
set_option linter.unusedVariables false
set_option linter.unusedSimpArgs false
namespace Go.Proofs.YtoddlphekcihgaaGreatDoor
section
open Go.RowKit
theorem uE {s : dP} {n k : Int} (h : n < 0) : kU s n k = false := by unfold kU; rw [dF (by omega)]; rfl
theorem lJ {s : dP} {n k : Int} (h : (s.aI.length : Int) ≤ n) : kU s n k = false := by
 unfold kU; rw [List.getElem?_eq_none (by omega)]; simp
theorem nP {s : dP} {j : Nat} {k : Int} {o : fV} (h : s.aI[j]? = some o) : kU s j k = decide (o.kind = k) := by
 unfold kU; rw [Int.toNat_natCast, h]; simp
theorem Co {s : dP} {n k : Int} (h : kU s n k = true) : ∃ (j : Nat) (o : fV), n = j ∧ s.aI[j]? = some o ∧ o.kind = k := by
 unfold kU at h
 simp only [Bool.and_eq_true, decide_eq_true_eq] at h
 obtain ⟨h1, h2⟩ := h
 refine ⟨n.toNat, ?_⟩
 cases ho : s.aI[n.toNat]? with
 | none => rw [ho] at h2; simp at h2
 | some o => rw [ho] at h2; exact ⟨o, by omega, rfl, by simpa using h2⟩
theorem wV {s : dP} {j : Nat} {o : fV} (h : s.aI[j]? = some o) : ES s j = o.aj.length := by
 unfold ES; rw [Int.toNat_natCast, h]
section
variable {α : Type} {w w' : World} {g off lo hi B : Nat} {f : α → List Dat} {c : α}
theorem At.drew (h : At w g off lo hi f c) : At w.drew g off lo hi f c := h.same (Same.refl _).drew
theorem At.drewN (h : At w g off lo hi f c) (n : Nat) : At (w.drewN n) g off lo hi f c := h.same ((Same.refl _).drewN n)
theorem Ni (h : Below B w w') (n : Nat) : Below B w (w'.drewN n) := h.trans (((Same.refl _).drewN n).below _)
theorem aC (h : Below B w w') : Below B w w'.drew := h.trans ((Same.refl _).drew.below _)
end
end
section
open Go.RowKit
theorem fF (s : dP) (n k : Int) (w : World) {g off lo hi : Nat} (h : At w g off lo hi dP.ay s) :
 Calls Tryz.prog 94 #[.pointer (some ⟨g, off, none⟩), .int .i64 n, .int .i64 k] w fun e w' => e = .returned (.bool (kU s n k)) ∧ w = w' := by
 obtain ⟨An, nn, Ar, nr, Ao, no, Ag, ng, Au, nu, At', nt, Aa, na, hg, hle, hn, un, mn, hr, ur, mr, ho, uo, mo, hgl, ugl, mgl, hu, uu, mu, ht, ut, mt, ha, ua, ma, c0, c1, c2, c3, c4, c5, c6, c7, c8, c9, c10, c11, c12⟩ := dP.in_ h
 unfold maxLen at mo
 clear hn hr hgl hu ht ha c0 c1 c3 c4 c5 c6 c7 c8 c9 c10 c11 c12
 by_cases h0 : n < 0
 have HV := lH (uE (s := s) (k := k) h0)
 rotate_left
 by_cases h1 : (s.aI.length : Int) ≤ n
 have HV := lH (lJ (s := s) (k := k) h1)
 rotate_left
 rotate_right 2
 iterate 2 focus
  go_enter Tryz.func94, Tryz.ntmps94
  go_wp2_with fail
  go_ret
  exact ⟨ah HV.out.symm, rfl⟩
 obtain ⟨j, rfl⟩ : ∃ j : Nat, n = j := ⟨n.toNat, by omega⟩
 obtain ⟨o, hc⟩ : ∃ o, s.aI[j]? = some o := ⟨_, gE (by omega)⟩
 obtain ⟨g', off', Ai, ni, Ak, nk, rfl, hg1, hg2, hmem, hrep, q0, q1, q2, q3, q4⟩ := fV.at_ ho hc
 have HV := lH (nP (k := k) hc)
 clear hc hmem hrep ho
 go_enter Tryz.func94, Tryz.ntmps94
 go_wp2_with fail
 go_ret
 exact ⟨ah (by rw [HV.out]; rw [Bool.eq_iff_iff]; simp), rfl⟩
end
section
open Go.RowKit
theorem fJ {α : Type} {q : α → Bool} {l : List α} {k : Nat} {c : α} (hc : l[k]? = some c) (h : (l.take k).all q = true) (hq : q c = true) : (l.take (k + 1)).all q = true := by
 rw [tH hc, h, hq]; rfl
section
variable {α : Type} {f : α → List Dat} {k : Nat} {w : World} {lo hi : Nat} {l : List α}
theorem dz.take {A : Option Addr} {cap : Nat} (hf : ∀ y, (f y).length = k) (h : dz w lo hi k f (.slice A l.length cap) l) {j : Nat} (hj : j ≤ l.length) : dz w lo hi k f (.slice A j cap) (l.take j) := by
 obtain ⟨vs, ⟨A', c', hv, g1, g2, g3, g5, g4⟩, h2⟩ := Rep.rR h
 injection hv with e1 _ e3
 subst e1 e3
 have hl : (l.take j).length = j := by rw [List.length_take]; omega
 have hjk : j * k ≤ l.length * k := Nat.mul_le_mul_right _ hj
 have e : flat f l = flat f (l.take j) ++ flat f (l.drop j) := by rw [← xD, List.take_append_drop]
 rw [e] at h2
 have h3 := h2.parts.1
 rw [qJ hf, hl] at h3
 unfold dz
 rw [hl]
 refine Rep.u7 (vs := vs.take (j * k)) ⟨A, cap, rfl, by omega, g2, by rw [List.length_take]; omega, g5, fun hp => ?_⟩ h3
 obtain ⟨g, off, hA, hg1, hg2, hcell⟩ := g4 (by omega)
 refine ⟨g, off, hA, hg1, hg2, fun i u hu => hcell i u ?_⟩
 rw [List.getElem?_take] at hu
 split at hu
 ·exact hu
 ·cases hu
theorem dz.drop {g off cap : Nat} (hf : ∀ y, (f y).length = k) (h : dz w lo hi k f (.slice (some ⟨g, off, none⟩) l.length cap) l) {j : Nat} (hj : j ≤ l.length) : dz w lo hi k f (.slice (some ⟨g, off + j * k, none⟩) (l.length - j) (cap - j)) (l.drop j) := by
 obtain ⟨vs, ⟨A', c', hv, g1, g2, g3, g5, g4⟩, h2⟩ := Rep.rR h
 injection hv with e1 _ e3
 subst e1 e3
 have hl : (l.drop j).length = l.length - j := by rw [List.length_drop]
 have e : flat f l = flat f (l.take j) ++ flat f (l.drop j) := by rw [← xD, List.take_append_drop]
 rw [e] at h2
 have h3 := h2.parts.2
 rw [qJ hf, List.length_take, Nat.min_eq_left hj] at h3
 unfold dz
 rw [hl]
 refine Rep.u7 (vs := vs.drop (j * k)) ⟨_, _, rfl, by omega, by omega, by rw [List.length_drop, g3, Nat.sub_mul], (fun e => by cases e), fun hp => ?_⟩ h3
 obtain ⟨g', off', hA, hg1, hg2, hcell⟩ := g4 (by omega)
 injection hA with hA
 injection hA with e1 e2
 subst e1 e2
 refine ⟨_, _, rfl, hg1, hg2, fun i u hu => ?_⟩
 rw [List.getElem?_drop] at hu
 rw [Nat.add_assoc]
 exact hcell _ u hu
end
def DR (x : aQ) : List aQ → Int → Int
 | [], _ => -1
 | c :: l, i => if eqV x c = true then i else DR x l (i + 1)
theorem I9 {x : aQ} : ∀ {l : List aQ} {k : Nat} {c : aQ} (i : Int), l[k]? = some c → vK x (l.take k) = false → eqV x c = true → DR x l i = i + k
 | a :: l, 0, c, i, hc, hm, he => by
   injection hc with hc
   subst hc
   rw [DR, if_pos he]; simp
 | a :: l, k + 1, c, i, hc, hm, he => by
   rw [List.take_succ_cons, vK, List.any_cons, Bool.or_eq_false_iff] at hm
   rw [DR, if_neg (by rw [hm.1]; decide), I9 (i + 1) (show l[k]? = some c from hc) hm.2 he]
   omega
theorem Ja {x : aQ} : ∀ {l : List aQ} (i : Int), vK x l = false → DR x l i = -1
 | [], _, _ => rfl
 | a :: l, i, hm => by
   rw [vK, List.any_cons, Bool.or_eq_false_iff] at hm
   rw [DR, if_neg (by rw [hm.1]; decide)]
   exact Ja _ hm.2
theorem Gz {x : aQ} : ∀ {l : List aQ} (i : Int), 0 ≤ i → decide (0 ≤ DR x l i) = vK x l
 | [], _, _ => rfl
 | a :: l, i, hi => by
   rw [vK, List.any_cons, DR]
   cases he : eqV x a with
   | true => rw [if_pos rfl, dT hi]; rfl
   | false =>
     rw [if_neg (by decide), Gz (i + 1) (by omega)]
     rfl
theorem Eo {x : aQ} {l : List aQ} {k : Nat} {c : aQ} (hc : l[k]? = some c) : vK x (l.take (k + 1)) = (vK x (l.take k) || eqV x c) := by
 rw [qB hc, vK, List.any_append, vK]; simp
theorem K4 {x c : aQ} {l : List aQ} (hc : c ∈ l) (he : eqV x c = true) : vK x l = true := List.any_eq_true.2 ⟨c, hc, he⟩
def vP (l : List aQ) (k : Nat) : Prop := ∀ (i : Nat) (c : aQ), i < k → l[i]? = some c → vK c (l.take i) = false
theorem vP.zero (l : List aQ) : vP l 0 := fun i c h => absurd h (by omega)
theorem vP.succ {l : List aQ} {k : Nat} {c : aQ} (h : vP l k) (hc : l[k]? = some c) (hm : vK c (l.take k) = false) : vP l (k + 1) := by
 intro i d hi hd
 by_cases e : i = k
 ·subst e
  rw [hc] at hd
  injection hd with hd
  subst hd
  exact hm
 ·exact h i d (by omega) hd
open Classical in
theorem vP.all {l : List aQ} (h : vP l l.length) : qb l = true :=
 dT fun i c hc => h i c (List.getElem?_eq_some_iff.1 hc).1 hc
open Classical in
theorem Jb {l : List aQ} {k : Nat} {c : aQ} (hc : l[k]? = some c) (hm : vK c (l.take k) = true) : qb l = false :=
 dF fun h => by rw [h k c hc] at hm; cases hm
end
section
open Go.RowKit
theorem dK.in_ {w : World} {g off lo hi : Nat} {c : dK} (h : At w g off lo hi dK.ay c) : ∃ A0 n0 A1 n1 A2 n2 A4 n4, g < w.heap.size ∧ dz w lo hi 4 jF.ay (.slice A0 c.au.length n0) c.au ∧ c.au.length ≤ n0 ∧ n0 ≤ maxLen ∧ c.aA.length ≤ n1 ∧ n1 ≤ maxLen ∧ c.aB.length ≤ n2 ∧ n2 ≤ maxLen ∧ c.av.length ≤ n4 ∧ n4 ≤ maxLen ∧ w.cell? ⟨g, off, none⟩ = some (.slice A0 c.au.length n0) ∧ w.cell? ⟨g, off + 1, none⟩ = some (.slice A1 c.aA.length n1) ∧ w.cell? ⟨g, off + 2, none⟩ = some (.slice A2 c.aB.length n2) ∧ w.cell? ⟨g, off + 3, none⟩ = some (.int .i64 c.main) ∧ w.cell? ⟨g, off + 4, none⟩ = some (.slice A4 c.av.length n4) := by
 obtain ⟨cs, h1, h2, h3, h4⟩ := h
 obtain ⟨A0, n0, A1, n1, A2, n2, A3, n3, hx, l0, a0, b0, l1, a1, b1, l2, a2, b2, l3, a3, b3⟩ := dK.form h1
 injection hx with hx
 obtain rfl : cs = [_, _, _, _, _] := congrArg Array.toList hx
 exact ⟨A0, n0, A1, n1, A2, n2, A3, n3, h3, l0, a0, b0, a1, b1, a2, b2, a3, b3, h2 0 _ rfl, h2 1 _ rfl, h2 2 _ rfl, h2 3 _ rfl, h2 4 _ rfl⟩
theorem eG.lens {w : World} {g off lo hi : Nat} {m : eG} (h : At w g off lo hi eG.ay m) : ∃ A0 n0 A4 n4, g < w.heap.size ∧ m.code.au.length ≤ n0 ∧ n0 ≤ 2 ^ 63 - 1 ∧ m.code.av.length ≤ n4 ∧ n4 ≤ 2 ^ 63 - 1 ∧ w.cell? ⟨g, off, none⟩ = some (.slice A0 m.code.au.length n0) ∧ w.cell? ⟨g, off + 4, none⟩ = some (.slice A4 m.code.av.length n4) := by
 obtain ⟨A0, n0, A1, n1, A2, n2, A4, n4, hg, -, a0, b0, -, -, -, -, a4, b4, c0, -, -, -, c4⟩ := dK.in_ (eG.Nh h)
 exact ⟨A0, n0, A4, n4, hg, a0, b0, a4, b4, c0, c4⟩
end
section
open Go.RowKit
theorem yV (l : List Int) (v u : Value) (w : World) (lo hi lo' hi' : Nat) (h : dz w lo hi 1 gW v l) (h' : dz w lo' hi' 1 gW u l) (hhi : hi ≤ w.heap.size) (eP : hi' ≤ w.heap.size) :
 Calls Tryz.prog 24 #[v, u] w fun e w' => e = .returned (.bool true) ∧ Below w.heap.size w w' := by
 obtain ⟨A, c, rfl, hc1, hc2⟩ := h.shape
 obtain ⟨A', c', rfl, hc1', hc2'⟩ := h'.shape
 unfold maxLen at hc2 hc2'
 have hne : ((l.length : Int) != (l.length : Int)) = false := by simp
 go_enter Tryz.func24, Tryz.ntmps24
 go_wp2_with fail
 go_loopw [5] (fun i wr => ∃ k : Nat, k ≤ l.length ∧ i = .int .i64 k ∧ Same w wr) (fun i _ => l.length - (intOf i).toNat)
 case atStart => exact ⟨0, nZ _, rfl, Same.refl _⟩
 case round =>
  obtain ⟨k, hk, rfl, hs⟩ := hrel
  obtain ⟨wo, rfl⟩ := nW wr
  by_cases hlt : k < l.length
  ·obtain ⟨s, hc⟩ : ∃ s, l[k]? = some s := ⟨_, gE hlt⟩
   obtain ⟨g, off, rfl, -, -, q0⟩ := (h.same hs).num hc
   obtain ⟨g', off', rfl, -, -, q0'⟩ := (h'.same hs).num hc
   have hb : (s == s) = true := by simp
   have hb' : (s != s) = false := by simp
   clear hc
   go_wp2_with fail
   go_quiet (fail)
   go_wp2_with fail
   go_roundw
   case rel => exact ⟨k + 1, by omega, by go_num, hs.drewN _⟩
   case measure => simp [intOf]; omega
  ·obtain rfl : k = l.length := by omega
   go_wp2_with fail
   go_ret
   exact ⟨rfl, hs.below _⟩
end
section
open Go.RowKit
theorem Bn (c : iY) (x y : Value) (w : World) (lo hi lo' hi' : Nat) (h : fA w lo hi iY.ay x c) (h' : fA w lo' hi' iY.ay y c) (hhi : hi ≤ w.heap.size) (eP : hi' ≤ w.heap.size) :
 Calls Tryz.prog 162 #[x, y] w fun e w' => e = .returned (.bool true) ∧ Below w.heap.size w w' := by
 obtain ⟨tu, nargs, rfl, hargs, OB, I6⟩ := iY.form h
 obtain ⟨Ii, Ij, rfl, hargs', UB, UC⟩ := iY.form h'
 have K3 : (c.kind != c.kind) = false := by simp
 have bop : (c.op != c.op) = false := by simp
 have Po : (c.count != c.count) = false := by simp
 have hw0 : Below w.heap.size w ((w.alloc (.cells #[Value.int .i64 c.kind, .int .i64 c.op, .int .i64 c.count, .slice tu c.args.length nargs] 158)).alloc (.cells #[Value.int .i64 c.kind, .int .i64 c.op, .int .i64 c.count, .slice Ii c.args.length Ij] 158)) := (bA _ _).alloc (by simp) _
 have a0 := (Blk.new w 158 #[Value.int .i64 c.kind, .int .i64 c.op, .int .i64 c.count, .slice tu c.args.length nargs]).alloc (.cells #[Value.int .i64 c.kind, .int .i64 c.op, .int .i64 c.count, .slice Ii c.args.length Ij] 158)
 have e0 := Blk.newAt (w.alloc (.cells #[Value.int .i64 c.kind, .int .i64 c.op, .int .i64 c.count, .slice tu c.args.length nargs] 158)) 158 #[Value.int .i64 c.kind, .int .i64 c.op, .int .i64 c.count, .slice Ii c.args.length Ij] (w.heap.size + 1) (by simp)
 go_enter Tryz.func162, Tryz.ntmps162
 go_wp2_with fail
 refine (rV c.args _ _ _ lo hi lo' hi' (hargs.below hw0 hhi) (hargs'.below hw0 eP) (nT hhi hw0.size) (nT eP hw0.size)).mono ?_; rintro e w1 ⟨rfl, hb1⟩
 have hw1 : Below w.heap.size w w1 := hw0.trans (hb1.mono hw0.size)
 have a1 := a0.later hb1
 have e1 := e0.later hb1
 have ca := a1.cell
 have ce := e1.cell
 have la := a1.lt
 have le := e1.lt
 clear hb1
 go_wp2_with fail
 go_ret
 exact ⟨rfl, hw1⟩
end
section
open Go
section
variable {P : Program} {ops : Array Oper} {Q : Exit → Act → World → Prop} {md : Region.Mode} {S : World → Prop} {k : Nat}
def uF (P : Program) (md : Region.Mode) (ops : Array Oper) (Q : Exit → Act → World → Prop) (S : World → Prop) (k : Nat) : Nat → Array Bool → Act → World → Prop
 | 0, listed, a, w => Region.ready md ops listed = [] ∧ Q .normal a w
 | n + 1, listed, a, w =>
   (Region.ready md ops listed = [] → Q .normal a w) ∧
   ∀ i ∈ Region.ready md ops listed, wpOp P ops Q i (fun b v => (i ≠ k → S v) ∧ uF P md ops Q S k n (listed.setIfInBounds i true) b v) a w
theorem uF.any : ∀ (n : Nat) (listed : Array Bool) (a : Act) (w : World), uF P md ops Q S k n listed a w → wpAny P md ops Q n listed a w
 | 0, _, _, _, h => h
 | n + 1, _, _, _, h => ⟨h.1, fun i hi => wpOp_mono (fun b v hb => uF.any n _ b v hb.2) (h.2 i hi)⟩
theorem Fj {id : Nat} {a : Act} {w : World} (hm : P.follows .mixedOrders = true) (h : uF P .any ops Q S k ops.size (Array.replicate ops.size false) a w.drew) : (Code.region id ops true).wp P Q a w :=
 wp_region_any hm (h.any)
theorem Fp {i : Nat} {oi : Oper} {v : Value} (hi : ops[i]? = some oi) (hsel : ∀ (j : Nat) (o : Oper) cs b, ops[j]? = some o → o.op ≠ .select cs b)
 (hQ : ∀ c a w, Q (.panic c) (a.put oi.dst v) w → Q (.panic c) a w) (UD : ∀ (listed : Array Bool) (j : Nat), i ∈ Region.ready md ops listed → j ∈ Region.ready md ops listed → j ≠ k) (n : Nat) :
 ∀ (listed : Array Bool) (a : Act) (w : World),
  (∀ j oj, ops[j]? = some oj → j ≠ i → listed.getD j true = false → (∀ e ∈ oj.after, Region.binds md e = true → e.on ≠ i) → oi.apart ops oj = true) →
  i ∈ Region.ready md ops listed → YieldsIf P ops S oi v a → S w →
  uF P md ops Q S k n (listed.setIfInBounds i true) (a.put oi.dst v) w → uF P md ops Q S k (n + 1) listed a w := by
 have waits : ∀ (listed : Array Bool) (j : Nat), i ∈ Region.ready md ops listed → j ∈ Region.ready md ops listed → ∀ oj, ops[j]? = some oj → ∀ e ∈ oj.after, Region.binds md e = true → e.on ≠ i := by
  intro listed j hir hjr oj hoj e he hb heq
  obtain ⟨-, oj', Nj, hall⟩ := mem_ready.1 hjr
  obtain rfl : oj' = oj := Option.some.inj (Nj.symm.trans hoj)
  have h1 := hall e he hb
  rw [heq, getD_both (mem_ready.1 hir).1] at h1
  cases h1
 induction n with
 | zero =>
   intro listed a w _ hr hy hS H
   refine ⟨fun h => (by rw [h] at hr; cases hr), fun j hj => ?_⟩
   rcases Nat.decEq j i with hji | hji
   ·have hm := ready_mono hj hji
    rw [H.1] at hm
    cases hm
   ·subst hji
    exact hy.wpOp hi hS ⟨fun _ => hS, H⟩
 | succ n ih =>
   intro listed a w hfree hr hy hS H
   refine ⟨fun h => (by rw [h] at hr; cases hr), fun j hj => ?_⟩
   rcases Nat.decEq j i with hji | hji
   ·obtain ⟨hun, oj, hoj, -⟩ := mem_ready.1 hj
    have hstep := wpOp_putIf hoj (hfree j oj hoj hji hun (waits listed j hr hj oj hoj)) (fun cs b => hsel i oi cs b hi) (fun cs b => hsel j oj cs b hoj) hQ hy (H.2 j (ready_mono hj hji))
    have hjk := UD listed j hr hj
    refine wpOp_mono (fun b v hb => ?_) hstep
    obtain ⟨hy', hS', hrest⟩ := hb
    refine ⟨hS', ih _ b v (fun l ol hol hli hul hno => hfree l ol hol hli ?_ hno) (ready_mono hr fun e => hji e.symm) hy' (hS' hjk) (by rw [Array.setIfInBounds_comm _ _ hji]; exact hrest)⟩
    rcases Nat.decEq j l with hjl | hjl
    ·rw [getD_set_ne true hjl] at hul; exact hul
    ·rw [← hjl]; exact hun
   ·subst hji
    exact hy.wpOp hi hS ⟨fun _ => hS, H⟩
theorem xP (i : Nat) {oi : Oper} {v : Value} {n : Nat} {listed : Array Bool} {a : Act} {w : World} (hi : ops[i]? = some oi)
 (hs : Region.noSelect ops = true) (hf : Region.free md ops listed i = true) (hr : (Region.ready md ops listed).contains i = true) (hk : ops[k]? = none)
 (hQ : ∀ c a w, Q (.panic c) (a.put oi.dst v) w → Q (.panic c) a w) (hy : YieldsIf P ops S oi v a) (hS : S w)
 (h : uF P md ops Q S k n (listed.setIfInBounds i true) (a.put oi.dst v) w) : uF P md ops Q S k (n + 1) listed a w :=
 Fp hi (Region.noSelect_spec hs) hQ (fun listed j _ hjr e => by
  subst e
  obtain ⟨-, oj', Nj, -⟩ := mem_ready.1 hjr
  rw [hk] at Nj; cases Nj) n listed a w (Region.free_spec hi hf) (by simpa using hr) hy hS h
def sH (P : Program) (md : Region.Mode) (ops : Array Oper) (Q : Exit → Act → World → Prop) (S : World → Prop) (k n : Nat) (listed : Array Bool) (a : Act) (w : World) (rs : List Nat) : Prop :=
 ∀ i ∈ rs, wpOp P ops Q i (fun b v => (i ≠ k → S v) ∧ uF P md ops Q S k n (listed.setIfInBounds i true) b v) a w
theorem wW (rs : List Nat) {n : Nat} {listed : Array Bool} {a : Act} {w : World} (hr : Region.ready md ops listed = rs) (hne : rs.isEmpty = false) (h : sH P md ops Q S k n listed a w rs) : uF P md ops Q S k (n + 1) listed a w :=
 ⟨fun h0 => (by rw [hr] at h0; rw [h0] at hne; cases hne), fun i hi => h i (hr ▸ hi)⟩
theorem sH.lu {n : Nat} {listed : Array Bool} {a : Act} {w : World} : sH P md ops Q S k n listed a w [] := fun _ h => by cases h
theorem sH.dJ {n : Nat} {listed : Array Bool} {a : Act} {w : World} {i : Nat} {o : Oper} {rs : List Nat} (ho : ops[i]? = some o)
 (h : ∀ K : Act → World → Prop, Shut (∀ b v, (i ≠ k → S v) → uF P md ops Q S k n (listed.setIfInBounds i true) b v → K b v) → if Region.wanted o (yielded ops a.tmps) = true then Oper.wp P o a w K Q else K (a.put o.dst undef) w)
 (hs : sH P md ops Q S k n listed a w rs) : sH P md ops Q S k n listed a w (i :: rs) := fun j hj => by
 rcases List.mem_cons.1 hj with rfl | hj
 ·exact wpOp_step ho fun K hK => h K fun b v hS hA => hK b v ⟨hS, hA⟩
 ·exact hs j hj
theorem GA {listed : Array Bool} {a : Act} {w : World} (hr : Region.ready md ops listed = []) (h : Q .normal a w) : ∀ n, uF P md ops Q S k n listed a w
 | 0 => ⟨hr, h⟩
 | _ + 1 => ⟨fun _ => h, by rw [hr]; simp⟩
end
end
end Go.Proofs.YtoddlphekcihgaaGreatDoor
