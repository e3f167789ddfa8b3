/- Zm of a tree: its nodes, its cases. Plain, no program. How many cases an expression holds. The draws: a cursor, a byte, a number below a bound, one of a lis -/
import Derived.Test.YthbcamfejgghhaaGreatDoorQ05
import Derived.Test.YthbcamfejgghhaaGreatDoorQ06
import Derived.Test.YthbcamfejgghhaaGreatDoorQ08
import Derived.Test.YthbcamfejgghhaaGreatDoorQ09
import Derived.Lib.Bytealg
set_option maxRecDepth 100000
set_option maxHeartbeats 8000000
set_option linter.unusedVariables false
set_option linter.unusedSimpArgs false
namespace Go.Proofs.YthbcamfejgghhaaGreatDoor
open Go.IntKind (i64)
section
open Go.RowKit
mutual
def aH.nodes : aH → Nat
 | .mk _ _ _ _ kids => 1 + gL kids
def gL : List aH → Nat
 | [] => 0
 | c :: cs => c.nodes + gL cs
end
theorem aH.eG (c : aH) : c.nodes = 1 + gL c.kids := by cases c; simp only [aH.nodes, aH.kids]
theorem Dp (a b : List aH) : gL (a ++ b) = gL a + gL b := by
 induction a with
 | nil => simp [gL]
 | cons c l ih => simp [gL, ih]; omega
theorem uP {l : List aH} {j : Nat} {c : aH} (h : l[j]? = some c) : gL (l.take (j + 1)) = gL (l.take j) + c.nodes := by
 rw [gB h, Dp]; simp [gL]
theorem uQ (l : List aH) (j : Nat) : gL (l.take j) ≤ gL l := by
 have := Dp (l.take j) (l.drop j)
 rw [List.take_append_drop] at this
 omega
theorem tN (l : List aH) : l.length ≤ gL l := by
 induction l with
 | nil => simp [gL]
 | cons c l ih => simp only [gL, List.length_cons, c.eG]; omega
mutual
def aH.cases : aH → Nat
 | .mk k _ _ _ kids => (if k = 20 then 1 else 0) + jq kids
def jq : List aH → Nat
 | [] => 0
 | c :: cs => c.cases + jq cs
end
theorem aH.K8 (c : aH) : c.cases = (if c.kind = 20 then 1 else 0) + jq c.kids := by cases c; rw [aH.cases]; rfl
theorem Dq (a b : List aH) : jq (a ++ b) = jq a + jq b := by
 induction a with
 | nil => simp [jq]
 | cons c l ih => simp [jq, ih]; omega
theorem K9 {l : List aH} {j : Nat} {c : aH} (h : l[j]? = some c) : jq (l.take (j + 1)) = jq (l.take j) + c.cases := by
 rw [gB h, Dq]; simp [jq]
theorem FM (l : List aH) (h : ∀ c ∈ l, c.cases ≤ c.nodes) : jq l ≤ gL l := by
 induction l with
 | nil => simp [jq]
 | cons c l ih =>
   have h1 := h c List.mem_cons_self
   have h2 := ih fun x hx => h x (List.mem_cons_of_mem _ hx)
   simp only [jq, gL]; omega
theorem aH.La (c : aH) : c.cases ≤ c.nodes := aH.ind (P := fun c => c.cases ≤ c.nodes) (fun c h => by
 have := FM c.kids h
 rw [c.K8, c.eG]; split <;> omega) c
end
section
open Go Go.RowKit
theorem aH.Qg {l : List aH} {x : aH} (h : x ∈ l) : x.nodes ≤ gL l := by
 induction l with
 | nil => cases h
 | cons c l ih =>
   simp only [gL]
   exact yJ
theorem G9 (c : aH) : ∀ (A : Option Addr) (n : Nat) (w : World) (lo hi : Nat), aW w lo hi 5 aH.aG (.slice A c.kids.length n) c.kids → hi ≤ w.heap.size → c.nodes ≤ 100000 →
 Calls Tryz.prog 169 #[.agg (ay c.kind c.text c.number c.line A c.kids.length n)] w fun e w' => e = .returned (.int i64 c.cases) ∧ Below w.heap.size w w' := by
 refine aH.ind (P := fun c => ∀ (A : Option Addr) (n : Nat) (w : World) (lo hi : Nat), aW w lo hi 5 aH.aG (.slice A c.kids.length n) c.kids → hi ≤ w.heap.size → c.nodes ≤ 100000 →
  Calls Tryz.prog 169 #[.agg (ay c.kind c.text c.number c.line A c.kids.length n)] w fun e w' => e = .returned (.int i64 c.cases) ∧ Below w.heap.size w w') ?_ c
 intro c ih A n w lo hi h hhi hnd
 have HIH := lH ih
 have HR := lH h
 have HC0 := lH c.K8
 have hn := c.eG
 have HN := lH hn
 have hcn := FM c.kids (fun x _ => x.La)
 have HCN := lH hcn
 obtain ⟨A', n', hv, hc1, hc2⟩ := h.shape
 injection hv with hv1 hv2 hv3
 subst hv1 hv3
 unfold maxLen at hc2
 obtain ⟨b0, hb0⟩ := dQ w 179 (ay c.kind c.text c.number c.line A c.kids.length n)
 clear ih h hn hcn hv2
 go_in
 go_upto_region 1 with fail
 generalize w.alloc (.cells (ay c.kind c.text c.number c.line A c.kids.length n) 179) = W at *
 obtain ⟨z, hz⟩ : ∃ z : Nat, (if c.kind = 20 then 1 else 0) = z := ⟨_, rfl⟩
 have HZ := lH hz
 have hz1 : z ≤ 1 := by rw [← hz]; split <;> omega
 have cx := b0.cell
 go_upto_if 7 with fail
 go_cut [3] (fun v wx => v = .int i64 z ∧ wx = W)
 case first =>
  by_cases hk : c.kind = 20
  ·have ck : (c.kind == 20) = true := by simp [hk]
   have e1 : z = 1 := by rw [← hz, if_pos hk]
   have E1 := lH e1
   clear hz e1 hk
   go_wp2_with fail
   go_meet
   exact ⟨by rw [E1.out]; rfl, rfl⟩
  have ck : (c.kind == 20) = false := by simp [hk]
  have e1 : z = 0 := by rw [← hz, if_neg hk]
  have E1 := lH e1
  clear hz e1 hk
  go_wp2_with fail
  go_meet
  exact ⟨by rw [E1.out]; rfl, rfl⟩
 obtain ⟨rfl, rfl⟩ := hcut
 clear hz cx
 go_wp2_with fail
 go_loopw [3, 4] (fun v k wx => ∃ j : Nat, j ≤ c.kids.length ∧ k = .int i64 j ∧ v = .int i64 ((z + jq (c.kids.take j) : Nat) : Int) ∧ Blk wx w.heap.size 179 (ay c.kind c.text c.number c.line A c.kids.length n) ∧ Below w.heap.size w wx) (fun _ k _ => c.kids.length - (intOf k).toNat)
 case atStart => exact ⟨0, nZ _, rfl, by simp [jq], b0, hb0⟩
 clear b0 hb0
 obtain ⟨j, hj, rfl, rfl, bx, hbx⟩ := hrel
 have cx := bx.cell
 by_cases hlt : j < c.kids.length
 ·obtain ⟨x, hx⟩ : ∃ x, c.kids[j]? = some x := ⟨_, gE hlt⟩
  obtain ⟨g, off, B, d, rfl, -, hg2, hm, hkr, -, -, t0, t1, t2, t3, t4⟩ := aH.at_ (HR.out.below hbx hhi) hx
  have hs := K9 hx
  have hnm := aH.Qg hm
  have hle : jq (c.kids.take (j + 1)) ≤ jq c.kids := by have := Dq (c.kids.take (j + 1)) (c.kids.drop (j + 1)); rw [List.take_append_drop] at this; omega
  have hw1 : IntKind.i64.wrap (((z + jq (c.kids.take j) : Nat) : Int) + (x.cases : Int)) = ((z + jq (c.kids.take (j + 1)) : Nat) : Int) := by
   have h1 := HCN.out; have h2 := HN.out
   rw [hs] at hle ⊢
   rw [show ((z + jq (c.kids.take j) : Nat) : Int) + (x.cases : Int) = ((z + (jq (c.kids.take j) + x.cases) : Nat) : Int) by omega]
   exact IntWalk.i64_in _ ah
  rw [Int.natCast_add] at hw1
  have HW := lH hw1
  have HC := lH (HIH.out x hm B d wr lo hi hkr (nT hhi hbx.size) (by have := HN.out; omega))
  clear hx hm hkr hs hle
  go_wp2_with fail
  refine HC.out.mono ?_
  rintro e w2 ⟨rfl, hb2⟩
  have bx2 := bx.later hb2
  have Qh := hbx.trans (hb2.mono hbx.size)
  clear hb2 cx HC t0 t1 t2 t3 t4
  go_wp2_with fail
  go_roundw
  case rel => exact ⟨j + 1, hlt, by go_num, by first | rfl | (simp; done) | (rw [← HW.out]; simp [IntKind.wrap_i64]), bx2, Qh⟩
  simp [intOf]; omega
 obtain rfl : j = c.kids.length := by omega
 have HE : Hid (((z + jq (c.kids.take c.kids.length) : Nat) : Int) = (c.cases : Int)) := lH (by rw [List.take_length, HC0.out, HZ.out])
 go_wp2_with fail
 go_ret
 exact ⟨pU (by simpa using HE.out), hbx⟩
end
section
open Go Go.RowKit
theorem Cur.set2 {w : World} {c : Nat} {A : Option Addr} {n k : Nat} {i h : Int} {bs : List Int} (hb : Blk w c 119 (jT A n k i h)) (hr : Rds w 0 c 1 (.slice A n k) n (bs.map (Value.int .u8))) (i0 : 0 ≤ i) (i1 : i ≤ n) (h' : Int) : CR c w (w.setCell (aj c 2) (.int i64 h')) :=
 ⟨⟨rfl, rfl, rfl, by simp [World.setCell], fun g hg hne => Below.heap_setCell w (aj c 2) _ g (fun e => hne (by rw [e]))⟩, fun _ => ⟨A, n, k, i, h', bs, hb.aF 2 _, hr.gQ (.inr (nR _)) _, i0, i1⟩⟩
theorem Cur.set1 {w : World} {c : Nat} {A : Option Addr} {n k : Nat} {i h : Int} {bs : List Int} (hb : Blk w c 119 (jT A n k i h)) (hr : Rds w 0 c 1 (.slice A n k) n (bs.map (Value.int .u8))) {i' : Int} (i0 : 0 ≤ i') (i1 : i' ≤ n) : CR c w (w.setCell (aj c 1) (.int i64 i')) :=
 ⟨⟨rfl, rfl, rfl, by simp [World.setCell], fun g hg hne => Below.heap_setCell w (aj c 1) _ g (fun e => hne (by rw [e]))⟩, fun _ => ⟨A, n, k, i', h, bs, hb.aF 1 _, hr.gQ (.inr (nR _)) _, i0, i1⟩⟩
theorem Lb (n : Int) (w : World) : Tx 256 (.int i64 (n % 256)) w := ⟨(n % 256).toNat, by rw [Int.toNat_of_nonneg ah], ah⟩
theorem Dr {c : Nat} {w w' : World} (h : CR c w w') (n : Nat) : CR c w (w'.drewN n) := h.trans (.below ((Same.refl w').drewN n |>.below _))
theorem o9 (c : Nat) (w : World) (hc : Cur w c) :
 Calls Tryz.prog 84 #[.pointer (some (aj c 0))] w (Bb c (Tx 256) w) := by
 obtain ⟨A, n, k, i, h, bs, hb, hr, i0, i1⟩ := hc
 have ha := fun m : Int => MF m
 have HA := lH ha
 have c0 : w.cell? (aj c 0) = some (.slice A n k) := hb.cell 0
 have c1 : w.cell? (aj c 1) = some (.int i64 i) := hb.cell 1
 have c2 : w.cell? (aj c 2) = some (.int i64 h) := hb.cell 2
 have f1 := hb.frozen 1
 have f2 := hb.frozen 2
 clear ha
 by_cases hi : i < n
 ·obtain ⟨j, rfl⟩ : ∃ j : Nat, i = j := ⟨i.toNat, ah⟩
  have hj : j < n := ah
  obtain ⟨g, off, z, rfl, hg1, hg2, hz, hcell⟩ := hr.Rm hj
  have hgc : g ≠ c := ah
  have hwi : IntKind.i64.wrap ((j : Int) + 1) = (j : Int) + 1 := by
   have := hr.shape; obtain ⟨_, _, e, q1, q2, _⟩ := this; injection e with _ _ e; subst e; unfold maxLen at q2; exact IntWalk.i64_in _ ah
  go_in
  go_wp2_with fail
  repeat
   go_quiet (fail)
   go_wp2_with fail
  go_ret
  rw [HA.out]
  refine ⟨_, rfl, ?_, Lb _ _⟩
  exact (Dr (Cur.set2 hb hr i0 i1 _) _).trans (Cur.set1 ((hb.aF 2 _).drewN _) ((hr.gQ (.inr (nR _)) _).same ((Same.refl _).drewN _)) ah ah)
 go_in
 go_wp2_with fail
 repeat
  go_quiet (fail)
  go_wp2_with fail
 go_ret
 rw [HA.out]
 exact ⟨_, rfl, Dr (Dr (Cur.set2 hb hr i0 i1 _) _) _, Lb _ _⟩
theorem FN (x : Int) (n : Nat) (h : 0 < n) (w : World) : Tx n (.int i64 (x % (n : Int))) w :=
 have h1 := Int.emod_nonneg x (show (n : Int) ≠ 0 by omega)
 have h2 := Int.emod_lt_of_pos x (show (0 : Int) < (n : Int) by omega)
 ⟨(x % (n : Int)).toNat, by rw [Int.toNat_of_nonneg h1], ah⟩
theorem gM (c n : Nat) (w : World) (hc : Cur w c) (h0 : 0 < n) (h1 : n ≤ 4294967296) :
 Calls Tryz.prog 47 (jW (some (aj c 0)) n) w (Bb c (Tx n) w) := by
 have hn1 : ¬ ((n : Int) ≤ 0) := ah
 by_cases hs : (n : Int) ≤ 256
 ·go_in
  go_wp2_with fail
  refine (o9 c _ hc).mono ?_
  rintro e w1 ⟨_, rfl, hR, x, rfl, hx⟩
  go_wp2_with fail
  go_ret
  exact ⟨_, rfl, hR, FN _ _ h0 _⟩
 go_in
 go_wp2_with fail
 refine (o9 c _ hc).mono ?_
 rintro e w1 ⟨_, rfl, R1, x1, rfl, hx1⟩
 go_wp2_with fail
 refine (o9 c _ (R1.cur hc)).mono ?_
 rintro e w2 ⟨_, rfl, R2, x2, rfl, hx2⟩
 go_wp2_with fail
 refine (o9 c _ (R2.cur (R1.cur hc))).mono ?_
 rintro e w3 ⟨_, rfl, R3, x3, rfl, hx3⟩
 go_wp2_with fail
 refine (o9 c _ (R3.cur (R2.cur (R1.cur hc)))).mono ?_
 rintro e w4 ⟨_, rfl, R4, x4, rfl, hx4⟩
 go_wp2_with fail
 go_ret
 exact ⟨_, rfl, ((R1.trans R2).trans R3).trans R4, FN _ _ h0 _⟩
theorem Be (c n : Nat) (w : World) (hc : Cur w c) (h0 : 0 < n) (h1 : n ≤ 4294967296) :
 Calls Tryz.prog 46 (jW (some (aj c 0)) n) w (Bb c UX w) := by
 go_in
 go_wp2_with fail
 refine (gM c n _ hc h0 h1).mono ?_
 rintro e w1 ⟨_, rfl, R, x, rfl, hx⟩
 go_wp2_with fail
 go_ret
 exact ⟨_, rfl, R, _, rfl⟩
def Ph (k : Nat) : Value → Bool
 | .string s => decide (s.size ≤ k)
 | _ => false
theorem RH {k : Nat} {cs : Array Value} (h : cs.toList.all (Ph k) = true) {i : Nat} (hi : i < cs.size) : ∃ s : ByteArray, cs[i]? = some (.string s) ∧ s.size ≤ k := by
 have h1 := List.all_eq_true.1 h cs[i] av
 rw [Array.getElem?_eq_getElem hi]
 cases hv : cs[i] with
 | string s => rw [hv] at h1; exact ⟨s, rfl, of_decide_eq_true h1⟩
 | _ => rw [hv] at h1; cases h1
theorem Lc (k c g : Nat) (t : TypeId) (cs : Array Value) (w : World) (hc : Cur w c) (hb : Blk w g t cs) (hg : g ≠ c) (hn : decide (0 < cs.size) && decide (cs.size ≤ 256) && cs.toList.all (Ph k) = true) :
 Calls Tryz.prog 127 #[.pointer (some (aj c 0)), .slice (some (aj g 0)) cs.size cs.size] w (Bb c (P6 k) w) := by
 simp only [Bool.and_eq_true, decide_eq_true_eq] at hn
 obtain ⟨⟨h0, h1⟩, h2⟩ := hn
 have HB : Hid (∀ w1, CR c w w1 → ∀ x : Nat, x < cs.size → ∃ s : ByteArray, w1.cell? (aj g x) = some (.string s) ∧ s.size ≤ k) := fun w1 hR x hx => by
  obtain ⟨s, e1, e2⟩ := RH h2 hx
  exact ⟨s, by rw [(hR.blk hb hg).cell]; exact e1, e2⟩
 clear h2 hb
 go_in
 go_wp2_with fail
 refine (gM c cs.size _ hc h0 ah).mono ?_
 rintro e w1 ⟨_, rfl, R, x, rfl, hx⟩
 obtain ⟨s, hcell, hs⟩ := HB.out w1 R x hx
 go_wp2_with fail
 go_ret
 exact ⟨_, rfl, R, s, rfl, hs⟩
theorem qA (c g : Nat) (t : TypeId) (xs : List Int) (w : World) (hc : Cur w c) (hb : Blk w g t (xs.map (Value.int i64)).toArray) (hg : g ≠ c) (hn : decide (0 < xs.length) && decide (xs.length ≤ 256) = true) :
 Calls Tryz.prog 48 #[.pointer (some (aj c 0)), .slice (some (aj g 0)) xs.length xs.length] w (Bb c (fun v _ => ∃ x ∈ xs, v = .int i64 x) w) := by
 simp only [Bool.and_eq_true, decide_eq_true_eq] at hn
 obtain ⟨h0, h1⟩ := hn
 have HB : Hid (∀ w1, CR c w w1 → ∀ x : Nat, x < xs.length → ∃ s : Int, w1.cell? (aj g x) = some (.int i64 s) ∧ s ∈ xs) := fun w1 hR x hx => by
  refine ⟨xs[x], ?_, List.getElem_mem hx⟩
  rw [(hR.blk hb hg).cell]; simp [hx]
 clear hb
 go_in
 go_wp2_with fail
 refine (gM c xs.length _ hc h0 ah).mono ?_
 rintro e w1 ⟨_, rfl, R, x, rfl, hx⟩
 obtain ⟨s, hcell, hs⟩ := HB.out w1 R x hx
 go_wp2_with fail
 go_ret
 exact ⟨_, rfl, R, s, hs, rfl⟩
theorem uR (A : Option Addr) (n k : Nat) (a b : Nat) (w : World) (hk : n ≤ 1048576) (ha : a ≤ b) (hb : b ≤ 1000) (h0 : 0 < a) :
 Calls Tryz.prog 124 (jT A n k a b) w fun e w' => (∃ x : Nat, e = .returned (.int i64 x) ∧ 0 < x ∧ x ≤ b) ∧ w = w' := by
 go_in
 go_wp2_with fail
 ·go_ret
  exact ⟨⟨b, rfl, ah, nR _⟩, rfl⟩
 go_ret
 exact ⟨⟨a + n / 4, pU ah, ah, ah⟩, rfl⟩
theorem tO (A : Option Addr) (n k hi : Nat) (bs : List Int) (w : World) (hr : Rds w 0 hi 1 (.slice A n k) n (bs.map (Value.int .u8))) (hhi : hi ≤ w.heap.size) (hn : n ≤ 1048576) :
 Calls Tryz.prog 44 #[.slice A n k] w fun e w' => ∃ c, e = .returned (.pointer (some (aj c 0))) ∧ Below w.heap.size w w' ∧ w.heap.size ≤ c ∧ Cur w' c := by
 have HR := lH hr
 go_in
 go_wp2_with fail
 go_loop [3, 4] (fun h i => ∃ (j : Nat) (m : Int), j ≤ n ∧ i = .int i64 j ∧ h = .int i64 m) (fun _ i => n - (intOf i).toNat)
 case atStart => exact ⟨0, _, nZ _, rfl, rfl⟩
 obtain ⟨j, m, hj, rfl, rfl⟩ := hrel
 by_cases hlt : j < n
 ·obtain ⟨g, off, z, rfl, -, -, -, hcell⟩ := hr.Rm hlt
  by_cases h4 : j < 4000
  ·go_wp2_with fail
   go_round
   case rel => exact ⟨j + 1, _, ah, by go_num, rfl⟩
   simp [intOf]; omega
  go_wp2_with fail
  go_ret
  refine ⟨w.heap.size, rfl, bA _ _, nR _, ?_⟩
  exact ⟨_, _, _, 0, _, bs, Blk.new w _ _, HR.out.alloc hhi _ |>.wide (nR _) hhi, ah, ah⟩
 go_wp2_with fail
 go_ret
 refine ⟨w.heap.size, rfl, bA _ _, nR _, ?_⟩
 exact ⟨_, _, _, 0, _, bs, Blk.new w _ _, HR.out.alloc hhi _ |>.wide (nR _) hhi, ah, ah⟩
end
section
open Go Go.RowKit
structure At_ (c : Nat) (w0 w : World) : Prop where
 cr : CR c w0 w
 cur : Cur w c
theorem At_.start {c : Nat} {w : World} (h : Cur w c) : At_ c w w := ⟨CR.refl c w, h⟩
theorem At_.alloc {c : Nat} {w0 w : World} (h : At_ c w0 w) (o : Obj) : At_ c w0 (w.alloc o) := ⟨h.cr.trans (CR.alloc c w o), h.cur.below ((bR w.heap.size w).alloc (nR _) o)⟩
def Got (c : Nat) (w0 : World) (T : Value → World → Prop) (e : Ending) (w' : World) : Prop := ∃ v, e = .returned v ∧ At_ c w0 w' ∧ T v w'
theorem Bb.got {c : Nat} {w0 w : World} {T : Value → World → Prop} {e : Ending} {w' : World} (h : Bb c T w e w') (hA : At_ c w0 w) : Got c w0 T e w' := by
 obtain ⟨v, he, hR, hT⟩ := h
 exact ⟨v, he, ⟨hA.cr.trans hR, hR.cur hA.cur⟩, hT⟩
theorem Got.drawn {c : Nat} {w : World} {T : Value → World → Prop} {e : Ending} {w' : World} (h : Got c w T e w') : Bb c T w e w' := by
 obtain ⟨v, he, hA, hT⟩ := h
 exact ⟨v, he, hA.cr, hT⟩
def VB (m : Int) (v : Value) (_ : World) : Prop := ∃ x : Int, v = .int i64 x ∧ 0 ≤ x ∧ x < m
theorem kJ {c : Nat} {m : Int} {w0 w : World} (hA : At_ c w0 w) (h0 : 0 < m) (h1 : m ≤ 4294967296) :
 Calls Tryz.prog 47 (jW (some (aj c 0)) m) w (Got c w0 (VB m)) := by
 obtain ⟨n, rfl⟩ : ∃ n : Nat, m = n := ⟨m.toNat, ah⟩
 refine (gM c n w hA.cur ah ah).mono fun _ _ h => ?_
 obtain ⟨v, he, hA', x, hv, hx⟩ := h.got hA
 exact ⟨v, he, hA', x, hv, ah, ah⟩
theorem rZ {c : Nat} {m : Int} {w0 w : World} (hA : At_ c w0 w) (h0 : 0 < m) (h1 : m ≤ 4294967296) :
 Calls Tryz.prog 46 (jW (some (aj c 0)) m) w (Got c w0 UX) := by
 obtain ⟨n, rfl⟩ : ∃ n : Nat, m = n := ⟨m.toNat, ah⟩
 exact (Be c n w hA.cur ah ah).mono fun _ _ h => h.got hA
theorem jV {k c n : Nat} {t : TypeId} {cs : Array Value} {w0 w : World} (hA : At_ c w0 w) (hs : cs.size = n) (hn : decide (0 < cs.size) && decide (cs.size ≤ 256) && cs.toList.all (Ph k) = true) :
 Calls Tryz.prog 127 #[.pointer (some (aj c 0)), .slice (some (aj w.heap.size 0)) n n] (w.alloc (.cells cs t)) (Got c w0 (P6 k)) := by
 subst hs
 exact (Lc k c w.heap.size t cs _ (hA.alloc _).cur (Blk.new w t cs) (Nat.ne_of_gt hA.cur.lt) hn).mono fun _ _ h => h.got (hA.alloc _)
theorem Qi {k c : Nat} {t : TypeId} {x y z : ByteArray} {w0 w : World} (hA : At_ c w0 w) (hx : x.size ≤ k) (hy : y.size ≤ k) (hz : z.size ≤ k) :
 Calls Tryz.prog 127 #[.pointer (some (aj c 0)), .slice (some (aj w.heap.size 0)) 3 3] (w.alloc (.cells #[.string x, y, z] t)) (Got c w0 (P6 k)) :=
 jV (cs := #[.string x, y, z]) hA rfl (by simp [Ph, hx, hy, hz])
theorem oh (a : Array UInt8) : (ByteArray.mk a).size = a.size := rfl
abbrev Txt (f : FuncId) (d : Int) (n : Nat) : Prop := ∀ (c : Nat) (w0 w : World), At_ c w0 w → Calls Tryz.prog f (jW (some (aj c 0)) d) w (Got c w0 (P6 n))
theorem Txt.mono {f : FuncId} {d : Int} {n m : Nat} (h : Txt f d n) (hm : n ≤ m) : Txt f d m := fun c w0 w hA => (h c w0 w hA).mono fun _ _ ⟨v, he, hA', s, hv, hs⟩ => ⟨v, he, hA', s, hv, nT hs hm⟩
theorem zh (d : Int) (h : d ≤ 0) : Txt 166 d 20 := by
 intro c w0 w hA
 go_in
 go_wp2_with (first | (go_at_call 127; refine (jV (k := 20) aU aM aI).mono ?_; rintro e w1 ⟨_, rfl, hA, s, rfl, hs⟩) | fail)
 go_ret
 exact ⟨_, rfl, aU, _, rfl, ah⟩
theorem TG (d : Int) (n : Nat) (h : 0 < d) (hd : d ≤ 100) (hn : n ≤ 1000000) (hI : Txt 166 (d - 1) n) : Txt 166 d (2 * n + 40) := by
 have h0 := zh 0 (Int.le_refl 0)
 intro c w0 w hA
 go_in
 go_wp2_with (first
  | (go_at_call 127; refine (Qi (k := 20) aU aA aA aU).mono ?_; rintro e w1 ⟨_, rfl, hA, s, rfl, hs⟩)
  | (go_at_call 47; refine (kJ aU aA aA).mono ?_; rintro e w1 ⟨_, rfl, hA, x, rfl, hx0, hx⟩; clear hx hx0)
  | (go_at_call 166; (first | (with_reducible refine (h0 _ _ _ aU).mono ?_) | (refine (hI _ _ _ aU).mono ?_)); rintro e w1 ⟨_, rfl, hA, s, rfl, hs⟩)
  | fail)
 all_goals go_ret
 all_goals refine ⟨_, rfl, aU, _, rfl, ?_⟩
 all_goals (try simp only [ByteArray.size_append, oh, List.size_toArray, List.length_cons, List.length_nil])
 all_goals omega
end
section
open Go.RowKit
inductive aY where
 | null
 | int (n : Int)
 | text (s : ByteArray)
 | set (c : cB)
def valOf (kind number index : Int) (text : ByteArray) (lo hi : Int) : Value := .agg (aD kind number index text lo hi)
def aY.val : aY → Value
 | .null => .agg (aD 0 0 0 ⟨#[]⟩ 0 0)
 | .int n => .agg (aD 1 n 0 ⟨#[]⟩ 0 0)
 | .text s => .agg (aD 2 0 0 s 0 0)
 | .set c => .agg (aD 3 0 0 ⟨#[]⟩ c.lo.toInt c.hi.toInt)
theorem RI {c d : cB} (h1 : c.lo.toInt = d.lo.toInt) (h2 : c.hi.toInt = d.hi.toInt) : c = d := by
 cases c; cases d
 simp only [cB.mk.injEq]
 exact ⟨BitVec.eq_of_toInt_eq h1, BitVec.eq_of_toInt_eq h2⟩
theorem aY.val_inj {a b : aY} (h : a.val = b.val) : a = b := by
 cases a <;> cases b <;> simp_all [aY.val]
 exact RI h.1 h.2
def aY.Ok : aY → Prop
 | .null => True
 | .int n => -999999999999 ≤ n ∧ n ≤ 999999999999
 | .text s => s.size ≤ 120
 | .set _ => True
def setOf (s : ByteArray) : Option cB := if jl s = true then some (bH s) else none
def aY.toText : aY → Option ByteArray
 | .null => none
 | .int n => some (dz n)
 | .text s => some s
 | .set c => if (dN c).size ≤ 120 then some (dN c) else none
def aY.toInt : aY → Option Int
 | .null => none
 | .int n => some n
 | .text s => eB s
 | .set c => if (dN c).size ≤ 120 then eB (dN c) else none
def aY.mO : aY → Option cB
 | .null => none
 | .int n => setOf (dz n)
 | .text s => setOf s
 | .set c => some c
def mQ (n : Int) : aY × Int := if -999999999999 ≤ n ∧ n ≤ 999999999999 then (.int n, 0) else (.null, 203)
def wO (a : Int) : Nat → Int → Option Int
 | 0, n => some n
 | k + 1, n => if 999999999999 < n.natAbs * a.natAbs then none else wO a k (n * a)
def og (a b : Int) : aY × Int :=
 if b < 0 ∧ a = 0 then (.null, 201)
 else if a = 1 ∨ a = -1 then (.int (if a = -1 ∧ ¬ b.tmod 2 = 0 then -1 else 1), 0)
 else if b < 0 then (.int 0, 0)
 else if a = 0 ∧ 0 < b then (.int 0, 0)
 else match wO a b.toNat 1 with
  | none => (.null, 203)
  | some n => (.int n, 0)
def iR (op x y : Int) : aY × Int :=
 if op = 20 then mQ (x + y)
 else if op = 21 then mQ (x - y)
 else if op = 22 then (if 999999999999 < x.natAbs * y.natAbs then (.null, 203) else (.int (x * y), 0))
 else if op = 25 then og x y
 else if y = 0 then (.null, 201)
 else if op = 23 then (.int (x.tdiv y), 0)
 else (.int (x.tmod y), 0)
def uS (k s : Int) : Bool :=
 if k = 0 then decide (s < 0) else if k = 1 then decide (s ≤ 0) else if k = 2 then decide (s = 0) else if k = 3 then decide (0 ≤ s) else if k = 4 then decide (0 < s) else decide (¬ s = 0)
def xg (x y : Int) : Int := if x < y then -1 else if y < x then 1 else 0
def TH (x y : ByteArray) : Int := Lib.compareBytes x.data.toList y.data.toList
def uE (op : Int) : Option Int → Option Int → aY × Int
 | some x, some y => if op ≤ 25 then iR op x y else if uS (op - 30) (xg x y) = true then (.int y, 0) else (.null, -1)
 | _, _ => (.null, 101)
def om (op : Int) : Option ByteArray → Option ByteArray → aY × Int
 | some x, some y => if op = 50 then (if x.size + y.size ≤ 120 then (.text (x ++ y), 0) else (.null, 302)) else if uS (op - 40) (TH x y) = true then (.text y, 0) else (.null, -1)
 | _, _ => (.null, 103)
def cB.or_ (c d : cB) : cB := ⟨c.lo ||| d.lo, c.hi ||| d.hi⟩
def cB.Qj (c d : cB) : cB := ⟨c.lo &&& d.lo, c.hi &&& d.hi⟩
def cB.Qk (c d : cB) : cB := ⟨c.lo &&& ~~~ d.lo, c.hi &&& ~~~ d.hi⟩
def cB.Ql (c : cB) : cB := ⟨~~~ c.lo, ~~~ c.hi⟩
def qB (op : Int) : Option cB → Option cB → aY × Int
 | some x, some y => (.set (if op = 52 then x.or_ y else if op = 53 then x.Qk y else x.Qj y), 0)
 | _, _ => (.null, 104)
open Classical in
noncomputable def qC (op : Int) (a b : aY) : aY × Int :=
 if 20 ≤ op ∧ op ≤ 35 then uE op a.toInt b.toInt
 else if op = 46 ∨ op = 47 then (if (a = b) ↔ (op = 46) then (b, 0) else (.null, -1))
 else if (40 ≤ op ∧ op ≤ 45) ∨ op = 50 then om op a.toText b.toText
 else qB op a.mO b.mO
def unR (op : Int) (v : aY) : aY × Int :=
 if op = 6 then (match v.mO with
  | some c => (.set c.Ql, 0)
  | none => (.null, 104))
 else (match v.toInt with
  | some n => (.int (if op = 1 then -n else n), 0)
  | none => (.null, 101))
def gu (r : aY × Int) : Value := .tuple #[r.1.val, r.2]
def ig (r : aY × Int) (w : World) (e : Ending) (w' : World) : Prop := e = .returned (gu r) ∧ Below w.heap.size w w'
def rU (r : Option ByteArray) : Value := .tuple #[.string (r.getD aC), .bool r.isSome]
def Ld (r : Option cB) : Value := .tuple #[(r.getD ⟨0#64, 0#64⟩).val, .bool r.isSome]
def Gives (v : Value) (w : World) (e : Ending) (w' : World) : Prop := e = .returned v ∧ Below w.heap.size w w'
def pz (c : ak) : Bool := decide (1 ≤ c.kind) && decide (c.kind ≤ 4)
def jP (c : ak) : aY := if c.kind = 1 then .int c.number else if c.kind = 2 then .text c.text else if c.kind = 3 then .set (bH c.text) else .null
def jM (kind number line : Int) (text : ByteArray) : ak := .mk kind 0 number line text []
def jF (line : Int) : aY → ak
 | .null => jM 4 0 line ⟨#[]⟩
 | .int n => jM 1 n line ⟨#[]⟩
 | .text s => jM 2 0 line s
 | .set c => jM 3 0 line (dN c)
noncomputable def opR (c : ak) : aY × Int :=
 match c.kids with
 | [a] => if c.op = 1 ∨ c.op = 2 ∨ c.op = 6 then unR c.op (jP a) else (.null, 205)
 | [a, b] => if 20 ≤ c.op ∧ c.op ≤ 54 ∧ ¬ c.op = 51 then qC c.op (jP a) (jP b) else (.null, 205)
 | _ => (.null, 205)
noncomputable def lG (c : ak) : ak :=
 if c.kids.all pz = true then (if (opR c).2 = -1 then jM 28 0 c.line aC else if (opR c).2 = 0 then jF c.line (opR c).1 else c) else c
def rR (n : Nat) (i : Nat) (c : ak) : Bool := decide (i + 1 = n) || (!pz c && !decide (c.kind = 28))
def fF (n : Nat) : Nat → List ak → List ak
 | _, [] => []
 | i, c :: l => if rR n i c = true then c :: fF n (i + 1) l else fF n (i + 1) l
def ak.with (c : ak) (kids : List ak) : ak := .mk c.kind c.op c.number c.line c.text kids
def iL (c : ak) : ak :=
 match fF c.kids.length 0 c.kids with
 | [x] => x
 | l => c.with l
def tQ (c : ak) : ak :=
 match c.kids with
 | [a, b] => if a.kind = 28 then b else if b.kind = 28 then a else c
 | _ => c
def xN (c : ak) : ak :=
 match c.kids with
 | [a, b, d] => if pz a = true then b else if a.kind = 28 then d else c
 | _ => c
noncomputable def eH (c : ak) : ak :=
 if c.kind = 11 then lG c else if c.kind = 13 then tQ c else if c.kind = 16 then iL c else if c.kind = 17 then xN c else c
mutual
noncomputable def aX : ak → ak
 | .mk k o n l t kids => eH (.mk k o n l t (Le kids))
noncomputable def Le : List ak → List ak
 | [] => []
 | c :: l => aX c :: Le l
end
theorem Qm (l : List ak) : Le l = l.map aX := by
 induction l with
 | nil => simp only [Le, List.map_nil]
 | cons c l ih => simp only [Le, List.map_cons, ih]
theorem pE (c : ak) : aX c = eH (c.with (c.kids.map aX)) := by
 rw [← Qm]; cases c; simp only [aX, ak.with, ak.kind, ak.op, ak.number, ak.line, ak.text, ak.kids]
end
section
open Go.RowKit
theorem jU {w w1 w2 : World} {g0 : Nat} {t0 : TypeId} {c0 : Array Value} (B : Below w.heap.size w w1) (b0 : Blk w1 g0 t0 c0) (hb : Below w1.heap.size w1 w2) : Below w.heap.size w w2 ∧ Blk w2 g0 t0 c0 ∧ (∀ i, w2.cell? (aj g0 i) = c0[i]?) ∧ g0 < w2.heap.size ∧ (∀ i, w2.frozen? (aj g0 i) = false) :=
 ⟨B.trans (hb.mono B.size), b0.later hb, (b0.later hb).cell, (b0.later hb).lt, (b0.later hb).frozen⟩
theorem lF {w w1 w2 : World} {g0 : Nat} {t0 : TypeId} {c0 : Array Value} {g1 : Nat} {t1 : TypeId} {c1 : Array Value} (B : Below w.heap.size w w1) (b0 : Blk w1 g0 t0 c0) (b1 : Blk w1 g1 t1 c1) (hb : Below w1.heap.size w1 w2) : Below w.heap.size w w2 ∧ Blk w2 g0 t0 c0 ∧ (∀ i, w2.cell? (aj g0 i) = c0[i]?) ∧ g0 < w2.heap.size ∧ (∀ i, w2.frozen? (aj g0 i) = false) ∧ Blk w2 g1 t1 c1 ∧ (∀ i, w2.cell? (aj g1 i) = c1[i]?) ∧ g1 < w2.heap.size ∧ (∀ i, w2.frozen? (aj g1 i) = false) :=
 ⟨B.trans (hb.mono B.size), b0.later hb, (b0.later hb).cell, (b0.later hb).lt, (b0.later hb).frozen, b1.later hb, (b1.later hb).cell, (b1.later hb).lt, (b1.later hb).frozen⟩
theorem gW {w w1 w2 : World} {g0 : Nat} {t0 : TypeId} {c0 : Array Value} {g1 : Nat} {t1 : TypeId} {c1 : Array Value} {g2 : Nat} {t2 : TypeId} {c2 : Array Value} (B : Below w.heap.size w w1) (b0 : Blk w1 g0 t0 c0) (b1 : Blk w1 g1 t1 c1) (b2 : Blk w1 g2 t2 c2) (hb : Below w1.heap.size w1 w2) : Below w.heap.size w w2 ∧ Blk w2 g0 t0 c0 ∧ (∀ i, w2.cell? (aj g0 i) = c0[i]?) ∧ g0 < w2.heap.size ∧ (∀ i, w2.frozen? (aj g0 i) = false) ∧ Blk w2 g1 t1 c1 ∧ (∀ i, w2.cell? (aj g1 i) = c1[i]?) ∧ g1 < w2.heap.size ∧ (∀ i, w2.frozen? (aj g1 i) = false) ∧ Blk w2 g2 t2 c2 ∧ (∀ i, w2.cell? (aj g2 i) = c2[i]?) ∧ g2 < w2.heap.size ∧ (∀ i, w2.frozen? (aj g2 i) = false) :=
 ⟨B.trans (hb.mono B.size), b0.later hb, (b0.later hb).cell, (b0.later hb).lt, (b0.later hb).frozen, b1.later hb, (b1.later hb).cell, (b1.later hb).lt, (b1.later hb).frozen, b2.later hb, (b2.later hb).cell, (b2.later hb).lt, (b2.later hb).frozen⟩
theorem ji {P : Prop} (h : P := by
 repeat' first | with_reducible exact B4 | with_reducible exact B3 | with_reducible exact B2 | with_reducible exact B1 | with_reducible exact B0 | with_reducible exact bR _ _ | with_reducible refine Below.setCell ?_ OL _ | with_reducible refine Below.alloc ?_ OL _) : P := h
end
end Go.Proofs.YthbcamfejgghhaaGreatDoor
