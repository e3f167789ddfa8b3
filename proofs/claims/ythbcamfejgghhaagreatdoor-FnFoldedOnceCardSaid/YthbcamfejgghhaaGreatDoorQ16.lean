/- A region that draws its order and ends in a store (number k): what S holds is shown behind every operation but that one. Plain lemmas, no program. A region that -/
import Derived.Test.YthbcamfejgghhaaGreatDoorQ04
import Derived.StillTail
set_option maxRecDepth 100000
set_option maxHeartbeats 8000000
set_option linter.unusedVariables false
set_option linter.unusedSimpArgs false
namespace Go.Proofs.YthbcamfejgghhaaGreatDoor
open Go.IntKind (i64)
section
open Go
section
variable {P : Program} {ops : Array Oper} {Q : Exit → Act → World → Prop} {md : Region.Mode} {S : World → Prop} {k : Nat}
def iG (P : Program) (md : Region.Mode) (ops : Array Oper) (Q : Exit → Act → World → Prop) (S : World → Prop) (k : Nat) : Nat → Array Bool → Act → World → Prop
 | 0, listed, a, w => Region.ready md ops listed = [] ∧ Q .normal a w
 | n + 1, listed, a, w =>
   (Region.ready md ops listed = [] → Q .normal a w) ∧
   ∀ i ∈ Region.ready md ops listed, wpOp P ops Q i (fun b v => (i ≠ k → S v) ∧ iG P md ops Q S k n (listed.setIfInBounds i true) b v) a w
theorem iG.any : ∀ (n : Nat) (listed : Array Bool) (a : Act) (w : World), iG P md ops Q S k n listed a w → wpAny P md ops Q n listed a w
 | 0, _, _, _, h => h
 | n + 1, _, _, _, h => ⟨h.1, fun i hi => wpOp_mono (fun b v hb => iG.any n _ b v hb.2) (h.2 i hi)⟩
theorem pZ {id : Nat} {a : Act} {w : World} (hm : P.follows .mixedOrders = true) (h : iG P .any ops Q S k ops.size (Array.replicate ops.size false) a w.drew) : (Code.region id ops true).wp P Q a w :=
 wp_region_any hm (h.any)
theorem y5 {i : Nat} {oi : Oper} {v : Value} (hi : ops[i]? = some oi) (hsel : ∀ (j : Nat) (o : Oper) cs b, ops[j]? = some o → o.op ≠ .select cs b)
 (hQ : ∀ c a w, Q (.panic c) (a.put oi.dst v) w → Q (.panic c) a w) (Zc : ∀ (listed : Array Bool) (j : Nat), i ∈ Region.ready md ops listed → j ∈ Region.ready md ops listed → j ≠ k) (n : Nat) :
 ∀ (listed : Array Bool) (a : Act) (w : World),
  (∀ j oj, ops[j]? = some oj → j ≠ i → listed.getD j true = false → (∀ e ∈ oj.after, Region.binds md e = true → e.on ≠ i) → oi.apart ops oj = true) →
  i ∈ Region.ready md ops listed → YieldsIf P ops S oi v a → S w →
  iG P md ops Q S k n (listed.setIfInBounds i true) (a.put oi.dst v) w → iG P md ops Q S k (n + 1) listed a w := by
 have waits : ∀ (listed : Array Bool) (j : Nat), i ∈ Region.ready md ops listed → j ∈ Region.ready md ops listed → ∀ oj, ops[j]? = some oj → ∀ e ∈ oj.after, Region.binds md e = true → e.on ≠ i := by
  intro listed j hir hjr oj hoj e he hb heq
  obtain ⟨-, oj', Qc, hall⟩ := mem_ready.1 hjr
  obtain rfl : oj' = oj := Option.some.inj (Qc.symm.trans hoj)
  have h1 := hall e he hb
  rw [heq, getD_both (mem_ready.1 hir).1] at h1
  cases h1
 induction n with
 | zero =>
   intro listed a w _ hr hy hS H
   refine ⟨fun h => (by rw [h] at hr; cases hr), fun j hj => ?_⟩
   rcases Nat.decEq j i with hji | hji
   ·have hm := ready_mono hj hji
    rw [H.1] at hm
    cases hm
   subst hji
   exact hy.wpOp hi hS ⟨fun _ => hS, H⟩
 | succ n ih =>
   intro listed a w hfree hr hy hS H
   refine ⟨fun h => (by rw [h] at hr; cases hr), fun j hj => ?_⟩
   rcases Nat.decEq j i with hji | hji
   ·obtain ⟨hun, oj, hoj, -⟩ := mem_ready.1 hj
    have hstep := wpOp_putIf hoj (hfree j oj hoj hji hun (waits listed j hr hj oj hoj)) (fun cs b => hsel i oi cs b hi) (fun cs b => hsel j oj cs b hoj) hQ hy (H.2 j (ready_mono hj hji))
    have hjk := Zc listed j hr hj
    refine wpOp_mono (fun b v hb => ?_) hstep
    obtain ⟨hy', hS', hrest⟩ := hb
    refine ⟨hS', ih _ b v (fun l ol hol hli hul hno => hfree l ol hol hli ?_ hno) (ready_mono hr fun e => hji e.symm) hy' (hS' hjk) (by rw [Array.setIfInBounds_comm _ _ hji]; exact hrest)⟩
    rcases Nat.decEq j l with hjl | hjl
    ·rw [getD_set_ne true hjl] at hul; exact hul
    rw [← hjl]; exact hun
   subst hji
   exact hy.wpOp hi hS ⟨fun _ => hS, H⟩
theorem iy (i : Nat) {oi : Oper} {v : Value} {n : Nat} {listed : Array Bool} {a : Act} {w : World} (hi : ops[i]? = some oi)
 (hs : Region.noSelect ops = true) (hf : Region.free md ops listed i = true) (hr : (Region.ready md ops listed).contains i = true) (hki : Region.waitsFor md ops k i = true)
 (hQ : ∀ c a w, Q (.panic c) (a.put oi.dst v) w → Q (.panic c) a w) (hy : YieldsIf P ops S oi v a) (hS : S w)
 (h : iG P md ops Q S k n (listed.setIfInBounds i true) (a.put oi.dst v) w) : iG P md ops Q S k (n + 1) listed a w :=
 y5 hi (Region.noSelect_spec hs) hQ (fun listed j hir hjr e => by
  subst e
  obtain ⟨oj, hoj, e, he, hb, hon⟩ := Region.waitsFor_spec hki
  obtain ⟨-, oj', Qc, hall⟩ := mem_ready.1 hjr
  obtain rfl : oj' = oj := Option.some.inj (Qc.symm.trans hoj)
  have h1 := hall e he hb
  rw [hon, getD_both (mem_ready.1 hir).1] at h1
  cases h1) n listed a w (Region.free_spec hi hf) (by simpa using hr) hy hS h
theorem fG (i : Nat) {oi : Oper} {v : Value} {n : Nat} {listed : Array Bool} {a : Act} {w : World} (hi : ops[i]? = some oi)
 (hs : Region.noSelect ops = true) (hf : Region.free md ops listed i = true) (hr : (Region.ready md ops listed).contains i = true) (hk : ops[k]? = none)
 (hQ : ∀ c a w, Q (.panic c) (a.put oi.dst v) w → Q (.panic c) a w) (hy : YieldsIf P ops S oi v a) (hS : S w)
 (h : iG P md ops Q S k n (listed.setIfInBounds i true) (a.put oi.dst v) w) : iG P md ops Q S k (n + 1) listed a w :=
 y5 hi (Region.noSelect_spec hs) hQ (fun listed j _ hjr e => by
  subst e
  obtain ⟨-, oj', Qc, -⟩ := mem_ready.1 hjr
  rw [hk] at Qc; cases Qc) n listed a w (Region.free_spec hi hf) (by simpa using hr) hy hS h
def bS (P : Program) (md : Region.Mode) (ops : Array Oper) (Q : Exit → Act → World → Prop) (S : World → Prop) (k n : Nat) (listed : Array Bool) (a : Act) (w : World) (rs : List Nat) : Prop :=
 ∀ i ∈ rs, wpOp P ops Q i (fun b v => (i ≠ k → S v) ∧ iG P md ops Q S k n (listed.setIfInBounds i true) b v) a w
theorem dV (rs : List Nat) {n : Nat} {listed : Array Bool} {a : Act} {w : World} (hr : Region.ready md ops listed = rs) (hne : rs.isEmpty = false) (h : bS P md ops Q S k n listed a w rs) : iG P md ops Q S k (n + 1) listed a w :=
 ⟨fun h0 => (by rw [hr] at h0; rw [h0] at hne; cases hne), fun i hi => h i (hr ▸ hi)⟩
theorem bS.eO {n : Nat} {listed : Array Bool} {a : Act} {w : World} : bS P md ops Q S k n listed a w [] := fun _ h => by cases h
theorem bS.aN {n : Nat} {listed : Array Bool} {a : Act} {w : World} {i : Nat} {o : Oper} {rs : List Nat} (ho : ops[i]? = some o)
 (h : ∀ K : Act → World → Prop, Shut (∀ b v, (i ≠ k → S v) → iG P md ops Q S k n (listed.setIfInBounds i true) b v → K b v) → if Region.wanted o (yielded ops a.tmps) = true then Oper.wp P o a w K Q else K (a.put o.dst undef) w)
 (hs : bS P md ops Q S k n listed a w rs) : bS P md ops Q S k n listed a w (i :: rs) := fun j hj => by
 rcases mC hj with rfl | hj
 ·exact wpOp_step ho fun K hK => h K fun b v hS hA => hK b v ⟨hS, hA⟩
 exact hs j hj
theorem bY {listed : Array Bool} {a : Act} {w : World} (hr : Region.ready md ops listed = []) (h : Q .normal a w) : ∀ n, iG P md ops Q S k n listed a w
 | 0 => ⟨hr, h⟩
 | _ + 1 => ⟨fun _ => h, by rw [hr]; simp⟩
end
end
section
open Go Go.RowKit
section
variable {P : Program} {ops : Array Oper} {Q : Exit → Act → World → Prop} {md : Region.Mode} {S : World → Prop} {k : Nat}
theorem jm (N : Nat) (S : World → Prop) (k : Nat) {id : Nat} {L : Array Bool} {a : Act} {w : World} (h : iG P .any ops Q S k N L a w.drew) (hN : ops.size = N := by rfl) (hL : (List.replicate N false).toArray = L := by simp only [List.replicate] <;> rfl)
 (hm : P.follows .mixedOrders = true := by kernel_rfl) : (Code.region id ops true).wp P Q a w := by
 subst hN hL
 exact pZ hm h
theorem tkA (i : Nat) {oi : Oper} {v : Value} {n : Nat} {listed l' : Array Bool} {a a' : Act} {w : World} (hS : S w)
 (h : iG P md ops Q S k n l' a' w)
 (hi : ops[i]? = some oi := by (simp only [List.getElem?_toArray, List.getElem?_cons_succ, List.getElem?_cons_zero]) <;> rfl) (hs : Region.noSelect ops = true := by kernel_rfl) (hf : Region.free md ops listed i = true := by kernel_rfl)
 (hr : (Region.ready md ops listed).contains i = true := by kernel_rfl) (hk : ops[k]? = none := by rfl)
 (hy : YieldsIf P ops S oi v a := by (refine Or.inl ⟨aI, ?_⟩; intro w' hSw; (repeat (obtain ⟨_, hSw⟩ : _ ∧ _ := hSw)); go_simp; try with_reducible rfl))
 (hQ : ∀ c a w, Q (.panic c) (a.put oi.dst v) w → Q (.panic c) a w := by exact fun _ _ _ h => h)
 (ha : a.put oi.dst v = a' := by (try simp only [Act.put, List.setIfInBounds_toArray, List.set_cons_zero, List.set_cons_succ]) <;> rfl)
 (hl : listed.setIfInBounds i true = l' := by (try simp only [List.setIfInBounds_toArray, List.set_cons_zero, List.set_cons_succ]) <;> rfl) : iG P md ops Q S k (n + 1) listed a w := by
 subst ha hl
 exact fG i hi hs hf hr hk hQ hy hS h
theorem tkN (i : Nat) {oi : Oper} {v : Value} {n : Nat} {listed l' : Array Bool} {a a' : Act} {w : World} (hS : S w)
 (h : iG P md ops Q S k n l' a' w)
 (hi : ops[i]? = some oi := by (simp only [List.getElem?_toArray, List.getElem?_cons_succ, List.getElem?_cons_zero]) <;> rfl) (hs : Region.noSelect ops = true := by kernel_rfl) (hf : Region.free md ops listed i = true := by kernel_rfl)
 (hr : (Region.ready md ops listed).contains i = true := by kernel_rfl) (hk : ops[k]? = none := by rfl)
 (hy : YieldsIf P ops S oi v a := by exact Or.inr ⟨aI, rfl⟩)
 (hQ : ∀ c a w, Q (.panic c) (a.put oi.dst v) w → Q (.panic c) a w := by exact fun _ _ _ h => h)
 (ha : a.put oi.dst v = a' := by (try simp only [Act.put, List.setIfInBounds_toArray, List.set_cons_zero, List.set_cons_succ]) <;> rfl)
 (hl : listed.setIfInBounds i true = l' := by (try simp only [List.setIfInBounds_toArray, List.set_cons_zero, List.set_cons_succ]) <;> rfl) : iG P md ops Q S k (n + 1) listed a w := by
 subst ha hl
 exact fG i hi hs hf hr hk hQ hy hS h
theorem tkB (i : Nat) {oi : Oper} {v : Value} {n : Nat} {listed l' : Array Bool} {a a' : Act} {w : World} (hS : S w)
 (h : iG P md ops Q S k n l' a' w)
 (hi : ops[i]? = some oi := by (simp only [List.getElem?_toArray, List.getElem?_cons_succ, List.getElem?_cons_zero]) <;> rfl) (hs : Region.noSelect ops = true := by kernel_rfl) (hf : Region.free md ops listed i = true := by kernel_rfl)
 (hr : (Region.ready md ops listed).contains i = true := by kernel_rfl) (hk : Region.waitsFor md ops k i = true := by kernel_rfl)
 (hy : YieldsIf P ops S oi v a := by (refine Or.inl ⟨aI, ?_⟩; intro w' hSw; (repeat (obtain ⟨_, hSw⟩ : _ ∧ _ := hSw)); go_simp; try with_reducible rfl))
 (hQ : ∀ c a w, Q (.panic c) (a.put oi.dst v) w → Q (.panic c) a w := by exact fun _ _ _ h => h)
 (ha : a.put oi.dst v = a' := by (try simp only [Act.put, List.setIfInBounds_toArray, List.set_cons_zero, List.set_cons_succ]) <;> rfl)
 (hl : listed.setIfInBounds i true = l' := by (try simp only [List.setIfInBounds_toArray, List.set_cons_zero, List.set_cons_succ]) <;> rfl) : iG P md ops Q S k (n + 1) listed a w := by
 subst ha hl
 exact iy i hi hs hf hr hk hQ hy hS h
theorem rdA (i : Nat) {o : Oper} {n : Nat} {listed : Array Bool} {a : Act} {w : World}
 (h : ∀ K : Act → World → Prop, Shut (∀ b v, (i ≠ k → S v) → iG P md ops Q S k n (listed.setIfInBounds i true) b v → K b v) → if Region.wanted o (yielded ops a.tmps) = true then Oper.wp P o a w K Q else K (a.put o.dst undef) w)
 (hr : Region.ready md ops listed = [i] := by kernel_rfl) (ho : ops[i]? = some o := by (simp only [List.getElem?_toArray, List.getElem?_cons_succ, List.getElem?_cons_zero]) <;> rfl) : iG P md ops Q S k (n + 1) listed a w :=
 dV [i] hr rfl (bS.aN ho h bS.eO)
theorem fM {i : Nat} {K : Act → World → Prop} {n : Nat} {listed l' : Array Bool} {a a' : Act} {w : World} (hK : Shut (∀ b v, (i ≠ k → S v) → iG P md ops Q S k n listed b v → K b v)) (hS : S w)
 (h : iG P md ops Q S k n l' a' w)
 (ha : a = a' := by (try simp only [Act.put, List.setIfInBounds_toArray, List.set_cons_zero, List.set_cons_succ]) <;> rfl)
 (hl : listed = l' := by (try simp only [List.setIfInBounds_toArray, List.set_cons_zero, List.set_cons_succ]) <;> rfl) : K a w := by
 subst ha hl
 exact hK.out _ _ (fun _ => hS) h
theorem rE {K : Act → World → Prop} {n : Nat} {listed l' : Array Bool} {a a' : Act} {w : World} (hK : Shut (∀ b v, (k ≠ k → S v) → iG P md ops Q S k n listed b v → K b v))
 (h : iG P md ops Q S k n l' a' w)
 (ha : a = a' := by (try simp only [Act.put, List.setIfInBounds_toArray, List.set_cons_zero, List.set_cons_succ]) <;> rfl)
 (hl : listed = l' := by (try simp only [List.setIfInBounds_toArray, List.set_cons_zero, List.set_cons_succ]) <;> rfl) : K a w := by
 subst ha hl
 exact hK.out _ _ (fun h => absurd rfl h) h
end
theorem Vt {P : Program} {f : FuncId} {args : Array Value} {w : World} {n : Nat} {v : Value}
 (h : Calls P f args (w.drewN n) fun e w' => e = .returned v ∧ w.drewN n = w') : Calls P f args (w.drewN n) fun e w' => e = .returned v ∧ ∃ m, w' = w.drewN m := h.mono fun _ _ ⟨he, hw⟩ => ⟨he, n, hw.symm⟩
structure Two (w : World) (tu : TypeId) (cu : Array Value) (te : TypeId) (ce : Array Value) (wx : World) : Prop where
 b0 : Blk wx w.heap.size tu cu
 b1 : Blk wx (w.heap.size + 1) te ce
 bl : Below w.heap.size w wx
section
variable {w wx wy : World} {tu te : TypeId} {cu ce : Array Value}
theorem Two.start (w : World) (tu : TypeId) (cu : Array Value) (te : TypeId) (ce : Array Value) : Two w tu cu te ce ((w.alloc (.cells cu tu)).alloc (.cells ce te)) :=
 ⟨(Blk.new w tu cu).alloc _, Blk.newAt (w.alloc (.cells cu tu)) te ce (w.heap.size + 1) av, (bA _ _).alloc av _⟩
theorem Two.later (h : Two w tu cu te ce wx) (hb : Below wx.heap.size wx wy) : Two w tu cu te ce wy := ⟨h.b0.later hb, h.b1.later hb, h.bl.trans (hb.mono h.bl.size)⟩
theorem Two.drewN (h : Two w tu cu te ce wx) (n : Nat) : Two w tu cu te ce (wx.drewN n) := h.later ((Same.refl wx).drewN n |>.below _)
theorem Two.drew (h : Two w tu cu te ce wx) : Two w tu cu te ce wx.drew := h.later ((Same.refl wx).drew.below _)
end
end
section
open Go.RowKit
structure WdT where
 slots : Nat
 globals : Nat
 au : Nat
 records : Nat
def inB (n lo hi : Int) : Bool := decide (lo ≤ n) && decide (n ≤ hi)
theorem lq (n lo hi : Int) (w : World) : Calls Tryz.prog 34 (oP n lo hi) w fun e w' => e = .returned (.bool (inB n lo hi)) ∧ w = w' := by
 exact Jj
def fD (d : WdT) (k n : Int) : Bool :=
 if k = 1 then inB n (-999999999999) 999999999999 else if k = 5 then inB n 0 (d.slots - 1) else if k = 6 then inB n 0 (d.globals - 1) else if k = 7 then inB n 0 (d.au - 1) else if k = 8 then inB n 0 54
 else if k = 9 then inB n 0 (d.records - 1) else if k = 10 then inB n 1 2 else decide (n = 0)
theorem KQ (d : WdT) (A1 A2 A3 : Option Addr) (c1 c2 c3 : Nat) (m : Int) (x : Value) (c : ak) (w : World) (lo hi : Nat) (hr : gX w lo hi x c) (q1 : d.slots ≤ 34359738368) (q2 : d.globals ≤ 34359738368) (q3 : d.au ≤ 34359738368) (q4 : d.records ≤ 34359738368) (h : c.kind = 1) : Calls Tryz.prog 73 #[.agg (aP A1 d.au c1 A2 d.records c2 A3 d.globals c3 m), d.slots, x] w fun e w' => e = .returned (.bool (fD d c.kind c.number)) ∧ Below w.heap.size w w' := by
 obtain ⟨A, cap, rfl, -, -, -⟩ := hr.form
 have HV : Hid (fD d c.kind c.number = inB c.number (-999999999999) 999999999999) := lH sQ
 have b1 : (c.kind == 1) = true := beq_iff_eq.2 h
 clear h hr
 go_in
 go_wp2_with fail
 all_goals
  go_ret
  exact ⟨bD (by rw [HV.out, Bool.eq_iff_iff]; simp [inB]; omega), (bA _ _).alloc av _⟩
theorem KS (d : WdT) (A1 A2 A3 : Option Addr) (c1 c2 c3 : Nat) (m : Int) (x : Value) (c : ak) (w : World) (lo hi : Nat) (hr : gX w lo hi x c) (q1 : d.slots ≤ 34359738368) (q2 : d.globals ≤ 34359738368) (q3 : d.au ≤ 34359738368) (q4 : d.records ≤ 34359738368) (h : c.kind = 5) : Calls Tryz.prog 73 #[.agg (aP A1 d.au c1 A2 d.records c2 A3 d.globals c3 m), d.slots, x] w fun e w' => e = .returned (.bool (fD d c.kind c.number)) ∧ Below w.heap.size w w' := by
 obtain ⟨A, cap, rfl, -, -, -⟩ := hr.form
 have HV : Hid (fD d c.kind c.number = inB c.number 0 (d.slots - 1)) := lH sQ
 have b1 : (c.kind == 1) = false := bF ah
 have b5 : (c.kind == 5) = true := beq_iff_eq.2 h
 clear h hr
 go_in
 go_wp2_with fail
 refine (lq c.number 0 ((d.slots : Int) - 1) _).mono ?_; rintro e w1 ⟨rfl, rfl⟩
 exact sN
theorem KT (d : WdT) (A1 A2 A3 : Option Addr) (c1 c2 c3 : Nat) (m : Int) (x : Value) (c : ak) (w : World) (lo hi : Nat) (hr : gX w lo hi x c) (q1 : d.slots ≤ 34359738368) (q2 : d.globals ≤ 34359738368) (q3 : d.au ≤ 34359738368) (q4 : d.records ≤ 34359738368) (h : c.kind = 6) : Calls Tryz.prog 73 #[.agg (aP A1 d.au c1 A2 d.records c2 A3 d.globals c3 m), d.slots, x] w fun e w' => e = .returned (.bool (fD d c.kind c.number)) ∧ Below w.heap.size w w' := by
 obtain ⟨A, cap, rfl, -, -, -⟩ := hr.form
 have HV : Hid (fD d c.kind c.number = inB c.number 0 (d.globals - 1)) := lH sQ
 have b1 : (c.kind == 1) = false := bF ah
 have b5 : (c.kind == 5) = false := bF ah
 have b6 : (c.kind == 6) = true := beq_iff_eq.2 h
 clear h hr
 go_in
 go_wp2_with fail
 refine (lq c.number 0 ((d.globals : Int) - 1) _).mono ?_; rintro e w1 ⟨rfl, rfl⟩
 exact sN
theorem KU (d : WdT) (A1 A2 A3 : Option Addr) (c1 c2 c3 : Nat) (m : Int) (x : Value) (c : ak) (w : World) (lo hi : Nat) (hr : gX w lo hi x c) (q1 : d.slots ≤ 34359738368) (q2 : d.globals ≤ 34359738368) (q3 : d.au ≤ 34359738368) (q4 : d.records ≤ 34359738368) (h : c.kind = 7) : Calls Tryz.prog 73 #[.agg (aP A1 d.au c1 A2 d.records c2 A3 d.globals c3 m), d.slots, x] w fun e w' => e = .returned (.bool (fD d c.kind c.number)) ∧ Below w.heap.size w w' := by
 obtain ⟨A, cap, rfl, -, -, -⟩ := hr.form
 have HV : Hid (fD d c.kind c.number = inB c.number 0 (d.au - 1)) := lH sQ
 have b1 : (c.kind == 1) = false := bF ah
 have b5 : (c.kind == 5) = false := bF ah
 have b6 : (c.kind == 6) = false := bF ah
 have b7 : (c.kind == 7) = true := beq_iff_eq.2 h
 clear h hr
 go_in
 go_wp2_with fail
 refine (lq c.number 0 ((d.au : Int) - 1) _).mono ?_; rintro e w1 ⟨rfl, rfl⟩
 exact sN
theorem KV (d : WdT) (A1 A2 A3 : Option Addr) (c1 c2 c3 : Nat) (m : Int) (x : Value) (c : ak) (w : World) (lo hi : Nat) (hr : gX w lo hi x c) (q1 : d.slots ≤ 34359738368) (q2 : d.globals ≤ 34359738368) (q3 : d.au ≤ 34359738368) (q4 : d.records ≤ 34359738368) (h : c.kind = 8) : Calls Tryz.prog 73 #[.agg (aP A1 d.au c1 A2 d.records c2 A3 d.globals c3 m), d.slots, x] w fun e w' => e = .returned (.bool (fD d c.kind c.number)) ∧ Below w.heap.size w w' := by
 obtain ⟨A, cap, rfl, -, -, -⟩ := hr.form
 have HV : Hid (fD d c.kind c.number = inB c.number 0 54) := lH sQ
 have b1 : (c.kind == 1) = false := bF ah
 have b5 : (c.kind == 5) = false := bF ah
 have b6 : (c.kind == 6) = false := bF ah
 have b7 : (c.kind == 7) = false := bF ah
 have b8 : (c.kind == 8) = true := beq_iff_eq.2 h
 clear h hr
 go_in
 go_wp2_with fail
 refine (lq c.number 0 54 _).mono ?_; rintro e w1 ⟨rfl, rfl⟩
 exact sN
theorem KW (d : WdT) (A1 A2 A3 : Option Addr) (c1 c2 c3 : Nat) (m : Int) (x : Value) (c : ak) (w : World) (lo hi : Nat) (hr : gX w lo hi x c) (q1 : d.slots ≤ 34359738368) (q2 : d.globals ≤ 34359738368) (q3 : d.au ≤ 34359738368) (q4 : d.records ≤ 34359738368) (h : c.kind = 9) : Calls Tryz.prog 73 #[.agg (aP A1 d.au c1 A2 d.records c2 A3 d.globals c3 m), d.slots, x] w fun e w' => e = .returned (.bool (fD d c.kind c.number)) ∧ Below w.heap.size w w' := by
 obtain ⟨A, cap, rfl, -, -, -⟩ := hr.form
 have HV : Hid (fD d c.kind c.number = inB c.number 0 (d.records - 1)) := lH sQ
 have b1 : (c.kind == 1) = false := bF ah
 have b5 : (c.kind == 5) = false := bF ah
 have b6 : (c.kind == 6) = false := bF ah
 have b7 : (c.kind == 7) = false := bF ah
 have b8 : (c.kind == 8) = false := bF ah
 have b9 : (c.kind == 9) = true := beq_iff_eq.2 h
 clear h hr
 go_in
 go_wp2_with fail
 refine (lq c.number 0 ((d.records : Int) - 1) _).mono ?_; rintro e w1 ⟨rfl, rfl⟩
 exact sN
theorem GR (d : WdT) (A1 A2 A3 : Option Addr) (c1 c2 c3 : Nat) (m : Int) (x : Value) (c : ak) (w : World) (lo hi : Nat) (hr : gX w lo hi x c) (q1 : d.slots ≤ 34359738368) (q2 : d.globals ≤ 34359738368) (q3 : d.au ≤ 34359738368) (q4 : d.records ≤ 34359738368) (h : c.kind = 10) : Calls Tryz.prog 73 #[.agg (aP A1 d.au c1 A2 d.records c2 A3 d.globals c3 m), d.slots, x] w fun e w' => e = .returned (.bool (fD d c.kind c.number)) ∧ Below w.heap.size w w' := by
 obtain ⟨A, cap, rfl, -, -, -⟩ := hr.form
 have HV : Hid (fD d c.kind c.number = inB c.number 1 2) := lH sQ
 have b1 : (c.kind == 1) = false := bF ah
 have b5 : (c.kind == 5) = false := bF ah
 have b6 : (c.kind == 6) = false := bF ah
 have b7 : (c.kind == 7) = false := bF ah
 have b8 : (c.kind == 8) = false := bF ah
 have b9 : (c.kind == 9) = false := bF ah
 have b10 : (c.kind == 10) = true := beq_iff_eq.2 h
 clear h hr
 go_in
 go_wp2_with fail
 refine (lq c.number 1 2 _).mono ?_; rintro e w1 ⟨rfl, rfl⟩
 exact sN
theorem GU (d : WdT) (A1 A2 A3 : Option Addr) (c1 c2 c3 : Nat) (m : Int) (x : Value) (c : ak) (w : World) (lo hi : Nat) (hr : gX w lo hi x c) (q1 : d.slots ≤ 34359738368) (q2 : d.globals ≤ 34359738368) (q3 : d.au ≤ 34359738368) (q4 : d.records ≤ 34359738368) (h : ¬ (c.kind = 1 ∨ c.kind = 5 ∨ c.kind = 6 ∨ c.kind = 7 ∨ c.kind = 8 ∨ c.kind = 9 ∨ c.kind = 10)) : Calls Tryz.prog 73 #[.agg (aP A1 d.au c1 A2 d.records c2 A3 d.globals c3 m), d.slots, x] w fun e w' => e = .returned (.bool (fD d c.kind c.number)) ∧ Below w.heap.size w w' := by
 obtain ⟨A, cap, rfl, -, -, -⟩ := hr.form
 simp only [not_or] at h
 obtain ⟨h1, h5, h6, h7, h8, h9, h10⟩ := h
 have HV : Hid (fD d c.kind c.number = (c.number == 0)) := by show _ = _; simp only [fD, h1, h5, h6, h7, h8, h9, h10, if_false]; rw [Bool.eq_iff_iff]; simp
 have b1 : (c.kind == 1) = false := bF h1
 have b5 : (c.kind == 5) = false := bF h5
 have b6 : (c.kind == 6) = false := bF h6
 have b7 : (c.kind == 7) = false := bF h7
 have b8 : (c.kind == 8) = false := bF h8
 have b9 : (c.kind == 9) = false := bF h9
 have b10 : (c.kind == 10) = false := bF h10
 clear h1 h5 h6 h7 h8 h9 h10 hr
 go_in
 exact sN
theorem GV (d : WdT) (A1 A2 A3 : Option Addr) (c1 c2 c3 : Nat) (m : Int) (x : Value) (c : ak) (w : World) (lo hi : Nat) (hr : gX w lo hi x c) (q1 : d.slots ≤ 34359738368) (q2 : d.globals ≤ 34359738368) (q3 : d.au ≤ 34359738368) (q4 : d.records ≤ 34359738368) : Calls Tryz.prog 73 #[.agg (aP A1 d.au c1 A2 d.records c2 A3 d.globals c3 m), d.slots, x] w fun e w' => e = .returned (.bool (fD d c.kind c.number)) ∧ Below w.heap.size w w' := by
 by_cases h1 : c.kind = 1
 ·exact KQ d A1 A2 A3 c1 c2 c3 m x c w lo hi hr q1 q2 q3 q4 h1
 by_cases h5 : c.kind = 5
 ·exact KS d A1 A2 A3 c1 c2 c3 m x c w lo hi hr q1 q2 q3 q4 h5
 by_cases h6 : c.kind = 6
 ·exact KT d A1 A2 A3 c1 c2 c3 m x c w lo hi hr q1 q2 q3 q4 h6
 by_cases h7 : c.kind = 7
 ·exact KU d A1 A2 A3 c1 c2 c3 m x c w lo hi hr q1 q2 q3 q4 h7
 by_cases h8 : c.kind = 8
 ·exact KV d A1 A2 A3 c1 c2 c3 m x c w lo hi hr q1 q2 q3 q4 h8
 by_cases h9 : c.kind = 9
 ·exact KW d A1 A2 A3 c1 c2 c3 m x c w lo hi hr q1 q2 q3 q4 h9
 by_cases h10 : c.kind = 10
 ·exact GR d A1 A2 A3 c1 c2 c3 m x c w lo hi hr q1 q2 q3 q4 h10
 exact GU d A1 A2 A3 c1 c2 c3 m x c w lo hi hr q1 q2 q3 q4 (by rintro (h | h | h | h | h | h | h) <;> contradiction)
end
end Go.Proofs.YthbcamfejgghhaaGreatDoor
