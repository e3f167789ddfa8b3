/- What the law on Pv twice asks of valid RV. Plain lemmas, no program. Qq of the program: a tree is valid as the plain law says. The aeC name -/
import Derived.Test.YthbcamfejgghhaaGreatDoorQ30
import Derived.Test.YthbcamfejgghhaaGreatDoorQ39
import Derived.Test.YthbcamfejgghhaaGreatDoorQ41
import Derived.Test.YthbcamfejgghhaaGreatDoorQ44
set_option maxRecDepth 100000
set_option maxHeartbeats 64000000
set_option linter.unusedVariables false
set_option linter.unusedSimpArgs false
namespace Go.Proofs.YthbcamfejgghhaaGreatDoor
open Go.IntKind (i64)
section
open Go Go.RowKit
theorem oG {p : bg} (h : aS p = true) : (∀ r ∈ p.au, dW (lQ p r) r.body false false = true ∧ WdS (lQ p r)) ∧ sumOf fK p.au ≤ 40000 ∧ p.au.length ≤ 12 := by
 unfold aS jR jO at h
 simp only [Bool.and_eq_true, decide_eq_true_eq, List.all_eq_true] at h
 obtain ⟨⟨⟨⟨⟨⟨⟨h1, h2⟩, h3⟩, h4⟩, -⟩, -⟩, hr⟩, hn⟩ := h
 refine ⟨fun r hm => ?_, hn, h2⟩
 have hk := hr r hm
 unfold jv at hk
 simp only [Bool.and_eq_true, decide_eq_true_eq] at hk
 obtain ⟨⟨⟨⟨⟨⟨-, k1⟩, -⟩, -⟩, -⟩, -⟩, k2⟩ := hk
 refine ⟨k2, ?_⟩
 have h3' := h3.2
 show (lQ p r).slots ≤ 1048576 ∧ (lQ p r).globals ≤ 1048576 ∧ (lQ p r).au ≤ 1048576 ∧ (lQ p r).records ≤ 1048576
 unfold lQ
 refine ⟨?_, ?_, ?_, ?_⟩ <;> simp only <;> omega
theorem yg {d : WdT} (hd : WdS d) (c : ak) : ∀ lp cr, dW d c lp cr = true → c.bI + 1 ≤ 129 * c.nodes := by
 refine ak.ind (P := fun c => ∀ lp cr, dW d c lp cr = true → c.bI + 1 ≤ 129 * c.nodes) (fun c ih lp cr h => ?_) c
 have h1 := (Ee hd h).1
 have hk := ((fV d c lp cr).1 h).2
 have hs : ∀ l : List ak, (∀ x ∈ l, x.bI + 1 ≤ 129 * x.nodes) → l.length + eT l ≤ 129 * fq l := by
  intro l hl
  induction l with
  | nil => simp [fq, eT]
  | cons x l ihl =>
    have a := hl x List.mem_cons_self
    have b := ihl fun y hy => hl y (List.mem_cons_of_mem _ hy)
    simp only [fq, eT, List.length_cons]
    omega
 have s := hs c.kids fun x hx => by
  exact CF
 rw [c.kX, c.eG]
 omega
theorem Ny {p : bg} (h : aS p = true) (hb : p.bI ≤ 20000000000) : (qF p).bI ≤ 34359738368 := by
 obtain ⟨h1, h2, -⟩ := oG h
 have hs : ∀ l : List bO, (∀ r ∈ l, r ∈ p.au) → sumOf bO.bI (l.map jC) ≤ sumOf bO.bI l + 129 * sumOf fK l := by
  intro l hl
  induction l with
  | nil => simp [sumOf]
  | cons r l ih =>
    have a := ih fun x hx => hl x (List.mem_cons_of_mem _ hx)
    obtain ⟨v1, v2⟩ := h1 r (hl r List.mem_cons_self)
    have b := yg v2 _ _ _ (D4 r.body _ _ v1)
    have c := xQ r.body
    have e : (jC r).bI + r.body.bI = r.bI + (aX r.body).bI := by
     show r.name.size + (r.slots.length + sumOf ByteArray.size r.slots) + (aX r.body).bI + r.body.bI = r.name.size + (r.slots.length + sumOf ByteArray.size r.slots) + r.body.bI + (aX r.body).bI
     omega
    have f : fK r = r.body.nodes := rfl
    simp only [List.map_cons, sumOf, f]
    omega
 have s := hs p.au fun _ h => h
 rw [qg h]
 unfold bg.bI at hb ⊢
 simp only [List.length_map]
 omega
theorem L5 {l : List bO} {r : bO} (h : r ∈ l) : r.body.nodes ≤ sumOf fK l := p9 (b := fK) h
end
section
open Go.RowKit
def Ei (d : WdT) (c : ak) : Prop := ∀ (x : Value) (loop create : Bool) (w : World) (lo hi : Nat), gX w lo hi x c → hi ≤ w.heap.size → bT w → c.bI ≤ 34359738368 →
 Calls Tryz.prog 52 #[.agg (lX d.slots d.globals d.au d.records), x, .bool loop, .bool create] w fun e w' => e = .returned (.bool (dW d c loop create)) ∧ Below w.heap.size w w'
def vD (w wx : World) (pc cc : Array Value) : Prop := Below w.heap.size w wx ∧ Blk wx w.heap.size 92 pc ∧ Blk wx (w.heap.size + 1) 43 cc
theorem vD.new (w : World) (pc cc : Array Value) : vD w ((w.alloc (.cells pc 92)).alloc (.cells cc 43)) pc cc :=
 ⟨(bA _ _).alloc av _, (Blk.new w _ _).alloc _, Blk.newAt _ _ _ _ av⟩
theorem vD.later {w wx wy : World} {pc cc : Array Value} (h : vD w wx pc cc) (hb : Below wx.heap.size wx wy) : vD w wy pc cc := ⟨h.1.trans (hb.mono h.1.size), h.2.1.later hb, h.2.2.later hb⟩
theorem vD.drewN {w wx : World} {pc cc : Array Value} (h : vD w wx pc cc) (n : Nat) : vD w (wx.drewN n) pc cc := ⟨⟨h.1.os, h.1.tape, h.1.output, h.1.size, h.1.block⟩, h.2.1.drewN n, h.2.2.drewN n⟩
theorem vD.alloc {w wx : World} {pc cc : Array Value} (h : vD w wx pc cc) (o : Obj) : vD w (wx.alloc o) pc cc := ⟨h.1.alloc h.1.size o, h.2.1.alloc o, h.2.2.alloc o⟩
theorem vD.size {w wx : World} {pc cc : Array Value} (h : vD w wx pc cc) : w.heap.size + 1 < wx.heap.size := h.2.2.lt
theorem My {c : ak} (h1 : 1 ≤ c.kind) (h2 : c.kind ≤ 28) (h3 : 0 ≤ c.line) (h4 : dw c.kind c.op ≤ c.kids.length) (h5 : (c.kids.length : Int) ≤ dx c.kind c.op) (h6 : c.kind = 11 ∨ c.op = 0) : iT c = true := by
 simp only [iT, Bool.and_eq_true, decide_eq_true_eq, Bool.or_eq_true]; exact ⟨⟨⟨⟨⟨h1, h2⟩, h3⟩, h4⟩, h5⟩, h6⟩
theorem QH {c : ak} (h : ¬ (1 ≤ c.kind ∧ c.kind ≤ 28 ∧ 0 ≤ c.line ∧ dw c.kind c.op ≤ c.kids.length ∧ (c.kids.length : Int) ≤ dx c.kind c.op ∧ (c.kind = 11 ∨ c.op = 0))) : iT c = false := by
 rw [Bool.eq_false_iff]; intro e; apply h
 simp only [iT, Bool.and_eq_true, decide_eq_true_eq, Bool.or_eq_true] at e
 exact ⟨e.1.1.1.1.1, e.1.1.1.1.2, e.1.1.1.2, e.1.1.2, e.1.2, e.2⟩
theorem L6 {d : WdT} {c : ak} {loop create : Bool} (h : iT c = false) : dW d c loop create = false := qE (by simp [iI, h])
theorem pG (n : Nat) (num : Int) (g : Nat) (w : World) (hc : w.cell? (aj g 2) = some (.int i64 num)) : Calls Tryz.prog 87 #[.int i64 n, .pointer (some (aj g 0))] w fun e w' => e = .returned (.bool (inB num 0 (n - 1))) ∧ w = w' := by
 exact Jj
theorem iA {c : ak} (h2 : ¬ c.kind = 2) (h3 : ¬ c.kind = 3) : j4 c = c.text.toList.isEmpty := by
 rw [j4, if_neg h2, if_neg h3, Bool.eq_iff_iff, decide_eq_true_eq, ByteArray.toList_eq, List.isEmpty_iff]
 constructor
 ·intro h; exact List.eq_nil_of_length_eq_zero ((Array.length_toList (xs := c.text.data)).trans h)
 intro h; exact (Array.length_toList (xs := c.text.data)).symm.trans (by rw [h]; rfl)
theorem SG {c : ak} (h : c.kind = 2) : j4 c = decide (c.text.size ≤ 120) := by rw [j4, if_pos h]
theorem SH {c : ak} (h : c.kind = 3) : j4 c = kQ c.text := by rw [j4, if_neg ah, if_pos h]
section
variable {d : WdT} {c : ak} {loop create : Bool}
def jg (d : WdT) (c : ak) (loop create : Bool) : Bool := fD d c.kind c.number && gF c loop create
theorem Yr (h : c.kind = 1) : jg d c loop create = inB c.number (-999999999999) 999999999999 := by simp [jg, fD, gF, h]
theorem Yt (h : c.kind = 5) : jg d c loop create = inB c.number 0 (d.slots - 1) := by simp [jg, fD, gF, h]
theorem Yu (h : c.kind = 6) : jg d c loop create = inB c.number 0 (d.globals - 1) := by simp [jg, fD, gF, h]
theorem Yv (h : c.kind = 7) : jg d c loop create = inB c.number 0 (d.au - 1) := by simp [jg, fD, gF, h]
theorem Yw (h : c.kind = 8) : jg d c loop create = inB c.number 0 ((55 : Nat) - 1) := by simp [jg, fD, gF, h]
theorem Yx (h : c.kind = 9) : jg d c loop create = inB c.number 0 (d.records - 1) := by simp [jg, fD, gF, h]
theorem Wx (h : c.kind = 10) : jg d c loop create = inB c.number 1 2 := by simp [jg, fD, gF, h]
theorem Wy (h : c.kind = 20) : jg d c loop create = (decide (c.number = 0) && loop) := by simp [jg, fD, gF, h]
theorem Wz (h : c.kind = 21) : jg d c loop create = (decide (c.number = 0) && loop) := by simp [jg, fD, gF, h]
theorem WB (h : c.kind = 23) : jg d c loop create = (decide (c.number = 0) && !create) := by simp [jg, fD, gF, h]
theorem WC (h : c.kind = 24) : jg d c loop create = (decide (c.number = 0) && !create) := by simp [jg, fD, gF, h]
theorem WE (h : c.kind = 25) : jg d c loop create = (decide (c.number = 0) && !create) := by simp [jg, fD, gF, h]
theorem Nz (h : ¬ (c.kind = 1 ∨ c.kind = 5 ∨ c.kind = 6 ∨ c.kind = 7 ∨ c.kind = 8 ∨ c.kind = 9 ∨ c.kind = 10 ∨ c.kind = 20 ∨ c.kind = 21 ∨ (23 ≤ c.kind ∧ c.kind ≤ 25))) : jg d c loop create = decide (c.number = 0) := by
 simp only [not_or] at h
 obtain ⟨h1, h5, h6, h7, h8, h9, h10, h20, h21, h23⟩ := h
 simp [jg, fD, gF, h1, h5, h6, h7, h8, h9, h10, h20, h21, h23]
theorem L8 (h : j4 c = false) : dW d c loop create = false := qE (by simp [iI, h])
theorem NA (h : jg d c loop create = false) : dW d c loop create = false := qE (by
 rw [jg, Bool.and_eq_false_iff] at h
 rcases h with h | h <;> simp [iI, h])
theorem vE (h : bL c = false) : dW d c loop create = false := qE (by simp [iI, h])
theorem NB (h1 : iT c = true) (h2 : j4 c = true) (h3 : jg d c loop create = true) (h4 : bL c = true) : iI d c loop create = true := by
 rw [jg, Bool.and_eq_true] at h3
 simp [iI, h1, h2, h3.1, h3.2, h4]
theorem L9 {kd : ak} (h : c.op = 79) (hk : c.kids[1]? = some kd) : bL c = (decide (kd.kind = 2) && bJ kd.text) := by
 simp [bL, h, hk]
theorem Ma {kd : ak} (h : c.op = 81) (hk : c.kids[0]? = some kd) : bL c = decide (kd.kind = 5 ∨ kd.kind = 6) := by
 simp [bL, h, hk]
theorem Mb (h1 : ¬ c.op = 79) (h2 : ¬ c.op = 81) : bL c = true := by simp [bL, h1, h2]
theorem Iw (h : (decide (c.op = 79) && !bL c) = false) (h2 : ¬ c.op = 81) : bL c = true := by
 by_cases e : c.op = 79
 ·simpa [e] using h
 exact Mb e h2
theorem Bl {k : Int} (i : Nat) (loop : Bool) (h : k = 18 ∨ k = 19) : fH k i loop = decide (i = 1) := by simp [fH, h]
theorem Ej {k : Int} (i : Nat) (loop : Bool) (h : k = 20 ∨ k = 26) : fH k i loop = false := by
 rw [fH, if_neg ah, if_pos h]
theorem Iy {k : Int} (i : Nat) (loop : Bool) (h1 : ¬ (k = 18 ∨ k = 19)) (h2 : ¬ (k = 20 ∨ k = 26)) : fH k i loop = loop := by
 rw [fH, if_neg h1, if_neg h2]
theorem Bn {kd : ak} {k : Nat} (hgo : ∀ j y, j < k → c.kids[j]? = some y → dW d y (fH c.kind j loop) (create || decide (c.kind = 26)) = true) (hk : c.kids[k]? = some kd) (h : dW d kd (fH c.kind k loop) (create || decide (c.kind = 26)) = true) :
 ∀ j y, j < k + 1 → c.kids[j]? = some y → dW d y (fH c.kind j loop) (create || decide (c.kind = 26)) = true := by
 intro j y hj hy
 by_cases e : j = k
 ·subst e; rw [hk] at hy; injection hy with hy; subst hy; exact h
 exact hgo j y ah hy
theorem NC (hn : iI d c loop create = true) (hgo : ∀ j y, j < c.kids.length → c.kids[j]? = some y → dW d y (fH c.kind j loop) (create || decide (c.kind = 26)) = true) : dW d c loop create = true :=
 (fV d c loop create).2 ⟨hn, fun j y hy => hgo j y (List.getElem?_eq_some_iff.1 hy).1 hy⟩
end
theorem zF (d : WdT) (c : ak) (H : ∀ x ∈ c.kids, Ei d x) : Ei d c := by
 intro x loop create w lo hi h hhi hst hbk
 obtain ⟨A, cap, rfl, hk, hc1, hc2⟩ := h.form
 unfold maxLen at hc2
 have HH := lH H
 clear H
 go_in
 go_wp2_with fail
 have hf0 := vD.new w (lX d.slots d.globals d.au d.records) (aB c.kind c.op c.number c.line c.text A c.kids.length cap)
 refine (QC _ c _ lo hi ((h.alloc hhi _).alloc aJ _) (hst.below hf0.1 hst.2)).mono ?_; rintro e w1 ⟨rfl, hb1⟩
 have hf1 := hf0.later hb1
 clear hb1 hf0
 have hz1 := hf1.size
 have ca := hf1.2.1.cell
 have cb := hf1.2.2.cell
 go_upto_region 2 with fail
 go_cut [58] (fun v wx => v = .bool (!iT c) ∧ wx = w1)
 case first =>
  by_cases e0 : c.kind < 1
  rotate_left
  by_cases e1 : 28 < c.kind
  rotate_left
  by_cases e2 : c.line < 0
  rotate_left
  by_cases e3 : (c.kids.length : Int) < dw c.kind c.op
  rotate_left
  by_cases e4 : dx c.kind c.op < (c.kids.length : Int)
  rotate_left
  by_cases k : c.kind = 11
  ·have f11 : (c.kind != 11) = false := by simp [k]
   have ka : 11 ≤ c.kind := ah
   have kb : c.kind ≤ 11 := ah
   clear k
   exact Oy
  have f11 : (c.kind != 11) = true := by simpa using k
  by_cases o0 : c.op = 0
  ·have f0 : (c.op != 0) = false := by simp [o0]
   have oa : 0 ≤ c.op := ah
   have ob : c.op ≤ 0 := ah
   clear o0
   exact Oy
  have f0 : (c.op != 0) = true := by simpa using o0
  iterate 6 focus
   as_aux_lemma =>
    go_wp2_with fail
    go_meet
    exact ⟨congrArg Value.bool (by rw [QH ah]; first | rfl | (simp; omega) | simp), rfl⟩
 obtain ⟨rfl, rfl⟩ := hcut
 cases hH : iT c with
 | false =>
   as_aux_lemma =>
    go_wp2_with fail
    go_ret
    exact ⟨bD (L6 hH).symm, hf1.1⟩
 | true =>
 have g2 : 1 ≤ c.kind := by simp [iT] at hH; omega
 have g3 : c.kind ≤ 28 := by simp [iT] at hH; omega
 have g4 : 0 ≤ c.line := by simp [iT] at hH; omega
 have g5 : dw c.kind c.op ≤ c.kids.length := by simp [iT] at hH; omega
 have g6 : (c.kids.length : Int) ≤ dx c.kind c.op := by simp [iT] at hH; omega
 have HL := lH hH
 clear hH
 go_upto_block 0 with fail
 go_cut [11, 12] (fun t n wx => t = .bool (j4 c) ∧ n = .bool (jg d c loop create) ∧ vD w wx (lX d.slots d.globals d.au d.records) (aB c.kind c.op c.number c.line c.text A c.kids.length cap))
 case first =>
  by_cases k1 : c.kind = 1
  ·have k := k1
   have HN := lH (Yr (d := d) (loop := loop) (create := create) k)
   have HT := lH (iA (c := c) ah ah)
   clear k1
   have e1 : (c.kind == 1) = true := by simp [k]
   have ka : 1 ≤ c.kind := ah
   have kb : c.kind ≤ 1 := ah
   clear k
   as_aux_lemma =>
    go_wp2_with fail
    all_goals
     go_meet
     exact ⟨congrArg Value.bool HT.out.symm, congrArg Value.bool (by rw [HN.out, Bool.eq_iff_iff]; simp [inB] <;> omega), hf1⟩
  by_cases k2 : c.kind = 2
  ·have k := k2
   have HN := lH (Nz (c := c) (d := d) (loop := loop) (create := create) ah)
   have HT := lH (SG k)
   clear k1 k2
   have e1 : (c.kind == 1) = false := aJ
   have e2 : (c.kind == 2) = true := by simp [k]
   have ka : 2 ≤ c.kind := ah
   have kb : c.kind ≤ 2 := ah
   clear k
   as_aux_lemma =>
    go_wp2_with fail
    go_meet
    exact ⟨congrArg Value.bool (by rw [HT.out, Bool.eq_iff_iff]; simp <;> omega), congrArg Value.bool (by rw [HN.out]; rfl), hf1⟩
  by_cases k3 : c.kind = 3
  ·have k := k3
   have HN := lH (Nz (c := c) (d := d) (loop := loop) (create := create) ah)
   have HT := lH (SH k)
   clear k1 k2 k3
   have e1 : (c.kind == 1) = false := aJ
   have e2 : (c.kind == 2) = false := aJ
   have e3 : (c.kind == 3) = true := by simp [k]
   have ka : 3 ≤ c.kind := ah
   have kb : c.kind ≤ 3 := ah
   clear k
   as_aux_lemma =>
    go_wp2_with fail
    refine (AU c.text _ (by have := c.kX; omega)).mono ?_; rintro e w3 ⟨rfl, hb3⟩
    go_wp2_with fail
    go_meet
    exact ⟨congrArg Value.bool HT.out.symm, congrArg Value.bool (by rw [HN.out]; rfl), hf1.later (hb3.below _)⟩
  by_cases k5 : c.kind = 5
  ·have k := k5
   have HN := lH (Yt (d := d) (loop := loop) (create := create) k)
   have HT := lH (iA (c := c) ah ah)
   clear k1 k2 k3 k5
   have e1 : (c.kind == 1) = false := aJ
   have e2 : (c.kind == 2) = false := aJ
   have e3 : (c.kind == 3) = false := aJ
   have e5 : (c.kind == 5) = true := by simp [k]
   have ka : 5 ≤ c.kind := ah
   have kb : c.kind ≤ 5 := ah
   clear k
   as_aux_lemma =>
    have c2 := cb 2
    simp only [List.getElem?_toArray, List.getElem?_cons_succ, List.getElem?_cons_zero] at c2
    go_wp2_with fail
    refine (pG d.slots c.number _ _ c2).mono ?_; rintro e w3 ⟨rfl, rfl⟩
    exact yG
  by_cases k6 : c.kind = 6
  ·have k := k6
   have HN := lH (Yu (d := d) (loop := loop) (create := create) k)
   have HT := lH (iA (c := c) ah ah)
   clear k1 k2 k3 k5 k6
   have e1 : (c.kind == 1) = false := aJ
   have e2 : (c.kind == 2) = false := aJ
   have e3 : (c.kind == 3) = false := aJ
   have e5 : (c.kind == 5) = false := aJ
   have e6 : (c.kind == 6) = true := by simp [k]
   have ka : 6 ≤ c.kind := ah
   have kb : c.kind ≤ 6 := ah
   clear k
   as_aux_lemma =>
    have c2 := cb 2
    simp only [List.getElem?_toArray, List.getElem?_cons_succ, List.getElem?_cons_zero] at c2
    go_wp2_with fail
    refine (pG d.globals c.number _ _ c2).mono ?_; rintro e w3 ⟨rfl, rfl⟩
    exact yG
  by_cases k7 : c.kind = 7
  ·have k := k7
   have HN := lH (Yv (d := d) (loop := loop) (create := create) k)
   have HT := lH (iA (c := c) ah ah)
   clear k1 k2 k3 k5 k6 k7
   have e1 : (c.kind == 1) = false := aJ
   have e2 : (c.kind == 2) = false := aJ
   have e3 : (c.kind == 3) = false := aJ
   have e5 : (c.kind == 5) = false := aJ
   have e6 : (c.kind == 6) = false := aJ
   have e7 : (c.kind == 7) = true := by simp [k]
   have ka : 7 ≤ c.kind := ah
   have kb : c.kind ≤ 7 := ah
   clear k
   as_aux_lemma =>
    have c2 := cb 2
    simp only [List.getElem?_toArray, List.getElem?_cons_succ, List.getElem?_cons_zero] at c2
    go_wp2_with fail
    refine (pG d.au c.number _ _ c2).mono ?_; rintro e w3 ⟨rfl, rfl⟩
    exact yG
  by_cases k8 : c.kind = 8
  ·have k := k8
   have HN := lH (Yw (d := d) (loop := loop) (create := create) k)
   have HT := lH (iA (c := c) ah ah)
   clear k1 k2 k3 k5 k6 k7 k8
   have e1 : (c.kind == 1) = false := aJ
   have e2 : (c.kind == 2) = false := aJ
   have e3 : (c.kind == 3) = false := aJ
   have e5 : (c.kind == 5) = false := aJ
   have e6 : (c.kind == 6) = false := aJ
   have e7 : (c.kind == 7) = false := aJ
   have e8 : (c.kind == 8) = true := by simp [k]
   have ka : 8 ≤ c.kind := ah
   have kb : c.kind ≤ 8 := ah
   clear k
   as_aux_lemma =>
    have c2 := cb 2
    simp only [List.getElem?_toArray, List.getElem?_cons_succ, List.getElem?_cons_zero] at c2
    go_wp2_with fail
    refine (pG 55 c.number _ _ c2).mono ?_; rintro e w3 ⟨rfl, rfl⟩
    exact yG
  by_cases k9 : c.kind = 9
  ·have k := k9
   have HN := lH (Yx (d := d) (loop := loop) (create := create) k)
   have HT := lH (iA (c := c) ah ah)
   clear k1 k2 k3 k5 k6 k7 k8 k9
   have e1 : (c.kind == 1) = false := aJ
   have e2 : (c.kind == 2) = false := aJ
   have e3 : (c.kind == 3) = false := aJ
   have e5 : (c.kind == 5) = false := aJ
   have e6 : (c.kind == 6) = false := aJ
   have e7 : (c.kind == 7) = false := aJ
   have e8 : (c.kind == 8) = false := aJ
   have e9 : (c.kind == 9) = true := by simp [k]
   have ka : 9 ≤ c.kind := ah
   have kb : c.kind ≤ 9 := ah
   clear k
   as_aux_lemma =>
    have c2 := cb 2
    simp only [List.getElem?_toArray, List.getElem?_cons_succ, List.getElem?_cons_zero] at c2
    go_wp2_with fail
    refine (pG d.records c.number _ _ c2).mono ?_; rintro e w3 ⟨rfl, rfl⟩
    exact yG
  by_cases k10 : c.kind = 10
  ·have k := k10
   have HN := lH (Wx (d := d) (loop := loop) (create := create) k)
   have HT := lH (iA (c := c) ah ah)
   clear k1 k2 k3 k5 k6 k7 k8 k9 k10
   have e1 : (c.kind == 1) = false := aJ
   have e2 : (c.kind == 2) = false := aJ
   have e3 : (c.kind == 3) = false := aJ
   have e5 : (c.kind == 5) = false := aJ
   have e6 : (c.kind == 6) = false := aJ
   have e7 : (c.kind == 7) = false := aJ
   have e8 : (c.kind == 8) = false := aJ
   have e9 : (c.kind == 9) = false := aJ
   have e10 : (c.kind == 10) = true := by simp [k]
   have ka : 10 ≤ c.kind := ah
   have kb : c.kind ≤ 10 := ah
   clear k
   as_aux_lemma =>
    by_cases z1 : c.number = 1
    have ez : (c.number == 1) = true := by simp [z1]
    have HZ : Hid (inB c.number 1 2 = true) := lH (by rw [z1]; rfl)
    clear z1
    rotate_left
    have ez1 : (c.number == 1) = false := by simpa using z1
    by_cases z2 : c.number = 2
    have ez : (c.number == 2) = true := by simp [z2]
    have HZ : Hid (inB c.number 1 2 = true) := lH (by rw [z2]; rfl)
    clear z2
    rotate_left
    rotate_right 2
    iterate 2 focus
     go_wp2_with fail
     go_meet
     exact ⟨congrArg Value.bool HT.out.symm, congrArg Value.bool (by rw [HN.out, HZ.out]), hf1⟩
    have ez2 : (c.number == 2) = false := by simpa using z2
    have HZ : Hid (inB c.number 1 2 = false) := lH (by rw [Bool.eq_false_iff]; simp [inB]; omega)
    clear z1 z2
    go_wp2_with fail
    go_meet
    exact ⟨congrArg Value.bool HT.out.symm, congrArg Value.bool (by rw [HN.out, HZ.out]), hf1⟩
  by_cases k20 : c.kind = 20
  have k := k20
  have HN := lH (Wy (d := d) (loop := loop) (create := create) k)
  have HT := lH (iA (c := c) ah ah)
  clear k1 k2 k3 k5 k6 k7 k8 k9 k10 k20
  have e1 : (c.kind == 1) = false := aJ
  have e2 : (c.kind == 2) = false := aJ
  have e3 : (c.kind == 3) = false := aJ
  have e5 : (c.kind == 5) = false := aJ
  have e6 : (c.kind == 6) = false := aJ
  have e7 : (c.kind == 7) = false := aJ
  have e8 : (c.kind == 8) = false := aJ
  have e9 : (c.kind == 9) = false := aJ
  have e10 : (c.kind == 10) = false := aJ
  have e20 : (c.kind == 20) = true := by simp [k]
  have ka : 20 ≤ c.kind := ah
  have kb : c.kind ≤ 20 := ah
  clear k
  rotate_left
  by_cases k21 : c.kind = 21
  have k := k21
  have HN := lH (Wz (d := d) (loop := loop) (create := create) k)
  have HT := lH (iA (c := c) ah ah)
  clear k1 k2 k3 k5 k6 k7 k8 k9 k10 k20 k21
  have e1 : (c.kind == 1) = false := aJ
  have e2 : (c.kind == 2) = false := aJ
  have e3 : (c.kind == 3) = false := aJ
  have e5 : (c.kind == 5) = false := aJ
  have e6 : (c.kind == 6) = false := aJ
  have e7 : (c.kind == 7) = false := aJ
  have e8 : (c.kind == 8) = false := aJ
  have e9 : (c.kind == 9) = false := aJ
  have e10 : (c.kind == 10) = false := aJ
  have e20 : (c.kind == 20) = false := aJ
  have e21 : (c.kind == 21) = true := by simp [k]
  have ka : 21 ≤ c.kind := ah
  have kb : c.kind ≤ 21 := ah
  clear k
  rotate_left
  by_cases k23 : c.kind = 23
  have k := k23
  have HN := lH (WB (d := d) (loop := loop) (create := create) k)
  have HT := lH (iA (c := c) ah ah)
  clear k1 k2 k3 k5 k6 k7 k8 k9 k10 k20 k21 k23
  have e1 : (c.kind == 1) = false := aJ
  have e2 : (c.kind == 2) = false := aJ
  have e3 : (c.kind == 3) = false := aJ
  have e5 : (c.kind == 5) = false := aJ
  have e6 : (c.kind == 6) = false := aJ
  have e7 : (c.kind == 7) = false := aJ
  have e8 : (c.kind == 8) = false := aJ
  have e9 : (c.kind == 9) = false := aJ
  have e10 : (c.kind == 10) = false := aJ
  have e20 : (c.kind == 20) = false := aJ
  have e21 : (c.kind == 21) = false := aJ
  have e23 : (c.kind == 23) = true := by simp [k]
  have ka : 23 ≤ c.kind := ah
  have kb : c.kind ≤ 23 := ah
  clear k
  rotate_left
  by_cases k24 : c.kind = 24
  have k := k24
  have HN := lH (WC (d := d) (loop := loop) (create := create) k)
  have HT := lH (iA (c := c) ah ah)
  clear k1 k2 k3 k5 k6 k7 k8 k9 k10 k20 k21 k23 k24
  have e1 : (c.kind == 1) = false := aJ
  have e2 : (c.kind == 2) = false := aJ
  have e3 : (c.kind == 3) = false := aJ
  have e5 : (c.kind == 5) = false := aJ
  have e6 : (c.kind == 6) = false := aJ
  have e7 : (c.kind == 7) = false := aJ
  have e8 : (c.kind == 8) = false := aJ
  have e9 : (c.kind == 9) = false := aJ
  have e10 : (c.kind == 10) = false := aJ
  have e20 : (c.kind == 20) = false := aJ
  have e21 : (c.kind == 21) = false := aJ
  have e23 : (c.kind == 23) = false := aJ
  have e24 : (c.kind == 24) = true := by simp [k]
  have ka : 24 ≤ c.kind := ah
  have kb : c.kind ≤ 24 := ah
  clear k
  rotate_left
  by_cases k25 : c.kind = 25
  have k := k25
  have HN := lH (WE (d := d) (loop := loop) (create := create) k)
  have HT := lH (iA (c := c) ah ah)
  clear k1 k2 k3 k5 k6 k7 k8 k9 k10 k20 k21 k23 k24 k25
  have e1 : (c.kind == 1) = false := aJ
  have e2 : (c.kind == 2) = false := aJ
  have e3 : (c.kind == 3) = false := aJ
  have e5 : (c.kind == 5) = false := aJ
  have e6 : (c.kind == 6) = false := aJ
  have e7 : (c.kind == 7) = false := aJ
  have e8 : (c.kind == 8) = false := aJ
  have e9 : (c.kind == 9) = false := aJ
  have e10 : (c.kind == 10) = false := aJ
  have e20 : (c.kind == 20) = false := aJ
  have e21 : (c.kind == 21) = false := aJ
  have e23 : (c.kind == 23) = false := aJ
  have e24 : (c.kind == 24) = false := aJ
  have e25 : (c.kind == 25) = true := by simp [k]
  have ka : 25 ≤ c.kind := ah
  have kb : c.kind ≤ 25 := ah
  clear k
  rotate_left
  rotate_right 5
  iterate 5 focus
   as_aux_lemma =>
    by_cases z : c.number = 0
    ·have ez : (c.number == 0) = true := by simp [z]
     have HZ : Hid (decide (c.number = 0) = true) := dT z
     exact I8
    have ez : (c.number == 0) = false := by simpa using z
    have HZ : Hid (decide (c.number = 0) = false) := dF z
    exact I8
  have HN := lH (Nz (d := d) (c := c) (loop := loop) (create := create) ah)
  have HT := lH (iA k2 k3)
  have e1 : (c.kind == 1) = false := by simpa using k1
  have e2 : (c.kind == 2) = false := by simpa using k2
  have e3 : (c.kind == 3) = false := by simpa using k3
  have e5 : (c.kind == 5) = false := by simpa using k5
  have e6 : (c.kind == 6) = false := by simpa using k6
  have e7 : (c.kind == 7) = false := by simpa using k7
  have e8 : (c.kind == 8) = false := by simpa using k8
  have e9 : (c.kind == 9) = false := by simpa using k9
  have e10 : (c.kind == 10) = false := by simpa using k10
  have e20 : (c.kind == 20) = false := by simpa using k20
  have e21 : (c.kind == 21) = false := by simpa using k21
  have e23 : (c.kind == 23) = false := by simpa using k23
  have e24 : (c.kind == 24) = false := by simpa using k24
  have e25 : (c.kind == 25) = false := by simpa using k25
  as_aux_lemma =>
   go_wp2_with fail
   go_meet
   exact ⟨congrArg Value.bool HT.out.symm, congrArg Value.bool (by rw [HN.out]; rfl), hf1⟩
 obtain ⟨rfl, rfl, hf2⟩ := hcut
 clear ca cb hf1 hz1
 have hz2 := hf2.size
 have ca := hf2.2.1.cell
 have cb := hf2.2.2.cell
 cases hT : j4 c
 have HV := lH (L8 (d := d) (loop := loop) (create := create) hT)
 clear hT
 rotate_left
 cases hN : jg d c loop create
 have HV := lH (NA hN)
 clear hT hN
 rotate_left
 rotate_right 2
 iterate 2 focus
  as_aux_lemma =>
   exact CG
 have HT := lH hT
 have HN := lH hN
 clear hT hN
 go_upto_region 35 with fail
 go_cut [168] (fun v wx => v = .bool (decide (c.op = 79) && !bL c) ∧ vD w wx (lX d.slots d.globals d.au d.records) (aB c.kind c.op c.number c.line c.text A c.kids.length cap))
 case first =>
  by_cases o79 : c.op = 79
  ·have k11 : c.kind = 11 := by have := HL.out; simp only [iT, Bool.and_eq_true, decide_eq_true_eq, Bool.or_eq_true] at this; omega
   have hlt : 1 < c.kids.length := by rw [(sV (op := c.op) k11).1, o79] at g5; have : dH 79 = 2 := aA; omega
   clear k11
   obtain ⟨g, off, kd, B, dd, rfl, hg1, hg2, hkd, hmem, hrep, c0, c1', c2', c3', c4, c5'⟩ := (hk.below hf2.1 hhi).kid hlt
   have HV := lH (L9 o79 hkd)
   have HD : Hid (decide (c.op = 79) = true) := dT o79
   have e79 : (c.op == 79) = true := by simp [o79]
   have hlt2 : (1 : Int) < (c.kids.length : Int) := ah
   rw [Nat.one_mul] at c0 c4
   clear o79 hkd c1' c2' c3' c5' hrep hmem
   by_cases k2 : kd.kind = 2
   ·have f2 : (kd.kind != 2) = false := by simp [k2]
    have HK : Hid (decide (kd.kind = 2) = true) := dT k2
    clear k2
    as_aux_lemma =>
     go_wp2_with fail
     refine (jI kd.text _ (hst.below hf2.1 hst.2)).mono ?_; rintro e w3 ⟨rfl, hb3⟩
     have hf3 := hf2.later hb3
     clear c0 c4 ca cb
     have ca := hf3.2.1.cell
     have cb := hf3.2.2.cell
     cases hN : bJ kd.text with
     | false =>
       have HW : Hid (bL c = false) := lH Ck
       exact Js
     | true =>
       have HW : Hid (bL c = true) := lH Ck
       exact Js
   have f2 : (kd.kind != 2) = true := by simpa using k2
   have HW : Hid (bL c = false) := lH (by rw [HV.out, dF k2]; rfl)
   clear k2
   as_aux_lemma =>
    go_wp2_with fail
    go_meet
    exact ⟨congrArg Value.bool (by rw [HW.out, HD.out]; rfl), hf2⟩
  have e79 : (c.op == 79) = false := by simpa using o79
  have HD : Hid (decide (c.op = 79) = false) := dF o79
  clear o79
  as_aux_lemma =>
   go_wp2_with fail
   go_meet
   exact ⟨congrArg Value.bool (by rw [HD.out]; rfl), hf2⟩
 obtain ⟨rfl, hf3⟩ := hcut
 clear ca cb hf2 hz2
 have hf2 := hf3
 clear hf3
 have hz2 := hf2.size
 have ca := hf2.2.1.cell
 have cb := hf2.2.2.cell
 cases hS : (decide (c.op = 79) && !bL c) with
 | true =>
   have HV := lH (vE (d := d) (loop := loop) (create := create) (c := c) (by simp at hS; exact hS.2))
   clear hS
   as_aux_lemma =>
    exact CG
 | false =>
 have H9 := lH hS
 clear hS
 go_upto_region 37 with fail
 go_cut [187] (fun v wx => v = .bool (!bL c) ∧ wx = wc)
 case first =>
  by_cases o81 : c.op = 81
  ·have k11 : c.kind = 11 := by have := HL.out; simp only [iT, Bool.and_eq_true, decide_eq_true_eq, Bool.or_eq_true] at this; omega
   have hlt : 0 < c.kids.length := by rw [(sV (op := c.op) k11).1, o81] at g5; have : dH 81 = 1 := aA; omega
   clear k11
   obtain ⟨g, off, kd, B, dd, rfl, hg1, hg2, hkd, hmem, hrep, c0, c1', c2', c3', c4, c5'⟩ := (hk.below hf2.1 hhi).kid hlt
   have HV := lH (Ma o81 hkd)
   have e81 : (c.op == 81) = true := by simp [o81]
   have hlt2 : (0 : Int) < (c.kids.length : Int) := ah
   rw [Nat.zero_mul, Nat.add_zero] at c0
   clear o81 hkd c1' c2' c3' c4 c5' hrep hmem
   by_cases k5 : kd.kind = 5
   have f5 : (kd.kind != 5) = false := by simp [k5]
   have HW : Hid (bL c = true) := lH Cn
   clear k5
   rotate_left
   have f5 : (kd.kind != 5) = true := by simpa using k5
   by_cases k6 : kd.kind = 6
   have f6 : (kd.kind != 6) = false := by simp [k6]
   have HW : Hid (bL c = true) := lH Cn
   clear k6
   rotate_left
   have f6 : (kd.kind != 6) = true := by simpa using k6
   have HW : Hid (bL c = false) := lH (by rw [HV.out]; exact dF ah)
   clear k5 k6
   iterate 3 focus
    as_aux_lemma =>
     exact JG
  have e81 : (c.op == 81) = false := by simpa using o81
  have HW := lH (Iw H9.out o81)
  clear o81
  as_aux_lemma =>
   exact JG
 obtain ⟨rfl, rfl⟩ := hcut
 cases hS : bL c with
 | false =>
   have HV := lH (vE (d := d) (loop := loop) (create := create) hS)
   clear hS
   as_aux_lemma =>
    exact CG
 | true =>
 have HA : Hid (iI d c loop create = true) := NB HL.out HT.out HN.out hS
 clear hS HL HT HN H9
 go_wp2_with fail
 go_loopw [191] (fun i wr => ∃ k : Nat, k ≤ c.kids.length ∧ i = .int i64 k ∧ Hid (∀ j y, j < k → c.kids[j]? = some y → dW d y (fH c.kind j loop) (create || decide (c.kind = 26)) = true) ∧ vD w wr (lX d.slots d.globals d.au d.records) (aB c.kind c.op c.number c.line c.text A c.kids.length cap)) (fun i _ => c.kids.length - (intOf i).toNat)
 case atStart => exact ⟨0, nZ _, rfl, (fun j y hj => absurd hj ah), hf2⟩
 clear ca cb hf2 hz2
 obtain ⟨kk, hk', rfl, hgo, hf⟩ := hrel
 obtain ⟨wo, rfl⟩ := nW wr
 have hz := hf.size
 have ca := hf.2.1.cell
 have cb := hf.2.2.cell
 by_cases hlt : kk < c.kids.length
 ·obtain ⟨g, off, kd, B, dd, rfl, hg1, hg2, hkd, hmem, hrep, k0, k1, k2, k3, k4, k5⟩ := (hk.below hf.1 hhi).kid hlt
  have HS := lH (HH.out kd hmem)
  have hbm := qo hmem
  have HK := lH hkd
  have HM := lH hrep
  clear hkd hmem hrep
  go_upto_block 3 with fail
  go_cut [16] from 199 to 218 (fun v wx => v = .bool (fH c.kind kk loop) ∧ wx = wo.alloc (.cells (aB kd.kind kd.op kd.number kd.line kd.text B kd.kids.length dd) 43))
  case first =>
   by_cases k : c.kind = 18
   ·have HI := lH (Bl kk loop (show c.kind = 18 ∨ c.kind = 19 by omega))
    have e18 : (c.kind == 18) = true := by simp [k]
    have e19 : (c.kind == 19) = false := aJ
    have ka : 18 ≤ c.kind := ah
    have kb : c.kind ≤ 18 := ah
    exact Ja
   have n18 : ¬ c.kind = 18 := k
   clear k
   by_cases k : c.kind = 19
   ·have HI := lH (Bl kk loop (show c.kind = 18 ∨ c.kind = 19 by omega))
    have e18 : (c.kind == 18) = false := aJ
    have e19 : (c.kind == 19) = true := by simp [k]
    have ka : 19 ≤ c.kind := ah
    have kb : c.kind ≤ 19 := ah
    exact Ja
   have n19 : ¬ c.kind = 19 := k
   clear k
   by_cases k : c.kind = 20
   have HI := lH (Ej kk loop (show c.kind = 20 ∨ c.kind = 26 by omega))
   have e18 : (c.kind == 18) = false := aJ
   have e19 : (c.kind == 19) = false := aJ
   have e20 : (c.kind == 20) = true := by simp [k]
   have e26 : (c.kind == 26) = false := aJ
   have ka : 20 ≤ c.kind := ah
   have kb : c.kind ≤ 20 := ah
   clear k
   rotate_left
   have n20 : ¬ c.kind = 20 := k
   clear k
   by_cases k : c.kind = 26
   have HI := lH (Ej kk loop (show c.kind = 20 ∨ c.kind = 26 by omega))
   have e18 : (c.kind == 18) = false := aJ
   have e19 : (c.kind == 19) = false := aJ
   have e20 : (c.kind == 20) = false := aJ
   have e26 : (c.kind == 26) = true := by simp [k]
   have ka : 26 ≤ c.kind := ah
   have kb : c.kind ≤ 26 := ah
   clear k
   rotate_left
   have n26 : ¬ c.kind = 26 := k
   clear k
   have HI := lH (Iy (k := c.kind) kk loop ah ah)
   have e18 : (c.kind == 18) = false := by simpa using n18
   have e19 : (c.kind == 19) = false := by simpa using n19
   have e20 : (c.kind == 20) = false := by simpa using n20
   have e26 : (c.kind == 26) = false := by simpa using n26
   iterate 3 focus
    as_aux_lemma =>
     go_wp2_with fail
     go_meet
     exact ⟨congrArg Value.bool HI.out.symm, rfl⟩
  obtain ⟨rfl, hwc⟩ := hcut
  have hf3 := hf.alloc (.cells (aB kd.kind kd.op kd.number kd.line kd.text B kd.kids.length dd) 43)
  have hx := Blk.new wo 43 (aB kd.kind kd.op kd.number kd.line kd.text B kd.kids.length dd)
  have hm3 := HM.out.alloc (nT hhi hf.1.size) (.cells (aB kd.kind kd.op kd.number kd.line kd.text B kd.kids.length dd) 43)
  rw [← hwc] at hf3 hx hm3
  clear hwc ca cb k0 k1 k2 k3 k4 k5 hf hz
  have ca := hf3.2.1.cell
  have cb := hf3.2.2.cell
  have cx := hx.cell
  have y1 : hi ≤ wc.heap.size := nT hhi hf3.1.size
  have kbk : kd.bI ≤ 34359738368 := by have := c.kX; omega
  cases create with
  | true =>
    as_aux_lemma =>
     obtain ⟨r, hr⟩ : ∃ r, dW d kd (fH c.kind kk loop) (true || decide (c.kind = 26)) = r := ⟨_, rfl⟩
     have HR := lH hr
     clear hr
     go_wp2_with fail
     refine (HS.out _ (fH c.kind kk loop) (true || decide (c.kind = 26)) _ lo hi hm3 y1 (hst.below hf3.1 hst.2) kbk).mono ?_
     rw [HR.out]
     rintro e wA ⟨rfl, hbA⟩
     have hf4 := hf3.later hbA
     clear ca cb cx hm3 hbA
     cases r with
     | false =>
       have HV := lH (DU (create := true) HK.out HR.out)
       exact Jz
     | true =>
       have HG := lH (Bn (create := true) hgo.out HK.out HR.out)
       exact Oo
  | false =>
    as_aux_lemma =>
     obtain ⟨r, hr⟩ : ∃ r, dW d kd (fH c.kind kk loop) (false || decide (c.kind = 26)) = r := ⟨_, rfl⟩
     have HR := lH hr
     clear hr
     go_wp2_with fail
     refine (HS.out _ (fH c.kind kk loop) (false || decide (c.kind = 26)) _ lo hi hm3 y1 (hst.below hf3.1 hst.2) kbk).mono ?_
     rw [HR.out]
     rintro e wA ⟨rfl, hbA⟩
     have hf4 := hf3.later hbA
     clear ca cb cx hm3 hbA
     cases r with
     | false =>
       have HV := lH (DU (create := false) HK.out HR.out)
       exact Jz
     | true =>
       have HG := lH (Bn (create := false) hgo.out HK.out HR.out)
       exact Oo
 obtain rfl : kk = c.kids.length := by omega
 have HV := lH (NC HA.out hgo.out)
 exact Jy
theorem El (d : WdT) (c : ak) : Ei d c := ak.ind (zF d) c
end
section
open Go.RowKit
theorem Iz (s : ByteArray) (w : World) (ht : bT w) : Calls Tryz.prog 50 #[.string s] w fun e w' => e = .returned (.bool (!jr s)) ∧ Below w.heap.size w w' := by
 have HSO : Hid (jr s = (s.toList.isEmpty || bJ s)) := rfl
 have HC := lH (jI s w ht)
 cases e1 : s.toList.isEmpty with
 | true =>
   have h1 : s.toList = [] := by simpa using e1
   have HV : Hid (jr s = true) := lH (by rw [HSO.out, e1]; rfl)
   clear e1
   go_in
   go_wp2_with fail
   go_ret
   exact ⟨bD (by rw [HV.out]; rfl), bR _ _⟩
 | false =>
   have h1 : ¬ s.toList = [] := by intro h; rw [h] at e1; cases e1
   have HV : Hid (jr s = bJ s) := lH (by rw [HSO.out, e1]; rfl)
   clear e1
   go_in
   go_wp2_with fail
   refine HC.out.mono ?_; rintro e w1 ⟨rfl, hb⟩
   go_wp2_with fail
   go_ret
   exact ⟨bD (by rw [HV.out]; simp [h1]), hb⟩
theorem Em (l : List ByteArray) (v : Value) (w : World) (lo hi : Nat) (h : aW w lo hi 1 aR v l) (hhi : hi ≤ w.heap.size) (hst : bT w) :
 Calls Tryz.prog 85 #[v, .func (.func 50) #[] #[]] w fun e w' => (∃ i : Int, e = .returned (.int i64 i) ∧ Hid (decide (0 ≤ i) = !l.all jr)) ∧ Below w.heap.size w w' := by
 obtain ⟨A, cap, rfl, hc1, hc2⟩ := h.shape
 unfold maxLen at hc2
 go_in
 go_wp2_with fail
 go_loopw [5, 8] (fun _ i wr => ∃ k : Nat, k ≤ l.length ∧ i = .int i64 k ∧ Hid ((l.take k).all jr = true) ∧ Below w.heap.size w wr) (fun _ i _ => l.length - (intOf i).toNat)
 case atStart => exact ⟨0, nZ _, rfl, by simp [Hid], bR _ _⟩
 obtain ⟨k, hk, rfl, hgo, hb⟩ := hrel
 by_cases hlt : k < l.length
 ·obtain ⟨s, hs⟩ : ∃ s, l[k]? = some s := ⟨_, gE hlt⟩
  obtain ⟨g, off, rfl, hg1, hg2, t0⟩ := aW.text (h.below hb hhi) hs
  have HS := lH (nC (q := jr) hs)
  have HM : Hid (jr s = false → l.all jr = false) := tq (mG hs)
  have HC := lH (Iz s wr (hst.below hb hst.2))
  clear hs
  cases hv : jr s with
  | false =>
    have HV : Hid (l.all jr = false) := HM.out hv
    rw [hv] at HC
    clear hv hgo
    go_wp2_with (go_at_call 50; refine HC.out.mono ?_; rintro e w1 ⟨rfl, hb1⟩)
    go_ret
    exact ⟨⟨_, rfl, by rw [HV.out]; simp [Hid]⟩, hb.trans (hb1.mono hb.size)⟩
  | true =>
    have HG : Hid ((l.take (k + 1)).all jr = true) := lH (by rw [HS.out, hgo.out, hv]; rfl)
    rw [hv] at HC
    clear hv hgo
    go_wp2_with (go_at_call 50; refine HC.out.mono ?_; rintro e w1 ⟨rfl, hb1⟩)
    go_roundw
    case rel => exact ⟨k + 1, ah, by go_num, HG, hb.trans (hb1.mono hb.size)⟩
    simp [intOf]; omega
 obtain rfl : k = l.length := by omega
 rw [List.take_length] at hgo
 go_wp2_with fail
 go_ret
 exact ⟨⟨_, rfl, by rw [hgo.out]; simp [Hid]⟩, hb⟩
theorem E8 (l : List ByteArray) (v : Value) (w : World) (lo hi : Nat) (h : aW w lo hi 1 aR v l) (hhi : hi ≤ w.heap.size) (hst : bT w) :
 Calls Tryz.prog 49 #[v, .func (.func 50) #[] #[]] w fun e w' => e = .returned (.bool (!l.all jr)) ∧ Below w.heap.size w w' := by
 have HC := lH (Em l v w lo hi h hhi hst)
 go_in
 go_wp2_with fail
 refine HC.out.mono ?_; rintro e w1 ⟨⟨i, rfl, hi⟩, hb⟩
 go_wp2_with fail
 go_ret
 exact ⟨bD (by rw [← hi.out]), hb⟩
end
section
open Go.RowKit
def aeD (F : Nat) (c : bg) : Prop := ∀ (vc : Value) (w : World) (lo hi : Nat), dZ w lo hi bg.aG vc c → hi ≤ w.heap.size → bT w → c.bI ≤ 34359738368 →
 Calls Tryz.prog F #[vc] w fun e w' => e = .returned (.bool (aS c)) ∧ Below w.heap.size w w'
theorem wR (c : bg) : aeD 17 c := by
 intro vc w lo hi hc hhi hst hbk
 obtain ⟨dh, bP, bM, bG, bK, bC, rfl, hr, ur, mr, hd, ud, md, hg, ug, mg⟩ := bg.form hc
 unfold maxLen at mr md mg
 obtain ⟨a1, hwa⟩ := dQ w 28 (aP dh c.au.length bP bM c.records.length bG bK c.globals.length bC c.main)
 clear hc
 go_in
 by_cases h0 : c.au.length < 1
 ·have HV : Hid (aS c = false) := by
   exact Ju
  exact CL
 by_cases h1 : 12 < c.au.length
 ·have HV : Hid (aS c = false) := by
   exact Jt
  exact CL
 by_cases h2 : 12 < c.globals.length
 ·have HV : Hid (aS c = false) := by
   show _ = _
   apply vR
   unfold jR
   rw [dF (show ¬ c.globals.length ≤ 12 by omega)]
   simp
  exact CL
 go_wp2_with fail
 refine (zm c.records _ _ lo hi (hd.below hwa hhi) (nT hhi hwa.size) (hst.below hwa hst.2)).mono ?_; rintro e w2 ⟨rfl, hb2⟩
 have hw2 := hwa.trans (hb2.mono hwa.size)
 have a2 := a1.later hb2
 have ca := a2.cell
 have la := a2.lt
 clear hb2
 cases h3 : jO c.records with
 | false =>
   have HV : Hid (aS c = false) := Hy h3
   clear h3
   exact yH
 | true =>
 have HRC := lH h3
 clear h3
 go_wp2_with fail
 refine (oK c.globals _ _ lo hi (hg.below hw2 hhi) (nT hhi hw2.size) (hst.below hw2 hst.2)).mono ?_; rintro e w3 ⟨rfl, hb3⟩
 have hw3 := hw2.trans (hb3.mono hw2.size)
 have a3 := a2.later hb3
 clear ca la hb3
 have ca := a3.cell
 have la := a3.lt
 cases h4 : c.globals.all bJ
 have HV : Hid (aS c = false) := by
  show _ = _
  apply vR
  unfold jR
  rw [h4]
  simp
 clear h4
 rotate_left
 have HGA := lH h4
 clear h4
 by_cases h5 : c.main < 0
 have HV : Hid (aS c = false) := zo (by rw [lW, dF ah]; rfl)
 rotate_left
 by_cases h6 : ¬ c.main < c.au.length
 have HV : Hid (aS c = false) := zo (by rw [lW, dF h6, Bool.and_false]; rfl)
 have m2 : (c.au.length : Int) ≤ c.main := ah
 rotate_left
 obtain ⟨mn, hmn⟩ : ∃ mn : Nat, c.main = mn := ⟨c.main.toNat, ah⟩
 have hml : mn < c.au.length := ah
 obtain ⟨r0, hr0⟩ : ∃ r0, c.au[mn]? = some r0 := ⟨_, gE hml⟩
 obtain ⟨g0, UL, As0, ns0, Ak0, nk0, hA0, aeE, aeF, -, -, -, q1, -, -, -, -, -, -, -⟩ := bO.at_ hr hr0
 subst hA0
 have HMN : Hid (lW c = decide (r0.params = 0)) := by
  exact IZ
 have d1 : decide ((c.au.length : Int) < 1) = false := dF ah
 have d2 : decide ((12 : Int) < (c.au.length : Int)) = false := dF ah
 have d3 : decide ((12 : Int) < (c.globals.length : Int)) = false := dF ah
 have d9 : decide ((mn : Int) < 0) = false := dF ah
 have d10 : decide ((c.au.length : Int) ≤ (mn : Int)) = false := dF ah
 have d11 : decide (c.au.length ≤ mn) = false := dF ah
 rw [hmn] at ca
 have q1' := (hw3.cell (p := ⟨g0, UL + mn * 9 + 1, none⟩) (by show g0 < _; omega)).trans q1
 clear hr0 hmn h5 h6
 by_cases hp : ¬ r0.params = 0
 have HV : Hid (aS c = false) := zo (by rw [HMN.out, dF hp])
 have f0 : (r0.params != 0) = true := by simpa using hp
 rotate_left
 rotate_right 4
 iterate 4 focus
  go_wp2_with fail
  go_ret
  exact ⟨bD HV.out.symm, hw3⟩
 replace hp : r0.params = 0 := Classical.byContradiction hp
 have HHD : Hid (jR c = true) := by
  show _ = _
  unfold jR
  rw [dT (show 1 ≤ c.au.length by omega), dT (show c.au.length ≤ 12 by omega), HRC.out, dT (show c.globals.length ≤ 12 by omega), HGA.out]
  rfl
 have HMO : Hid (lW c = true) := lH (by rw [HMN.out, dT hp])
 have f0 : (r0.params != 0) = false := by simp [hp]
 have hrl : c.records.length ≤ 8 := by have h3 := HRC.out; unfold jO at h3; simp only [Bool.and_eq_true, decide_eq_true_eq] at h3; exact h3.2
 clear hp HRC HGA HMN
 go_wp2_with fail
 clear ca la q1 q1' a1 a2 hwa hw2
 go_loopg [3, 61] c.au.length (fun gk n i wx => ∃ k : Nat, k ≤ c.au.length ∧ i = .int i64 k ∧ n = .int i64 (sumOf fK (c.au.take k) : Nat) ∧ Hid ((c.au.take k).all (jv c) = true) ∧ Below w3.heap.size w3 wx ∧ gk = c.au.length - k)
 case atStart => exact ⟨0, nZ _, rfl, by simp [sumOf], by simp [Hid], bR _ _, rfl⟩
 obtain ⟨k, hk, rfl, rfl, hgo, hb, hgk⟩ := hrel
 have HGK := lH hgk
 clear hgk
 have hw6 : Below w.heap.size w wr := hw3.trans (hb.mono hw3.size)
 have a6 := a3.later hb
 have ca := a6.cell
 have la := a6.lt
 by_cases hlt : k < c.au.length
 ·obtain ⟨r, hrk⟩ : ∃ r, c.au[k]? = some r := ⟨_, gE hlt⟩
  obtain ⟨g, off, As, ns, Ak, nk, hA, hg1, hg2, hmem, hcr, q0, q1, q2, q3, q4, q5, q6, q7, q8⟩ := bO.at_ (hr.below hw6 hhi) hrk
  injection hA with hA
  injection hA with hA1 hA2
  subst hA1 hA2
  obtain ⟨hsl, hkd⟩ := bO.rows hcr
  have HS := lH (nC (q := jv c) hrk)
  have HSN := lH (C8 (b := fK) hrk)
  have HM : Hid (jv c r = false → aS c = false) := fun e => Po (tq hmem e)
  have HB : Hid (jv c r = (bJ r.name && decide (r.slots.length ≤ 24) && decide (0 ≤ r.params) && decide (r.params ≤ r.slots.length) && r.slots.all jr && decide (r.body.depth ≤ 400) && dW (lQ c r) r.body false false)) := rfl
  have hrb : r.bI ≤ 34359738368 := by have h1 := p9 (b := bO.bI) hmem; unfold bg.bI at hbk; omega
  have hbb : r.body.bI ≤ 34359738368 := by unfold bO.bI at hrb; omega
  have hsz : sumOf fK (c.au.take (k + 1)) ≤ 500000000000 := by
   exact Oh
  have hsum : sumOf fK (c.au.take k) + r.body.nodes ≤ 500000000000 := by rw [HSN.out] at hsz; exact hsz
  have hwr : Below w.heap.size w (wr.alloc (.cells (fU r.name r.params As r.slots.length ns r.body.kind r.body.op r.body.number r.body.line r.body.text Ak r.body.kids.length nk) 45)) := hw6.alloc hw6.size _
  have b6 := Blk.new wr 45 (fU r.name r.params As r.slots.length ns r.body.kind r.body.op r.body.number r.body.line r.body.text Ak r.body.kids.length nk)
  have a7 := a6.alloc (.cells (fU r.name r.params As r.slots.length ns r.body.kind r.body.op r.body.number r.body.line r.body.text Ak r.body.kids.length nk) 45)
  have hsl0 := hsl.alloc (nT hhi hw6.size) (.cells (fU r.name r.params As r.slots.length ns r.body.kind r.body.op r.body.number r.body.line r.body.text Ak r.body.kids.length nk) 45)
  have WG := hkd.alloc (nT hhi hw6.size) (.cells (fU r.name r.params As r.slots.length ns r.body.kind r.body.op r.body.number r.body.line r.body.text Ak r.body.kids.length nk) 45)
  clear hrk hmem hcr hsl hkd
  go_wp2_with fail
  refine (jI r.name _ (hst.below hwr hst.2)).mono ?_; rintro e w8 ⟨rfl, hb8⟩
  have hw8 := hwr.trans (hb8.mono hwr.size)
  have b8 := b6.later hb8
  have a8 := a7.later hb8
  have WH := hsl0.below hb8 (nT (nT hhi hw6.size) av)
  have WI := WG.below hb8 (nT (nT hhi hw6.size) av)
  have bt8 : Below w3.heap.size w3 w8 := (hb.alloc hb.size _).trans (hb8.mono (nT hb.size av))
  clear ca la q0 q1 q2 q3 q4 q5 q6 q7 q8
  have ca := a8.cell
  have la := a8.lt
  have cb := b8.cell
  have lb := b8.lt
  cases n1 : bJ r.name
  have HV : Hid (aS c = false) := HM.out Cj
  clear n1 hgo
  rotate_left
  have N1 := lH n1
  clear n1
  by_cases n2 : 24 < r.slots.length
  have HV : Hid (aS c = false) := HM.out (by rw [HB.out, dF (show ¬ r.slots.length ≤ 24 by omega)]; simp)
  clear hgo
  rotate_left
  by_cases n3 : r.params < 0
  have HV : Hid (aS c = false) := HM.out (by rw [HB.out, dF (show ¬ 0 ≤ r.params by omega)]; simp)
  clear hgo
  rotate_left
  by_cases n5 : (r.slots.length : Int) < r.params
  have HV : Hid (aS c = false) := HM.out (by rw [HB.out, dF (show ¬ r.params ≤ r.slots.length by omega)]; simp)
  clear hgo
  rotate_left
  rotate_right 4
  iterate 4 focus
   go_wp2_with fail
   go_ret
   exact ⟨bD HV.out.symm, hw8⟩
  have e2 : decide ((24 : Int) < (r.slots.length : Int)) = false := dF ah
  have e3 := dF n3
  have e5 := dF n5
  go_wp2_with fail
  refine (E8 r.slots _ _ lo hi WH (nT hhi hw8.size) (hst.below hw8 hst.2)).mono ?_; rintro e w9 ⟨rfl, hb9⟩
  have hw9 := hw8.trans (hb9.mono hw8.size)
  have b9 := b8.later hb9
  have a9 := a8.later hb9
  have SI := WI.below hb9 (nT hhi hw8.size)
  have bt9 := bt8.trans (hb9.mono bt8.size)
  clear ca la cb lb
  have ca := a9.cell
  have la := a9.lt
  have cb := b9.cell
  have lb := b9.lt
  cases n4 : r.slots.all jr with
  | false =>
    have HV : Hid (aS c = false) := HM.out (by rw [HB.out, n4]; simp)
    clear n4 hgo
    go_wp2_with fail
    go_ret
    exact ⟨bD HV.out.symm, hw9⟩
  | true =>
  have HBB : Hid (jv c r = (decide (r.body.depth ≤ 400) && dW (lQ c r) r.body false false)) := lH (by rw [HB.out, N1.out, dT (show r.slots.length ≤ 24 by omega), dT (show 0 ≤ r.params by omega), dT (show r.params ≤ r.slots.length by omega), n4]; rfl)
  clear n4 N1
  go_wp2_with fail
  have HNC := lH (qz r.body (.agg (aB r.body.kind r.body.op r.body.number r.body.line r.body.text Ak r.body.kids.length nk)) w9 lo hi (ak.mk_ SI) (nT hhi hw9.size) hbb)
  refine HNC.out.mono ?_; rintro e w10 ⟨rfl, SK⟩
  have WJ := hw9.trans (SK.mono hw9.size)
  have b10 := b9.later SK
  have a10 := a9.later SK
  have Yy := SI.below SK (nT hhi hw9.size)
  have Yz := bt9.trans (SK.mono bt9.size)
  clear ca la cb lb HNC
  have ca := a10.cell
  have la := a10.lt
  have cb := b10.cell
  have lb := b10.lt
  go_wp2_with fail
  clear ca la cb lb
  have aeG : hi ≤ w10.heap.size := nT hhi WJ.size
  have YA : Below w.heap.size w (w10.alloc (.cells (lX (r.slots.length : Nat) (c.globals.length : Nat) (c.au.length : Nat) (c.records.length : Nat)) 92)) := WJ.alloc WJ.size _
  have YB : Below w3.heap.size w3 (w10.alloc (.cells (lX (r.slots.length : Nat) (c.globals.length : Nat) (c.au.length : Nat) (c.records.length : Nat)) 92)) := Yz.alloc Yz.size _
  have b11 := b10.alloc (.cells (lX (r.slots.length : Nat) (c.globals.length : Nat) (c.au.length : Nat) (c.records.length : Nat)) 92)
  have m11 := Blk.new w10 92 (lX (r.slots.length : Nat) (c.globals.length : Nat) (c.au.length : Nat) (c.records.length : Nat))
  have SL := Yy.alloc aeG (.cells (lX (r.slots.length : Nat) (c.globals.length : Nat) (c.au.length : Nat) (c.records.length : Nat)) 92)
  clear b10 b9 b8 a10 a9 a8 a7 a6
  have HDP := lH (Dm r.body (.agg (aB r.body.kind r.body.op r.body.number r.body.line r.body.text Ak r.body.kids.length nk)) _ lo hi (ak.mk_ SL) aJ hbb)
  refine HDP.out.mono ?_; rintro e w12 ⟨rfl, LU⟩
  have SN := YA.trans (LU.mono YA.size)
  have b12 := b11.later LU
  have m12 := m11.later LU
  have YC := SL.below LU aJ
  have YD := YB.trans (LU.mono YB.size)
  clear HDP b11 m11 SL
  have cb := b12.cell
  have lb := b12.lt
  have cm := m12.cell
  have lm := m12.lt
  by_cases hdp : (400 : Int) < (r.body.depth : Int)
  ·have HV : Hid (aS c = false) := HM.out (by rw [HBB.out, dF (show ¬ r.body.depth ≤ 400 by omega)]; rfl)
   clear hgo
   go_wp2_with fail
   go_ret
   exact ⟨bD HV.out.symm, SN⟩
  have HR : Hid (jv c r = dW (lQ c r) r.body false false) := lH (by rw [HBB.out, dT (show r.body.depth ≤ 400 by omega), Bool.true_and])
  have HC : Hid (Calls Tryz.prog 52 #[.agg (lX (r.slots.length : Nat) (c.globals.length : Nat) (c.au.length : Nat) (c.records.length : Nat)), (.agg (aB r.body.kind r.body.op r.body.number r.body.line r.body.text Ak r.body.kids.length nk)), .bool false, .bool false] w12 fun e w' => e = .returned (.bool (dW (lQ c r) r.body false false)) ∧ Below w12.heap.size w12 w') := El (lQ c r) r.body (.agg (aB r.body.kind r.body.op r.body.number r.body.line r.body.text Ak r.body.kids.length nk)) false false w12 lo hi (ak.mk_ YC) (nT hhi SN.size) (hst.below SN hst.2) hbb
  cases hv : dW (lQ c r) r.body false false with
  | false =>
    have HV : Hid (aS c = false) := HM.out (by rw [HR.out, hv])
    rw [hv] at HC
    clear hv hgo
    go_wp2_with fail
    refine HC.out.mono ?_; rintro e wx ⟨rfl, hbx⟩
    have hwx := SN.trans (hbx.mono SN.size)
    exact CK
  | true =>
    have HG : Hid ((c.au.take (k + 1)).all (jv c) = true) := lH (by rw [HS.out, hgo.out, HR.out, hv]; rfl)
    rw [hv] at HC
    clear hv hgo
    go_wp2_with fail
    refine HC.out.mono ?_; rintro e wx ⟨rfl, hbx⟩
    have btx := YD.trans (hbx.mono YD.size)
    clear HC cb lb cm lm
    go_wp2_with fail
    go_roundg (c.au.length - (k + 1))
    case measure => have := HGK.out; omega
    exact ⟨k + 1, ah, by go_num, by rw [HSN.out]; show _ = Value.int i64 ((sumOf fK (c.au.take k) + r.body.nodes : Nat) : Int); go_num, HG, btx, rfl⟩
 obtain rfl : k = c.au.length := by omega
 rw [List.take_length] at hgo ⊢
 have HV := lH (RY HHD.out HMO.out hgo.out)
 exact Jb
end
section
open Go.RowKit
def YE (F : Nat) (c : bg) : Prop := ∀ (vc : Value) (w : World) (lo hi : Nat), dZ w lo hi bg.aG vc c → hi ≤ w.heap.size → c.bI ≤ 34359738368 →
 Calls Tryz.prog F #[vc] w fun e w' => e = .returned (.bool (aS c)) ∧ Below w.heap.size w w'
theorem pP (c : bg) : YE 13 c := by
 intro vc w lo hi hc hhi hbk
 obtain ⟨dh, bP, bM, bG, bK, bC, rfl, hr, ur, mr, hd, ud, md, hg, ug, mg⟩ := bg.form hc
 unfold maxLen at mr md mg
 obtain ⟨a1, hwa⟩ := dQ w 28 (aP dh c.au.length bP bM c.records.length bG bK c.globals.length bC c.main)
 clear hc
 go_in
 by_cases h0 : c.au.length < 1
 have HV : Hid (aS c = false) := by
  exact Ju
 rotate_left
 by_cases h1 : 12 < c.au.length
 have HV : Hid (aS c = false) := by
  exact Jt
 rotate_left
 by_cases h2 : 8 < c.records.length
 have HV : Hid (aS c = false) := Hy (RZ h2)
 rotate_left
 rotate_right 3
 iterate 3 focus
  go_wp2_with fail
  go_ret
  exact ⟨bD HV.out.symm, hwa⟩
 go_wp2_with fail
 refine (jZ c.globals 12 _ _ lo hi (hg.below hwa hhi) (nT hhi hwa.size)).mono ?_; rintro e w2 ⟨rfl, hb2⟩
 have hw2 := hwa.trans (hb2.mono hwa.size)
 have a2 := a1.later hb2
 have ca := a2.cell
 have la := a2.lt
 clear hb2
 cases h3 : (c.globals.all bJ && decide (c.globals.length ≤ 12)) with
 | false =>
   have HV : Hid (aS c = false) := by
    show _ = _
    apply vR
    unfold jR
    cases hq : c.globals.all bJ with
    | false => simp
    | true => rw [hq, Bool.true_and] at h3; rw [h3]; simp
   clear h3
   exact yH
 | true =>
 cases h4 : inB c.main 0 ((c.au.length : Int) - 1) with
 | false =>
   have HV : Hid (aS c = false) := zo (by rw [in_lt] at h4; rw [lW, h4]; rfl)
   have HIN := lH h4
   clear h4 h3
   go_wp2_with fail
   refine (lq c.main 0 ((c.au.length : Int) - 1) _).mono ?_; rw [HIN.out]; rintro e w3 ⟨rfl, rfl⟩
   exact yH
 | true =>
 unfold inB at h4
 simp only [Bool.and_eq_true, decide_eq_true_eq] at h4
 obtain ⟨mn, hmn⟩ : ∃ mn : Nat, c.main = mn := ⟨c.main.toNat, ah⟩
 have hml : mn < c.au.length := ah
 obtain ⟨r0, hr0⟩ : ∃ r0, c.au[mn]? = some r0 := ⟨_, gE hml⟩
 have HHD : Hid (jO c.records = true → jR c = true) := fun e => by
  simp only [Bool.and_eq_true, decide_eq_true_eq] at h3
  unfold jR
  rw [dT (show 1 ≤ c.au.length by omega), dT (show c.au.length ≤ 12 by omega), e, dT h3.2, h3.1]
  rfl
 have hgl : c.globals.length ≤ 12 := by simp only [Bool.and_eq_true, decide_eq_true_eq] at h3; exact h3.2
 obtain ⟨g0, UL, As0, ns0, Ak0, nk0, hA0, aeE, aeF, -, -, -, q1, -, -, -, -, -, -, -⟩ := bO.at_ hr hr0
 subst hA0
 have HMN : Hid (lW c = decide (r0.params = 0)) := by
  exact IZ
 have HIN : Hid (inB (mn : Int) 0 ((c.au.length : Int) - 1) = true) := lH (by rw [in_lt, dT (show (0 : Int) ≤ (mn : Int) by omega), dT (show (mn : Int) < (c.au.length : Int) by omega)]; rfl)
 have d9 : decide ((c.au.length : Int) < 1) = false := dF ah
 have d10 : decide ((12 : Int) < (c.au.length : Int)) = false := dF ah
 have d11 : decide ((8 : Int) < (c.records.length : Int)) = false := dF ah
 rw [hmn] at ca
 have q1' := (hw2.cell (p := ⟨g0, UL + mn * 9 + 1, none⟩) (by show g0 < _; omega)).trans q1
 clear h3 h4 hr0 hmn
 go_wp2_with fail
 refine (lq (mn : Int) 0 ((c.au.length : Int) - 1) _).mono ?_; rw [HIN.out]; rintro e w3 ⟨rfl, rfl⟩
 by_cases hp : ¬ r0.params = 0
 ·have HV : Hid (aS c = false) := zo (by rw [HMN.out, dF hp])
  have f0 : (r0.params != 0) = true := by simpa using hp
  exact yH
 replace hp : r0.params = 0 := Classical.byContradiction hp
 have HMO : Hid (lW c = true) := lH (by rw [HMN.out, dT hp])
 have f0 : (r0.params != 0) = false := by simp [hp]
 clear hp HMN HIN
 go_wp2_with fail
 clear ca la q1 q1'
 go_loopg [3] c.records.length (fun gk i wx => ∃ k : Nat, k ≤ c.records.length ∧ i = .int i64 k ∧ Hid ((c.records.take k).all uh = true) ∧ Below w2.heap.size w2 wx ∧ gk = c.records.length - k)
 case atStart => exact ⟨0, nZ _, rfl, by simp [Hid], bR _ _, rfl⟩
 obtain ⟨k, hk, rfl, hgo, hb, hgk⟩ := hrel
 have HGK := lH hgk
 clear hgk
 have hw4 : Below w.heap.size w wr := hw2.trans (hb.mono hw2.size)
 have a4 := a2.later hb
 have ca := a4.cell
 have la := a4.lt
 by_cases hlt : k < c.records.length
 ·obtain ⟨r, hrk⟩ : ∃ r, c.records[k]? = some r := ⟨_, gE hlt⟩
  obtain ⟨g, off, Af, nf, hA, hg1, hg2, hmem, hcr, q0, q1, q2⟩ := ep.at_ (hd.below hw4 hhi) hrk
  subst hA
  have hfl := ep.rows hcr
  have HB : Hid (uh r = (bJ r.name && decide (r.fields.length ≤ 6) && r.fields.all bJ && !rG r.fields && decide (0 ≤ r.line))) := rfl
  have HS := lH (nC (q := uh) hrk)
  have HM : Hid (uh r = false → aS c = false) := fun e => Hy (TS (tq hmem e))
  have hwr : Below w.heap.size w (wr.alloc (.cells (dS r.name Af r.fields.length nf r.line) 78)) := hw4.alloc hw4.size _
  have b4 := Blk.new wr 78 (dS r.name Af r.fields.length nf r.line)
  have hf0 := hfl.alloc (nT hhi hw4.size) (.cells (dS r.name Af r.fields.length nf r.line) 78)
  clear hrk hmem hcr hfl
  go_wp2_with fail
  refine (iH r.name _).mono ?_; rintro e w5 ⟨rfl, hb5⟩
  have hw5 := hwr.trans (hb5.mono hwr.size)
  have b5 := b4.later hb5
  have hf5 := hf0.below hb5 (nT (nT hhi hw4.size) av)
  clear ca la q0 q1 q2
  have ca := b5.cell
  have la := b5.lt
  cases n1 : bJ r.name with
  | false =>
    have HV : Hid (aS c = false) := HM.out Cj
    clear n1 hgo
    go_wp2_with fail
    go_ret
    exact ⟨bD HV.out.symm, hw5⟩
  | true =>
  have N1 := lH n1
  clear n1
  go_wp2_with fail
  refine (jZ r.fields 6 _ _ lo hi hf5 (nT hhi hw5.size)).mono ?_; rintro e w6 ⟨rfl, hb6⟩
  have hw6 := hw5.trans (hb6.mono hw5.size)
  have b6 := b5.later hb6
  have hf6 := hf5.below hb6 (nT hhi hw5.size)
  clear ca la
  have ca := b6.cell
  have la := b6.lt
  cases n2 : (r.fields.all bJ && decide (r.fields.length ≤ 6)) with
  | false =>
    have HV : Hid (aS c = false) := HM.out (by rw [HB.out]; cases hq : r.fields.all bJ with | false => simp | true => (rw [hq, Bool.true_and] at n2; rw [n2]; simp))
    clear n2 hgo
    exact CO
  | true =>
  have n2' : r.fields.all bJ = true ∧ r.fields.length ≤ 6 := by simpa using n2
  have HN2 := lH n2'
  clear n2 n2'
  go_wp2_with fail
  refine (tC r.fields _ _ lo hi hf6).mono ?_; rintro e w7 ⟨rfl, rfl⟩
  cases n3 : rG r.fields with
  | true =>
    have HV : Hid (aS c = false) := HM.out (by rw [HB.out, n3]; simp)
    clear n3 hgo
    exact CO
  | false =>
  have N3 := lH n3
  clear n3
  by_cases n4 : r.line < 0
  ·have HV : Hid (aS c = false) := HM.out (by rw [HB.out, dF (show ¬ 0 ≤ r.line by omega)]; simp)
   clear hgo
   exact CO
  have HG : Hid ((c.records.take (k + 1)).all uh = true) := lH (by rw [HS.out, hgo.out, HB.out, N1.out, dT HN2.out.2, HN2.out.1, N3.out, dT (show 0 ≤ r.line by omega)]; rfl)
  clear hgo
  go_wp2_with fail
  go_roundg (c.records.length - (k + 1))
  case measure => have := HGK.out; omega
  exact ⟨k + 1, ah, by go_num, HG, ((hb.alloc hb.size _).trans (hb5.mono (nT hb.size av))).trans (hb6.mono (nT hb.size (nT av hb5.size))), rfl⟩
 obtain rfl : k = c.records.length := by omega
 rw [List.take_length] at hgo
 have HRC : Hid (jR c = true) := HHD.out (by rw [jO, hgo.out, dT (show c.records.length ≤ 8 by omega)]; rfl)
 clear hgo
 go_wp2_with fail
 clear ca la
 obtain ⟨wA, rfl⟩ := nW wr
 clear hb HGK
 go_loopg [5, 6] c.au.length (fun gk n i wx => ∃ k : Nat, k ≤ c.au.length ∧ i = .int i64 k ∧ n = .int i64 (sumOf fK (c.au.take k) : Nat) ∧ Hid ((c.au.take k).all (jv c) = true) ∧ Below wA.heap.size wA wx ∧ gk = c.au.length - k)
 case atStart => exact ⟨0, nZ _, rfl, by simp [sumOf], by simp [Hid], bR _ _, rfl⟩
 obtain ⟨k, hk, rfl, rfl, hgo, hb, hgk⟩ := hrel
 have HGK := lH hgk
 clear hgk
 have hw6 : Below w.heap.size w wr := hw4.trans (hb.mono hw4.size)
 have a6 := a4.later hb
 have ca := a6.cell
 have la := a6.lt
 by_cases hlt : k < c.au.length
 ·obtain ⟨r, hrk⟩ : ∃ r, c.au[k]? = some r := ⟨_, gE hlt⟩
  obtain ⟨g, off, As, ns, Ak, nk, hA, hg1, hg2, hmem, hcr, q0, q1, q2, q3, q4, q5, q6, q7, q8⟩ := bO.at_ (hr.below hw6 hhi) hrk
  injection hA with hA
  injection hA with hA1 hA2
  subst hA1 hA2
  obtain ⟨hsl, hkd⟩ := bO.rows hcr
  have HS := lH (nC (q := jv c) hrk)
  have HSN := lH (C8 (b := fK) hrk)
  have HM : Hid (jv c r = false → aS c = false) := fun e => Po (tq hmem e)
  have HB : Hid (jv c r = (bJ r.name && decide (r.slots.length ≤ 24) && decide (0 ≤ r.params) && decide (r.params ≤ r.slots.length) && r.slots.all jr && decide (r.body.depth ≤ 400) && dW (lQ c r) r.body false false)) := rfl
  have hrb : r.bI ≤ 34359738368 := by have h1 := p9 (b := bO.bI) hmem; unfold bg.bI at hbk; omega
  have hbb : r.body.bI ≤ 34359738368 := by unfold bO.bI at hrb; omega
  have hsz : sumOf fK (c.au.take (k + 1)) ≤ 500000000000 := by
   exact Oh
  have hwr : Below w.heap.size w (wr.alloc (.cells (fU r.name r.params As r.slots.length ns r.body.kind r.body.op r.body.number r.body.line r.body.text Ak r.body.kids.length nk) 45)) := hw6.alloc hw6.size _
  have b6 := Blk.new wr 45 (fU r.name r.params As r.slots.length ns r.body.kind r.body.op r.body.number r.body.line r.body.text Ak r.body.kids.length nk)
  have a7 := a6.alloc (.cells (fU r.name r.params As r.slots.length ns r.body.kind r.body.op r.body.number r.body.line r.body.text Ak r.body.kids.length nk) 45)
  have hsl0 := hsl.alloc (nT hhi hw6.size) (.cells (fU r.name r.params As r.slots.length ns r.body.kind r.body.op r.body.number r.body.line r.body.text Ak r.body.kids.length nk) 45)
  have WG := hkd.alloc (nT hhi hw6.size) (.cells (fU r.name r.params As r.slots.length ns r.body.kind r.body.op r.body.number r.body.line r.body.text Ak r.body.kids.length nk) 45)
  clear hrk hmem hcr hsl hkd
  go_wp2_with fail
  refine (iH r.name _).mono ?_; rintro e w8 ⟨rfl, hb8⟩
  have hw8 := hwr.trans (hb8.mono hwr.size)
  have b8 := b6.later hb8
  have a8 := a7.later hb8
  have WH := hsl0.below hb8 (nT (nT hhi hw6.size) av)
  have WI := WG.below hb8 (nT (nT hhi hw6.size) av)
  have bt8 : Below wA.heap.size wA w8 := (hb.alloc hb.size _).trans (hb8.mono (nT hb.size av))
  clear ca la q0 q1 q2 q3 q4 q5 q6 q7 q8
  have ca := a8.cell
  have la := a8.lt
  have cb := b8.cell
  have lb := b8.lt
  cases n1 : bJ r.name
  have HV : Hid (aS c = false) := HM.out Cj
  clear n1 hgo
  rotate_left
  have N1 := lH n1
  clear n1
  by_cases n2 : 24 < r.slots.length
  have HV : Hid (aS c = false) := HM.out (by rw [HB.out, dF (show ¬ r.slots.length ≤ 24 by omega)]; simp)
  clear hgo
  rotate_left
  go_wp2_with fail
  refine (lq r.params 0 (r.slots.length : Int) _).mono ?_; rintro e w9 ⟨rfl, rfl⟩
  cases n3 : inB r.params 0 (r.slots.length : Int)
  have HV : Hid (aS c = false) := HM.out (by rw [HB.out, Bool.and_assoc (bJ r.name && decide (r.slots.length ≤ 24))]; unfold inB at n3; rw [n3]; simp)
  clear n3 hgo
  rotate_left
  rotate_right 3
  iterate 3 focus
   go_wp2_with fail
   go_ret
   exact ⟨bD HV.out.symm, hw8⟩
  have n3' : 0 ≤ r.params ∧ r.params ≤ r.slots.length := by unfold inB at n3; simpa using n3
  have HN3 := lH n3'
  clear n3 n3'
  go_wp2_with fail
  clear ca la cb lb
  go_loopg [8] r.slots.length (fun gk i wx => ∃ j : Nat, j ≤ r.slots.length ∧ i = .int i64 j ∧ Hid ((r.slots.take j).all jr = true) ∧ Below w8.heap.size w8 wx ∧ gk = r.slots.length - j)
  case atStart => exact ⟨0, nZ _, rfl, by simp [Hid], bR _ _, rfl⟩
  obtain ⟨j, hj, rfl, hgs, hbs, hgk⟩ := hrel
  have HGJ := lH hgk
  clear hgk
  have hw9 : Below w.heap.size w wr := hw8.trans (hbs.mono hw8.size)
  have b9 := b8.later hbs
  have a9 := a8.later hbs
  have cb := b9.cell
  have lb := b9.lt
  have ca := a9.cell
  have la := a9.lt
  by_cases hlj : j < r.slots.length
  ·obtain ⟨s, hs⟩ : ∃ s, r.slots[j]? = some s := ⟨_, gE hlj⟩
   obtain ⟨gs, os, rfl, aez, aeA, t0⟩ := aW.text (WH.below hbs (nT hhi hw8.size)) hs
   have HSS := lH (nC (q := jr) hs)
   have HMS : Hid (jr s = false → aS c = false) := fun e => HM.out (by rw [HB.out, tq (mG hs) e]; simp)
   have HSO : Hid (jr s = (s.toList.isEmpty || bJ s)) := rfl
   clear hs
   cases e1 : s.toList.isEmpty with
   | true =>
     have h1 : s.toList = [] := by simpa using e1
     have HG : Hid ((r.slots.take (j + 1)).all jr = true) := lH (by rw [HSS.out, hgs.out, HSO.out, e1]; rfl)
     clear hgs e1
     go_wp2_with fail
     go_roundg (r.slots.length - (j + 1))
     case measure => have := HGJ.out; omega
     exact ⟨j + 1, ah, by go_num, HG, hbs, rfl⟩
   | false =>
     have h1 : ¬ s.toList = [] := by intro h; rw [h] at e1; cases e1
     have e3 : (!s.toList.isEmpty) = true := by rw [e1]; rfl
     cases e2 : bJ s with
     | false =>
       have HV : Hid (aS c = false) := HMS.out (by rw [HSO.out, e1, e2]; rfl)
       have N4 := lH e2
       clear e1 e2 hgs hgo
       go_wp2_with fail
       refine (iH s _).mono ?_; rw [N4.out]; rintro e wx ⟨rfl, hbx⟩
       have hwx := hw9.trans (hbx.mono hw9.size)
       exact CK
     | true =>
       have HG : Hid ((r.slots.take (j + 1)).all jr = true) := lH (by rw [HSS.out, hgs.out, HSO.out, e1, e2]; rfl)
       have N4 := lH e2
       clear e1 e2 hgs
       go_wp2_with fail
       refine (iH s _).mono ?_; rw [N4.out]; rintro e wx ⟨rfl, hbx⟩
       have aeH := hbs.trans (hbx.mono hbs.size)
       clear t0 ca la cb lb
       go_wp2_with fail
       go_roundg (r.slots.length - (j + 1))
       case measure => have := HGJ.out; omega
       exact ⟨j + 1, ah, by go_num, HG, aeH, rfl⟩
  obtain rfl : j = r.slots.length := by omega
  rw [List.take_length] at hgs
  have HBB : Hid (jv c r = (decide (r.body.depth ≤ 400) && dW (lQ c r) r.body false false)) := lH (by rw [HB.out, N1.out, dT (show r.slots.length ≤ 24 by omega), dT HN3.out.1, dT HN3.out.2, hgs.out]; rfl)
  clear hgs
  have SI := WI.below hbs (nT hhi hw8.size)
  have HVS : Hid (jd (lQ c r) r.body false false 1 = jv c r) := lH (by rw [HBB.out, jd, Bool.and_comm]; congr 1; rw [Bool.eq_iff_iff]; simp only [decide_eq_true_eq]; omega)
  have hz9 : hi ≤ wr.heap.size := nT hhi hw9.size
  have HC := lH (E7 (lQ c r) (by show r.slots.length ≤ 34359738368; omega) (by show c.globals.length ≤ 34359738368; omega) (by show c.au.length ≤ 34359738368; omega) (by show c.records.length ≤ 34359738368; omega) r.body (some (aj g0 UL)) bM bK bP bG bC c.main (.agg (aB r.body.kind r.body.op r.body.number r.body.line r.body.text Ak r.body.kids.length nk)) false false 1 wr lo hi (ak.mk_ SI) hz9 hbb aA aA)
  cases hv : jv c r with
  | false =>
    have HV : Hid (aS c = false) := HM.out hv
    rw [hv] at HVS
    clear hv hgo
    go_wp2_with fail
    refine HC.out.mono ?_; rw [HVS.out]; rintro e wx ⟨rfl, hbx⟩
    have hwx := hw9.trans (hbx.mono hw9.size)
    exact CK
  | true =>
    have HG : Hid ((c.au.take (k + 1)).all (jv c) = true) := lH (by rw [HS.out, hgo.out, hv]; rfl)
    rw [hv] at HVS
    clear hv hgo
    go_wp2_with fail
    refine HC.out.mono ?_; rw [HVS.out]; rintro e wx ⟨rfl, hbx⟩
    have hwx := hw9.trans (hbx.mono hw9.size)
    have bx := b9.later hbx
    have hkx := SI.below hbx hz9
    clear ca la cb lb HC
    have cb := bx.cell
    have lb := bx.lt
    have HNC := lH (Dn r.body (.agg (aB r.body.kind r.body.op r.body.number r.body.line r.body.text Ak r.body.kids.length nk)) wx lo hi (ak.mk_ hkx) (nT hhi hwx.size) hbb)
    have hsum : sumOf fK (c.au.take k) + r.body.nodes ≤ 500000000000 := by rw [HSN.out] at hsz; exact hsz
    go_wp2_with fail
    refine HNC.out.mono ?_; rintro e wy ⟨rfl, hby⟩
    have bty := (bt8.trans (hbs.mono bt8.size)).trans ((hbx.trans (hby.mono hbx.size)).mono (nT bt8.size hbs.size))
    clear cb lb HNC
    go_wp2_with fail
    go_roundg (c.au.length - (k + 1))
    case measure => have := HGK.out; omega
    exact ⟨k + 1, ah, by go_num, by rw [HSN.out]; show _ = Value.int i64 ((sumOf fK (c.au.take k) + r.body.nodes : Nat) : Int); go_num, HG, bty, rfl⟩
 obtain rfl : k = c.au.length := by omega
 rw [List.take_length] at hgo ⊢
 have HV := lH (RY HRC.out HMO.out hgo.out)
 exact Jb
end
end Go.Proofs.YthbcamfejgghhaaGreatDoor
