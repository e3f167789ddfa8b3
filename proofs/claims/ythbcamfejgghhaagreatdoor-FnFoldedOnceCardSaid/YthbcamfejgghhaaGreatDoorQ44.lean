/- Ww of the program at a valid tree: one text of the tree, whatever the world. RU of the reference: a tree is valid as the plain law says, and its d -/
import Derived.Test.YthbcamfejgghhaaGreatDoorQ29
import Derived.Test.YthbcamfejgghhaaGreatDoorQ32
import Derived.Test.YthbcamfejgghhaaGreatDoorQ33
import Derived.Test.YthbcamfejgghhaaGreatDoorQ38
set_option maxRecDepth 100000
set_option maxHeartbeats 8000000
set_option linter.unusedVariables false
set_option linter.unusedSimpArgs false
namespace Go.Proofs.YthbcamfejgghhaaGreatDoor
open Go.IntKind (i64)
section
open Go Go.RowKit
def SA : ByteArray := ⟨#[105, 110, 116, 101, 103, 101, 114, 32, 115, 116, 114, 105, 110, 103, 32, 99, 115, 101, 116, 32, 110, 117, 108, 108, 32, 108, 111, 99, 97, 108, 32, 103, 108, 111, 98, 97, 108, 32, 112, 114, 111, 99, 101, 100, 117, 114, 101, 32, 102, 117, 110, 99, 116, 105, 111, 110, 32, 99, 111, 110, 115, 116, 114, 117, 99, 116, 111, 114, 32, 107, 101, 121, 119, 111, 114, 100, 32, 111, 112, 101, 114, 97, 116, 101, 32, 99, 97, 108, 108, 32, 97, 108, 116, 101, 114, 110, 97, 116, 101, 32, 114, 101, 112, 101, 97, 116, 32, 108, 105, 109, 105, 116, 32, 98, 108, 111, 99, 107, 32, 105, 102, 32, 119, 104, 105, 108, 101, 32, 101, 118, 101, 114, 121, 32, 98, 114, 101, 97, 107, 32, 110, 101, 120, 116, 32, 115, 99, 97, 110, 32, 114, 101, 116, 117, 114, 110, 32, 102, 97, 105, 108, 32, 115, 117, 115, 112, 101, 110, 100, 32, 99, 114, 101, 97, 116, 101, 32, 97, 99, 116, 105, 118, 97, 116, 101, 32, 110, 111, 110, 101]⟩
noncomputable def vC (k : Int) : ByteArray := if 1 ≤ k ∧ k ≤ 28 then wordsAt SA (k - 1).toNat else ⟨#[63]⟩
noncomputable def uo (k o n : Int) (t : ByteArray) : ByteArray := if k = 2 ∨ k = 3 then vC k ++ (⟨#[58]⟩ ++ quoted 34 t) else if k = 11 then vC k ++ (⟨#[58]⟩ ++ LM o) else if k = 1 ∨ (5 ≤ k ∧ k ≤ 10) then vC k ++ (⟨#[58]⟩ ++ dz n) else vC k
noncomputable def Bh (l : List ByteArray) : ByteArray := ⟨(Lib.join (l.map (·.data.toList)) (⟨#[44, 32]⟩ : ByteArray).data.toList).toArray⟩
noncomputable def fmtC (b : ByteArray) (l : List ByteArray) : ByteArray := if l.length = 0 then b else b ++ (⟨#[40]⟩ ++ Bh l ++ ⟨#[41]⟩)
mutual
noncomputable def ak.fmt : ak → ByteArray
 | .mk k o n _ t kids => fmtC (uo k o n t) (UI kids)
noncomputable def UI : List ak → List ByteArray
 | [] => []
 | c :: cs => c.fmt :: UI cs
end
theorem SB (l : List ak) : UI l = l.map ak.fmt := by
 induction l with
 | nil => rfl
 | cons c l ih => simp [UI, ih]
theorem ak.SC (c : ak) : c.fmt = fmtC (uo c.kind c.op c.number c.text) (c.kids.map ak.fmt) := by cases c; simp only [ak.fmt, ak.kind, ak.op, ak.number, ak.text, ak.kids, SB]
theorem Nq (j : Nat) (h : j < 28) : (wordsAt SA j).size ≤ 20 := by
 have := List.all_eq_true.1 (show ((List.range 28).all fun j => decide ((wordsAt SA j).size ≤ 20)) = true by decide +kernel) j (List.mem_range.2 h)
 simpa using this
theorem FY (k : Int) : (vC k).size ≤ 20 := by
 unfold vC; split
 ·exact Nq _ ah
 decide
theorem FZ {k o n : Int} {t : ByteArray} (ht : t.size ≤ 128) (h0 : -9223372036854775808 ≤ n) (h1 : n ≤ 9223372036854775807) : (uo k o n t).size ≤ 540 := by
 have a := FY k
 have b := Bd 34 t
 have c := xW o
 have d := jY n h0 h1
 have e : (⟨#[58]⟩ : ByteArray).size = 1 := rfl
 unfold uo
 repeat (first | split | (rw [ByteArray.size_append, ByteArray.size_append]; omega) | omega)
theorem SE (sep : List UInt8) (l : List (List UInt8)) : (Lib.join l sep).length ≤ (l.map fun x => x.length + sep.length).sum := by
 cases l with
 | nil => simp [Lib.join_nil]
 | cons x l =>
   have h : (Lib.joinTail sep l).length = (l.map fun x => x.length + sep.length).sum := by
    induction l with
    | nil => rfl
    | cons y l ih => simp only [Lib.joinTail, List.map_cons, List.flatten_cons, List.length_append, List.sum_cons] at ih ⊢; omega
   rw [Lib.join_cons, List.length_append, h, List.map_cons, List.sum_cons]
   omega
def WdS (d : WdT) : Prop := d.slots ≤ 1048576 ∧ d.globals ≤ 1048576 ∧ d.au ≤ 1048576 ∧ d.records ≤ 1048576
theorem Ee {d : WdT} {c : ak} {lp cr : Bool} (hd : WdS d) (h : dW d c lp cr = true) : c.text.size ≤ 128 ∧ -9223372036854775808 ≤ c.number ∧ c.number ≤ 9223372036854775807 := by
 have hn := ((fV d c lp cr).1 h).1
 unfold iI at hn
 simp only [Bool.and_eq_true] at hn
 obtain ⟨⟨⟨⟨-, h2⟩, h3⟩, -⟩, -⟩ := hn
 obtain ⟨d1, d2, d3, d4⟩ := hd
 refine ⟨?_, ?_⟩
 ·unfold j4 at h3
  split at h3
  ·have := of_decide_eq_true h3; omega
  split at h3
  ·exact uU h3
  have := of_decide_eq_true h3; omega
 unfold fD inB at h2
 repeat (first | (split at h2) | (simp only [Bool.and_eq_true, decide_eq_true_eq] at h2; omega))
theorem Nr (l : List ak) : l.length ≤ fq l := by
 induction l with
 | nil => simp [fq]
 | cons x l ih => have := x.eG; simp only [fq, List.length_cons]; omega
theorem QE : (Tryz.prog.info? 9).map (fun i => (i.zero, i.size, i.bytes)) = some (some (.string ByteArray.empty), 1, 16) := aI
theorem SF {d : WdT} (hd : WdS d) (c : ak) : ∀ lp cr, dW d c lp cr = true → c.fmt.size + 2 ≤ 600 * c.nodes := by
 refine ak.ind (P := fun c => ∀ lp cr, dW d c lp cr = true → c.fmt.size + 2 ≤ 600 * c.nodes) (fun c ih lp cr h => ?_) c
 obtain ⟨h1, h2, h3⟩ := Ee hd h
 have hk := ((fV d c lp cr).1 h).2
 have hb := FZ (k := c.kind) (o := c.op) h1 h2 h3
 have hs : ∀ l : List ak, (∀ x ∈ l, x.fmt.size + 2 ≤ 600 * x.nodes) → (((l.map ak.fmt).map (·.data.toList)).map fun x => x.length + (⟨#[44, 32]⟩ : ByteArray).data.toList.length).sum ≤ 600 * fq l := by
  intro l hl
  induction l with
  | nil => simp [fq]
  | cons x l ihl =>
    have a := hl x List.mem_cons_self
    have b := ihl fun y hy => hl y (List.mem_cons_of_mem _ hy)
    have f : x.fmt.data.toList.length = x.fmt.size := Array.length_toList
    have g : (⟨#[44, 32]⟩ : ByteArray).data.toList.length = 2 := rfl
    simp only [List.map_cons, List.sum_cons, fq, f, g] at b ⊢
    omega
 have s1 := hs c.kids fun x hx => by
  exact CF
 rw [c.SC, c.eG]
 unfold fmtC
 split
 ·omega
 have hj := nT (SE (⟨#[44, 32]⟩ : ByteArray).data.toList ((c.kids.map ak.fmt).map (·.data.toList))) s1
 have hjs : (Bh (c.kids.map ak.fmt)).size = (Lib.join ((c.kids.map ak.fmt).map (·.data.toList)) (⟨#[44, 32]⟩ : ByteArray).data.toList).length := List.size_toArray
 have e1 : (⟨#[40]⟩ : ByteArray).size = 1 := rfl
 have e2 : (⟨#[41]⟩ : ByteArray).size = 1 := rfl
 rw [ByteArray.size_append, ByteArray.size_append, ByteArray.size_append, hjs, e1, e2]
 omega
def PD (c : ak) : Prop := ∀ (A : Option Addr) (n : Nat) (w : World) (lo hi : Nat), aW w lo hi 6 ak.aG (.slice A c.kids.length n) c.kids → hi ≤ w.heap.size → bT w → jw w →
 Calls Tryz.prog 14 #[.agg (aB c.kind c.op c.number c.line c.text A c.kids.length n)] w fun e w' => e = .returned (.string c.fmt) ∧ Below w.heap.size w w'
theorem LX (l : List ByteArray) (bk o c : Nat) (w : World) (hc : ∀ (j : Nat) x, l[j]? = some x → w.cell? (aj bk (o + j)) = some (.string x)) (hbk : bk < w.heap.size) (hcap : l.length ≤ c) (hn : l.length ≤ 1000000) (hlen : (Bh l).size ≤ 1000000000) :
 Calls Tryz.prog 43 #[.slice (some (aj bk o)) l.length c, .string ⟨#[44, 32]⟩] w fun e w' => e = .returned (.string (Bh l)) ∧ Below w.heap.size w w' := by
 have hjs : (Bh l).size = (Lib.join (l.map (·.data.toList)) (⟨#[44, 32]⟩ : ByteArray).data.toList).length := List.size_toArray
 have HJ := lH (Tryz.strings_Join bk o c l ⟨#[44, 32]⟩ w hc hbk ah hcap ah)
 clear hc hlen hjs
 go_in
 go_wp2_with fail
 refine HJ.out.mono ?_
 rintro e w1 ⟨rfl, hb⟩
 go_wp2_with fail
 go_ret
 exact ⟨rfl, hb⟩
theorem xZ {d : WdT} (hd : WdS d) (c : ak) (lp cr : Bool) (hv : dW d c lp cr = true) (hnd : c.nodes ≤ 40000) (ih : ∀ x ∈ c.kids, PD x) : PD c := by
 intro A n w lo hi hk hhi hst hpt
 have HIH := lH ih
 have HK := lH hk
 have hbd := Ee hd hv
 obtain ⟨h1, h2, h3⟩ := hbd
 have hsz := SF hd c lp cr hv
 have HE := lH c.SC
 have hbs := FZ (k := c.kind) (o := c.op) h1 h2 h3
 have hln : c.kids.length ≤ 40000 := by have h1 := c.eG; have h2 := Nr c.kids; omega
 obtain ⟨A', n', hv, hc1, hc2⟩ := hk.shape
 injection hv with hv1 hv2 hv3
 subst hv1 hv3
 unfold maxLen at hc2
 clear ih hk hv2
 obtain ⟨b0, hb0⟩ := dQ w 43 (aB c.kind c.op c.number c.line c.text A c.kids.length n)
 go_in
 go_upto_region 1 with fail
 generalize w.alloc (.cells (aB c.kind c.op c.number c.line c.text A c.kids.length n) 43) = W at *
 go_wp2_with fail
 refine kV 28 aA gP gP gP (hst.later hb0) ?_
 intro l w1 hd hl hne hB hb
 replace b0 := b0.later hb
 have hgW := hB.lt
 have HB1 := lH (hb0.trans (hb.mono hb0.size))
 have HWD : Hid (1 ≤ c.kind ∧ c.kind ≤ 28 → l.getD (c.kind - 1).toNat ByteArray.empty = vC c.kind) := fun h => by unfold vC; rw [if_pos h, hd]; rfl
 have HST := lH (hst.below HB1.out hst.2)
 have HPT := lH (hpt.below HB1.out hpt.2)
 have HBT := lH hB
 have HL := lH hl
 clear hd hne hb hst hpt hB hl hb0
 have c0 := b0.cell
 go_upto_region 3 with fail
 go_cut [18] (fun v wx => v = .bool (decide (1 ≤ c.kind ∧ c.kind ≤ 28)) ∧ wx = w1)
 case first =>
  by_cases k1 : 1 ≤ c.kind
  ·by_cases k2 : c.kind ≤ 28
   ·go_wp2_with fail
    go_meet
    exact ⟨congrArg Value.bool (dT ⟨k1, k2⟩).symm, rfl⟩
   go_wp2_with fail
   go_meet
   exact ⟨congrArg Value.bool (dF fun h => by omega).symm, rfl⟩
  go_wp2_with fail
  go_meet
  exact ⟨congrArg Value.bool (dF fun h => by omega).symm, rfl⟩
 obtain ⟨rfl, rfl⟩ := hcut
 go_upto_if 18 with fail
 go_cut [4] (fun v wx => v = .string (vC c.kind) ∧ wx = wc)
 case first =>
  by_cases k1 : 1 ≤ c.kind ∧ c.kind ≤ 28
  ·have hd1 := dT k1
   have hw : IntKind.i64.wrap (c.kind - 1) = c.kind - 1 := IntWalk.i64_in _ ah
   have hc := lS HBT.out (c.kind - 1).toNat (by have := HL.out; omega)
   rw [HWD.out k1, show (c.kind - 1).toNat = c.kind.toNat - 1 by omega] at hc
   exact yM
  have hd1 := dF k1
  have HA : Hid (vC c.kind = ⟨#[63]⟩) := by show _ = _; unfold vC; rw [if_neg k1]
  go_wp2_with fail
  go_meet
  exact ⟨congrArg Value.string HA.out.symm, rfl⟩
 obtain ⟨rfl, rfl⟩ := hcut
 clear HWD HBT HL
 have hAs := FY c.kind
 go_upto_block 0 with fail
 go_cut [4] (fun v wx => v = .string (uo c.kind c.op c.number c.text) ∧ Below wc.heap.size wc wx)
 case first =>
  have b5 : (⟨#[58]⟩ : ByteArray).size = 1 := rfl
  have hq := Bd 34 c.text
  have ho := xW c.op
  have hf := jY c.number h2 h3
  by_cases k2 : c.kind = 2
  have K := lH k2
  have HB : Hid (uo c.kind c.op c.number c.text = vC c.kind ++ (⟨#[58]⟩ ++ quoted 34 c.text)) := by show _ = _; unfold uo; rw [if_pos (.inl k2)]
  have hz : (⟨#[58]⟩ ++ quoted 34 c.text : ByteArray).size ≤ 600 := by rw [ByteArray.size_append]; omega
  have HQ := lH (uX c.text wc ah)
  have q2 : (c.kind == 2) = true := beq_iff_eq.2 K.out
  clear k2
  rotate_left
  by_cases k3 : c.kind = 3
  have K := lH k3
  have HB : Hid (uo c.kind c.op c.number c.text = vC c.kind ++ (⟨#[58]⟩ ++ quoted 34 c.text)) := by show _ = _; unfold uo; rw [if_pos (.inr k3)]
  have hz : (⟨#[58]⟩ ++ quoted 34 c.text : ByteArray).size ≤ 600 := by rw [ByteArray.size_append]; omega
  have HQ := lH (uX c.text wc ah)
  have q2 : (c.kind == 2) = false := bF ah
  have q3 : (c.kind == 3) = true := beq_iff_eq.2 K.out
  clear k2 k3
  rotate_left
  by_cases k4 : c.kind = 11
  have K := lH k4
  have HB : Hid (uo c.kind c.op c.number c.text = vC c.kind ++ (⟨#[58]⟩ ++ LM c.op)) := by show _ = _; unfold uo; rw [if_neg ah, if_pos k4]
  have hz : (⟨#[58]⟩ ++ LM c.op : ByteArray).size ≤ 600 := by rw [ByteArray.size_append]; omega
  have HQ := lH (sI c.op wc HST.out)
  have q2 : (c.kind == 2) = false := bF ah
  have q3 : (c.kind == 3) = false := bF ah
  have q11 : (c.kind == 11) = true := beq_iff_eq.2 K.out
  clear k2 k3 k4
  rotate_left
  by_cases k5 : c.kind = 1
  have K := lH k5
  have HB : Hid (uo c.kind c.op c.number c.text = vC c.kind ++ (⟨#[58]⟩ ++ dz c.number)) := by show _ = _; unfold uo; rw [if_neg ah, if_neg ah, if_pos (.inl k5)]
  have hz : (⟨#[58]⟩ ++ dz c.number : ByteArray).size ≤ 600 := by rw [ByteArray.size_append]; omega
  have HQ := lH (qI c.number wc h2 h3 HPT.out)
  have q2 : (c.kind == 2) = false := bF ah
  have q3 : (c.kind == 3) = false := bF ah
  have q11 : (c.kind == 11) = false := bF ah
  have q1 : (c.kind == 1) = true := beq_iff_eq.2 K.out
  clear k2 k3 k4 k5
  rotate_left
  rotate_right 4
  iterate 4 focus
   go_wp2_with fail
   refine HQ.out.mono ?_
   rintro e w2 ⟨rfl, hb2⟩
   go_wp2_with fail
   go_meet
   exact ⟨congrArg Value.string HB.out.symm, hb2⟩
  have q1 : (c.kind == 1) = false := bF k5
  by_cases k6 : 5 ≤ c.kind ∧ c.kind ≤ 10
  ·obtain ⟨k7, k8⟩ := k6
   have HB : Hid (uo c.kind c.op c.number c.text = vC c.kind ++ (⟨#[58]⟩ ++ dz c.number)) := by show _ = _; unfold uo; rw [if_neg ah, if_neg ah, if_pos (.inr ⟨k7, k8⟩)]
   have hz : (⟨#[58]⟩ ++ dz c.number : ByteArray).size ≤ 600 := by rw [ByteArray.size_append]; omega
   have HQ := lH (qI c.number wc h2 h3 HPT.out)
   have q2 : (c.kind == 2) = false := bF ah
   have q3 : (c.kind == 3) = false := bF ah
   have q11 : (c.kind == 11) = false := bF ah
   clear k2 k3 k4 k5
   go_wp2_with fail
   refine HQ.out.mono ?_
   rintro e w2 ⟨rfl, hb2⟩
   go_wp2_with fail
   go_meet
   exact ⟨congrArg Value.string HB.out.symm, hb2⟩
  have HB : Hid (uo c.kind c.op c.number c.text = vC c.kind) := by show _ = _; unfold uo; rw [if_neg ah, if_neg k4, if_neg ah]
  have q2 : (c.kind == 2) = false := bF ah
  have q3 : (c.kind == 3) = false := bF ah
  have q11 : (c.kind == 11) = false := bF ah
  clear k2 k3 k4 k5
  by_cases k5 : 5 ≤ c.kind
  ·have k8 : 10 < c.kind := by omega
   clear k6
   go_wp2_with fail
   go_meet
   exact ⟨congrArg Value.string HB.out.symm, bR _ _⟩
  clear k6
  go_wp2_with fail
  go_meet
  exact ⟨congrArg Value.string HB.out.symm, bR _ _⟩
 obtain ⟨rfl, hbx⟩ := hcut
 have HB2 := lH (HB1.out.trans (hbx.mono HB1.out.size))
 have UJ := lH (HST.out.later hbx)
 have UK := lH (HPT.out.later hbx)
 replace b0 := b0.later hbx
 clear HB1 HST HPT hbx c0 hAs hgW
 have c0 := b0.cell
 generalize uo c.kind c.op c.number c.text = tb at *
 by_cases hz : c.kids.length = 0
 ·have HF : Hid (c.fmt = tb) := lH (by rw [HE.out]; unfold fmtC; rw [if_pos (by rw [List.length_map]; exact hz)])
  have hz' : ¬ (0 : Int) < (c.kids.length : Int) := ah
  clear hz
  go_wp2_with fail
  go_ret
  exact ⟨qj HF.out.symm, HB2.out⟩
 have HF : Hid (c.fmt = tb ++ (⟨#[40]⟩ ++ Bh (c.kids.map ak.fmt) ++ ⟨#[41]⟩)) := lH (by rw [HE.out]; unfold fmtC; rw [if_neg (by rw [List.length_map]; exact hz)])
 have hz' : 0 < (c.kids.length : Int) := ah
 have hz3 : decide (0 < c.kids.length) = true := dT ah
 clear hz
 have l0 := b0.lt
 have jQ : (wc.alloc (.cells #[] 9)).ownsRow wc.heap.size 9 1 (.slice (some (aj wc.heap.size 0)) 0 0) 0 (((c.kids.take 0).map ak.fmt).map .string) := ⟨rfl, .inr ⟨wc.heap.size, 0, #[], rfl, nR _, heap_alloc_new wc _, nR _, aA, rfl, rfl⟩⟩
 have hJS : (Bh (c.kids.map ak.fmt)).size ≤ c.fmt.size := by rw [HF.out, ByteArray.size_append, ByteArray.size_append, ByteArray.size_append]; omega
 have e1 : (⟨#[40]⟩ : ByteArray).size = 1 := rfl
 have e2 : (⟨#[41]⟩ : ByteArray).size = 1 := rfl
 have hn2 : 600 * c.nodes ≤ 24000000 := ah
 go_wp2_with fail
 go_loopw [5, 78] (fun v i wr => ∃ (j : Nat) (A2 : Option Addr) (n2 : Nat), j ≤ c.kids.length ∧ i = .int i64 j ∧ v = .slice A2 j n2 ∧ wr.ownsRow wc.heap.size 9 1 (.slice A2 j n2) j (((c.kids.take j).map ak.fmt).map .string) ∧ Below wc.heap.size wc wr) (fun _ i _ => c.kids.length - (intOf i).toNat)
 case atStart => exact ⟨0, _, _, nZ _, rfl, rfl, jQ, bA _ _⟩
 obtain ⟨j, A2, n2, hj, rfl, rfl, hown, hbr⟩ := hrel
 clear jQ
 have HBW := lH (HB2.out.trans (hbr.mono HB2.out.size))
 have hzr := hbr.size
 by_cases hlt : j < c.kids.length
 ·obtain ⟨x, hx⟩ : ∃ x, c.kids[j]? = some x := ⟨_, gE hlt⟩
  obtain ⟨g, off, Ax, nx, rfl, hg1, hg2, hmem, hcr, t0, t1, t2, t3, t4, t5⟩ := ak.at_ (HK.out.below HBW.out hhi) hx
  have hba : Below wr.heap.size wr (wr.alloc (.cells (aB x.kind x.op x.number x.line x.text Ax x.kids.length nx) 43)) := bA _ _
  have hhr : hi ≤ wr.heap.size := nT hhi HBW.out.size
  obtain ⟨_, _, hq, hkr, -, -⟩ := ak.form hcr
  injection hq with hq
  obtain ⟨rfl, rfl⟩ : _ ∧ _ := by simpa using hq
  have HC := lH (HIH.out x hmem Ax nx _ lo hi (hkr.below hba hhr) aJ ((UJ.out.later hbr).later hba) ((UK.out.later hbr).later hba))
  have HT : Hid ((c.kids.take (j + 1)).map ak.fmt = (c.kids.take j).map ak.fmt ++ [x.fmt]) := lH (by rw [gB hx, List.map_append]; rfl)
  obtain ⟨vs, hvs⟩ : ∃ vs, ((c.kids.take j).map ak.fmt).map Value.string = vs := ⟨_, rfl⟩
  rw [hvs] at hown
  have HVS := lH hvs
  clear hx hq hkr hcr hmem hvs
  go_wp2_with fail
  refine HC.out.mono ?_
  rintro e w5 ⟨rfl, hb5⟩
  have hb6 := hba.trans (hb5.mono hba.size)
  have kD := fA hown hb6
  have hz5 := hb6.size
  clear hown t0 t1 t2 t3 t4 t5 hb5 hba HC
  go_wp2_with (first | (at_builtin; refine dO rfl (.tmp 82) (.tmp 85) 26 rfl 9 _ 1 16 QE Tryz.underlying26 rfl aA aA wc.heap.size _ _ _ rfl kD #[.string x.fmt] 1 _ rfl rfl eZ ah ah ?_) | fail)
  intro v' w7 Np LV hat
  obtain ⟨A3, n3, rfl, -⟩ := (Rds.dU Np).shape
  have hb7 := gN (hbr.trans (hb6.mono hbr.size)) ah kD LV
  have rQ : w7.ownsRow wc.heap.size 9 1 (.slice A3 (j + 1) n3) (j + 1) (((c.kids.take (j + 1)).map ak.fmt).map .string) := by rw [HT.out, List.map_append, HVS.out]; exact Np
  clear Np kD LV hat hb6 hbr
  go_wp2_with fail
  go_roundw
  case rel => exact ⟨j + 1, A3, n3, hlt, by go_num, by go_num, rQ, hb7⟩
  simp [intOf]; omega
 obtain rfl : j = c.kids.length := by omega
 rw [List.take_length] at hown
 obtain ⟨A9, c9, hv, h9, h10, -, -, h11⟩ := Rds.dU hown
 obtain ⟨g9, aeB, hA9, -, hg9, hcell⟩ := h11 ah
 injection hv with hv1 hv2 hv3
 subst hv1 hv3 hA9
 have RP : (c.kids.map ak.fmt).length = c.kids.length := List.length_map ..
 have HJ := LX (c.kids.map ak.fmt) g9 aeB n2 wr (fun q x hq => hcell q _ (by rw [List.getElem?_map, hq]; rfl)) hg9 ah ah ah
 rw [RP] at HJ
 have HJ := lH HJ
 clear hcell hown hv2 h11 RP
 generalize Bh (c.kids.map ak.fmt) = jb at *
 go_wp2_with fail
 refine HJ.out.mono ?_
 rintro e w5 ⟨rfl, hb5⟩
 have hb9 := hbr.trans (hb5.mono hbr.size)
 go_wp2_with fail
 go_ret
 exact ⟨qj HF.out.symm, HB2.out.trans (hb9.mono HB2.out.size)⟩
theorem BD {d : WdT} (hd : WdS d) (c : ak) : ∀ lp cr, dW d c lp cr = true → c.nodes ≤ 40000 → PD c := by
 refine ak.ind (P := fun c => ∀ lp cr, dW d c lp cr = true → c.nodes ≤ 40000 → PD c) (fun c ih lp cr h hn => ?_) c
 refine xZ hd c lp cr h hn fun x hx => ?_
 obtain ⟨j, hj⟩ := List.getElem?_of_mem hx
 have h1 := o7 hj
 have h2 := nI c.kids (j + 1)
 have h3 := c.eG
 exact ih x hx _ _ (((fV d c lp cr).1 h).2 j x hj) ah
end
section
open Go.RowKit
noncomputable def jd (d : WdT) (c : ak) (loop made : Bool) (deep : Int) : Bool := dW d c loop made && decide (deep + (c.depth : Int) ≤ 401)
def Iq (d : WdT) (c : ak) : Prop := ∀ (A1 A2 A3 : Option Addr) (c1 c2 c3 : Nat) (m : Int) (x : Value) (loop made : Bool) (deep : Int) (w : World) (lo hi : Nat), gX w lo hi x c → hi ≤ w.heap.size → c.bI ≤ 34359738368 → 1 ≤ deep → deep ≤ 401 →
 Calls Tryz.prog 37 #[.agg (aP A1 d.au c1 A2 d.records c2 A3 d.globals c3 m), d.slots, x, .bool loop, .bool made, deep] w fun e w' => e = .returned (.bool (jd d c loop made deep)) ∧ Below w.heap.size w w'
def uq (w wx : World) (pc cc : Array Value) : Prop := Below w.heap.size w wx ∧ Blk wx w.heap.size 28 pc ∧ Blk wx (w.heap.size + 1) 43 cc
theorem uq.new (w : World) (pc cc : Array Value) : uq w ((w.alloc (.cells pc 28)).alloc (.cells cc 43)) pc cc :=
 ⟨(bA _ _).alloc av _, (Blk.new w _ _).alloc _, Blk.newAt _ _ _ _ av⟩
theorem uq.later {w wx wy : World} {pc cc : Array Value} (h : uq w wx pc cc) (hb : Below wx.heap.size wx wy) : uq w wy pc cc := ⟨h.1.trans (hb.mono h.1.size), h.2.1.later hb, h.2.2.later hb⟩
theorem uq.drewN {w wx : World} {pc cc : Array Value} (h : uq w wx pc cc) (n : Nat) : uq w (wx.drewN n) pc cc := ⟨⟨h.1.os, h.1.tape, h.1.output, h.1.size, h.1.block⟩, h.2.1.drewN n, h.2.2.drewN n⟩
theorem uq.size {w wx : World} {pc cc : Array Value} (h : uq w wx pc cc) : w.heap.size + 1 < wx.heap.size := h.2.2.lt
def rC (d : WdT) (c : ak) (deep : Int) : Bool := decide (deep ≤ 400 ∧ 1 ≤ c.kind ∧ c.kind ≤ 28 ∧ 0 ≤ c.line ∧ dw c.kind c.op ≤ c.kids.length ∧ (c.kids.length : Int) ≤ dx c.kind c.op) && fD d c.kind c.number
def zD (c : ak) : Bool := decide ((c.kind = 11 ∨ c.op = 0) ∧ (c.kind = 2 ∨ c.kind = 3 ∨ c.text.size = 0) ∧ c.text.size ≤ 128 ∧ (c.kind = 2 → c.text.size ≤ 120))
theorem LY {d : WdT} {c : ak} {loop made : Bool} {deep : Int} (h : rC d c deep = false) : jd d c loop made deep = false := by
 rw [Bool.eq_false_iff] at h ⊢
 intro hv
 apply h
 simp only [jd, Bool.and_eq_true, decide_eq_true_eq] at hv
 obtain ⟨hv, hd⟩ := hv
 have hn := ((fV d c loop made).1 hv).1
 simp only [iI, iT, Bool.and_eq_true, decide_eq_true_eq, Bool.or_eq_true] at hn
 have := c.uO
 simp only [rC, Bool.and_eq_true, decide_eq_true_eq]
 refine ⟨?_, hn.1.1.1.2⟩
 omega
theorem PU {s : ByteArray} (h : s.size = 0) : s.toList.isEmpty = true := by
 rw [ByteArray.toList_eq, List.isEmpty_iff]; exact List.eq_nil_of_length_eq_zero ((Array.length_toList (xs := s.data)).trans h)
theorem Ri {s : ByteArray} (h : ¬ s.size = 0) : s.toList.isEmpty = false := by
 rw [Bool.eq_false_iff, ByteArray.toList_eq, ne_eq, List.isEmpty_iff]
 intro hn
 exact h ((Array.length_toList (xs := s.data)).symm.trans (by rw [hn]; rfl))
theorem Fb {c : ak} (h1 : c.kind = 11 ∨ c.op = 0) (h2 : c.kind = 2 ∨ c.kind = 3 ∨ c.text.size = 0) (h3 : c.text.size ≤ 128) (h4 : c.kind = 2 → c.text.size ≤ 120) : zD c = true := dT ⟨h1, h2, h3, h4⟩
theorem Ra {c : ak} (h : ¬ ((c.kind = 11 ∨ c.op = 0) ∧ (c.kind = 2 ∨ c.kind = 3 ∨ c.text.size = 0) ∧ c.text.size ≤ 128 ∧ (c.kind = 2 → c.text.size ≤ 120))) : zD c = false := dF h
theorem LZ {d : WdT} {c : ak} {loop made : Bool} {deep : Int} (h : zD c = false) : jd d c loop made deep = false := by
 rw [Bool.eq_false_iff] at h ⊢
 intro hv
 apply h
 simp only [jd, Bool.and_eq_true] at hv
 have hn := ((fV d c loop made).1 hv.1).1
 simp only [iI, Bool.and_eq_true] at hn
 obtain ⟨⟨⟨⟨h1, -⟩, h3⟩, -⟩, -⟩ := hn
 simp only [iT, Bool.and_eq_true, decide_eq_true_eq, Bool.or_eq_true] at h1
 have h11 := h1.2
 unfold j4 at h3
 split at h3
 ·rename_i k
  have := of_decide_eq_true h3
  exact CQ
 split at h3
 ·have := uU h3
  exact CQ
 have := of_decide_eq_true h3
 exact CQ
theorem uq.alloc {w wx : World} {pc cc : Array Value} (h : uq w wx pc cc) (o : Obj) : uq w (wx.alloc o) pc cc := ⟨h.1.alloc h.1.size o, h.2.1.alloc o, h.2.2.alloc o⟩
theorem yc {d : WdT} {c : ak} {loop made : Bool} {deep : Int} (h : iI d c loop made = false) : jd d c loop made deep = false := by
 rw [jd, qE h]; rfl
theorem Bi {d : WdT} {c : ak} {loop made : Bool} {deep : Int} (ka : 3 ≤ c.kind) (kb : c.kind ≤ 3) (h : kQ c.text = false) : jd d c loop made deep = false := by
 refine yc ?_
 have k : c.kind = 3 := ah
 simp [iI, j4, k, h]
theorem Ir {d : WdT} {c : ak} {loop made : Bool} {deep : Int} (h : gF c loop made = false) : jd d c loop made deep = false := by
 refine yc ?_
 simp [iI, h]
theorem Ef {d : WdT} {c : ak} {loop made : Bool} {deep : Int} (h : bL c = false) : jd d c loop made deep = false := by
 refine yc ?_
 simp [iI, h]
theorem Gq {c : ak} {loop made : Bool} (h : c.kind = 20 ∨ c.kind = 21) : gF c loop made = loop := by
 have : ¬ (23 ≤ c.kind ∧ c.kind ≤ 25) := ah
 simp [gF, h, this]
theorem Iu {c : ak} {loop made : Bool} (ka : 23 ≤ c.kind) (kb : c.kind ≤ 25) : gF c loop made = !made := by
 have : ¬ (c.kind = 20 ∨ c.kind = 21) := ah
 simp [gF, ka, kb, this]
theorem E6 {c : ak} {loop made : Bool} (n20 : ¬ c.kind = 20) (n21 : ¬ c.kind = 21) (k : ¬ (23 ≤ c.kind ∧ c.kind ≤ 25)) : gF c loop made = true := by
 simp [gF, n20, n21, k]
theorem QF {d : WdT} {c : ak} {loop made : Bool} {deep : Int} (h1 : rC d c deep = true) (h2 : zD c = true) (h3 : c.kind = 3 → kQ c.text = true) (h4 : gF c loop made = true) (h5 : bL c = true) : iI d c loop made = true := by
 simp only [rC, Bool.and_eq_true, decide_eq_true_eq] at h1
 simp only [zD, decide_eq_true_eq] at h2
 simp only [iI, Bool.and_eq_true]
 refine ⟨⟨⟨⟨?_, h1.2⟩, ?_⟩, h4⟩, h5⟩
 ·simp only [iT, Bool.and_eq_true, decide_eq_true_eq, Bool.or_eq_true]
  omega
 unfold j4
 split
 ·rename_i k; exact dT (h2.2.2.2 k)
 split
 ·rename_i k; exact h3 k
 exact dT ah
theorem Ns {c kd : ak} (h : c.op = 79) (hk : c.kids[1]? = some kd) : bL c = (decide (kd.kind = 2) && bJ kd.text) := by
 simp [bL, h, hk]
theorem Nt {c kd : ak} (h : c.op = 81) (hk : c.kids[0]? = some kd) : bL c = decide (kd.kind = 5 ∨ kd.kind = 6) := by
 simp [bL, h, hk]
theorem Eg {c : ak} (h1 : ¬ c.op = 79) (h2 : ¬ c.op = 81) : bL c = true := by simp [bL, h1, h2]
theorem Nu {k : Int} (i : Nat) (loop : Bool) (h : k = 18 ∨ k = 19) : fH k i loop = decide (i = 1) := by simp [fH, h]
theorem QG {k : Int} (i : Nat) (loop : Bool) (h : ¬ (k = 18 ∨ k = 19)) : fH k i loop = (loop && !decide (k = 20 ∨ k = 26)) := by
 rw [fH, if_neg h]
 split
 ·rename_i hk; rw [dT hk]; simp
 rename_i hk; rw [dF hk]; simp
theorem Nv {l : List ak} {x : ak} (h : x ∈ l) : x.depth ≤ gI l := by
 induction l with
 | nil => cases h
 | cons c l ih =>
   simp only [gI]
   exact yJ
theorem Iv {l : List ak} {n : Nat} (h : ∀ x ∈ l, x.depth ≤ n) : gI l ≤ n := by
 induction l with
 | nil => simp [gI]
 | cons c l ih =>
   have h1 := h c List.mem_cons_self
   have h2 := ih fun x hx => h x (List.mem_cons_of_mem _ hx)
   simp only [gI]; omega
theorem Eh {d : WdT} {c kd : ak} {loop made : Bool} {deep : Int} {j : Nat} (hk : c.kids[j]? = some kd) (h : jd d kd (fH c.kind j loop) (made || decide (c.kind = 26)) (deep + 1) = false) : jd d c loop made deep = false := by
 rw [Bool.eq_false_iff] at h ⊢
 intro hv
 apply h
 simp only [jd, Bool.and_eq_true, decide_eq_true_eq] at hv ⊢
 refine ⟨((fV d c loop made).1 hv.1).2 j kd hk, ?_⟩
 have := c.uO
 have := Nv (mG hk)
 omega
theorem Bj {d : WdT} {c kd : ak} {loop made : Bool} {deep : Int} {k : Nat} (hgo : ∀ j y, j < k → c.kids[j]? = some y → jd d y (fH c.kind j loop) (made || decide (c.kind = 26)) (deep + 1) = true) (hk : c.kids[k]? = some kd) (h : jd d kd (fH c.kind k loop) (made || decide (c.kind = 26)) (deep + 1) = true) :
 ∀ j y, j < k + 1 → c.kids[j]? = some y → jd d y (fH c.kind j loop) (made || decide (c.kind = 26)) (deep + 1) = true := by
 intro j y hj hy
 by_cases e : j = k
 ·subst e; rw [hk] at hy; injection hy with hy; subst hy; exact h
 exact hgo j y ah hy
theorem Nw {d : WdT} {c : ak} {loop made : Bool} {deep : Int} (hn : iI d c loop made = true) (hgo : ∀ j y, j < c.kids.length → c.kids[j]? = some y → jd d y (fH c.kind j loop) (made || decide (c.kind = 26)) (deep + 1) = true) (hd : deep ≤ 400) : jd d c loop made deep = true := by
 have hg : ∀ j y, c.kids[j]? = some y → dW d y (fH c.kind j loop) (made || decide (c.kind = 26)) = true ∧ deep + 1 + (y.depth : Int) ≤ 401 := fun j y hy => by
  have := hgo j y (List.getElem?_eq_some_iff.1 hy).1 hy
  simpa only [jd, Bool.and_eq_true, decide_eq_true_eq] using this
 simp only [jd, Bool.and_eq_true, decide_eq_true_eq]
 refine ⟨(fV d c loop made).2 ⟨hn, fun j y hy => (hg j y hy).1⟩, ?_⟩
 have := c.uO
 have : gI c.kids ≤ (400 - deep).toNat := Iv fun y hy => by
  obtain ⟨j, hj⟩ := List.getElem?_of_mem hy
  have := (hg j y hj).2
  omega
 omega
theorem AX (d : WdT) (q1 : d.slots ≤ 34359738368) (q2 : d.globals ≤ 34359738368) (q3 : d.au ≤ 34359738368) (q4 : d.records ≤ 34359738368) (c : ak) (H : ∀ x ∈ c.kids, Iq d x) : Iq d c := by
 intro A1 A2 A3 c1 c2 c3 m x loop made deep w lo hi h hhi hbk hd1 hd2
 obtain ⟨A, cap, rfl, hk, hc1, hc2⟩ := h.form
 unfold maxLen at hc2
 have HH := lH H
 clear H
 go_in
 go_wp2_with fail
 refine (Qv _ c _ lo hi ((h.alloc hhi _).alloc aJ _)).mono ?_; rintro e w1 ⟨rfl, hb1⟩
 have hf1 := (uq.new w (aP A1 d.au c1 A2 d.records c2 A3 d.globals c3 m) (aB c.kind c.op c.number c.line c.text A c.kids.length cap)).later hb1
 clear hb1
 have hz1 := hf1.size
 have ca := hf1.2.1.cell
 have cb := hf1.2.2.cell
 go_upto_region 2 with fail
 go_cut [61] (fun v wx => v = .bool (!rC d c deep) ∧ uq w wx (aP A1 d.au c1 A2 d.records c2 A3 d.globals c3 m) (aB c.kind c.op c.number c.line c.text A c.kids.length cap))
 case first =>
  by_cases e0 : 400 < deep
  rotate_left
  by_cases e1 : c.kind < 1
  rotate_left
  by_cases e2 : 28 < c.kind
  rotate_left
  by_cases e3 : c.line < 0
  rotate_left
  by_cases e4 : (c.kids.length : Int) < dw c.kind c.op
  rotate_left
  by_cases e5 : dx c.kind c.op < (c.kids.length : Int)
  rotate_left
  rotate_right 6
  iterate 6 focus
   as_aux_lemma =>
    go_wp2_with fail
    go_meet
    exact ⟨congrArg Value.bool (by simp [rC]; omega), hf1⟩
  as_aux_lemma =>
   go_wp2_with fail
   refine (GV d A1 A2 A3 c1 c2 c3 m _ c _ lo hi (h.below hf1.1 hhi) q1 q2 q3 q4).mono ?_; rintro e w2 ⟨rfl, hb2⟩
   clear ca cb
   go_wp2_with fail
   go_meet
   exact ⟨congrArg Value.bool (by simp [rC]; omega), hf1.later hb2⟩
 obtain ⟨rfl, hf2⟩ := hcut
 clear ca cb hf1 hz1
 have hz2 := hf2.size
 have ca := hf2.2.1.cell
 have cb := hf2.2.2.cell
 cases hH : rC d c deep with
 | false =>
   as_aux_lemma =>
    go_wp2_with fail
    go_ret
    exact ⟨bD (LY hH).symm, hf2.1⟩
 | true =>
 have g1 : deep ≤ 400 := by simp [rC] at hH; omega
 have g2 : 1 ≤ c.kind := by simp [rC] at hH; omega
 have g3 : c.kind ≤ 28 := by simp [rC] at hH; omega
 have g4 : 0 ≤ c.line := by simp [rC] at hH; omega
 have g5 : dw c.kind c.op ≤ c.kids.length := by simp [rC] at hH; omega
 have g6 : (c.kids.length : Int) ≤ dx c.kind c.op := by simp [rC] at hH; omega
 have HL := lH hH
 clear hH
 go_upto_region 4 with fail
 go_cut [101] (fun v wx => v = .bool (!zD c) ∧ wx = wc)
 case first =>
  by_cases k : c.kind = 11
  ·have n11 : c.kind = 11 := k
   clear n11
   have f11 : (c.kind != 11) = false := by simp [k]
   have f2 : (c.kind != 2) = true := aJ
   have f3 : (c.kind != 3) = true := aJ
   have e2 : (c.kind == 2) = false := aJ
   have ka : 11 ≤ c.kind := ah
   have kb : c.kind ≤ 11 := ah
   clear k
   exact J2
  have n11 : ¬ c.kind = 11 := k
  clear k
  by_cases k : c.kind = 2
  ·have n2 : c.kind = 2 := k
   clear n2
   have f11 : (c.kind != 11) = true := aJ
   have f2 : (c.kind != 2) = false := by simp [k]
   have f3 : (c.kind != 3) = true := aJ
   have e2 : (c.kind == 2) = true := by simp [k]
   have ka : 2 ≤ c.kind := ah
   have kb : c.kind ≤ 2 := ah
   clear k
   by_cases o0 : c.op = 0
   ·have f0 : (c.op != 0) = false := by simpa using o0
    have oa : 0 ≤ c.op := ah
    have ob : c.op ≤ 0 := ah
    clear o0
    by_cases s1 : 128 < c.text.size
    rotate_left
    by_cases s2 : 120 < c.text.size
    rotate_left
    rotate_right 2
    iterate 2 focus
     as_aux_lemma =>
      exact yF
    exact Gd
   exact Ki
  have n2 : ¬ c.kind = 2 := k
  clear k
  by_cases k : c.kind = 3
  ·have n3 : c.kind = 3 := k
   clear n3
   have f11 : (c.kind != 11) = true := aJ
   have f2 : (c.kind != 2) = true := aJ
   have f3 : (c.kind != 3) = false := by simp [k]
   have e2 : (c.kind == 2) = false := aJ
   have ka : 3 ≤ c.kind := ah
   have kb : c.kind ≤ 3 := ah
   clear k
   by_cases o0 : c.op = 0
   ·have f0 : (c.op != 0) = false := by simpa using o0
    have oa : 0 ≤ c.op := ah
    have ob : c.op ≤ 0 := ah
    clear o0
    by_cases s1 : 128 < c.text.size
    ·as_aux_lemma =>
      exact yF
    exact Gd
   exact Ki
  have n3 : ¬ c.kind = 3 := k
  clear k
  have f11 : (c.kind != 11) = true := by simpa using n11
  have f2 : (c.kind != 2) = true := by simpa using n2
  have f3 : (c.kind != 3) = true := by simpa using n3
  have e2 : (c.kind == 2) = false := by simpa using n2
  by_cases o0 : c.op = 0
  ·have f0 : (c.op != 0) = false := by simpa using o0
   have oa : 0 ≤ c.op := ah
   have ob : c.op ≤ 0 := ah
   clear o0
   exact J2
  have f0 : (c.op != 0) = true := by simpa using o0
  as_aux_lemma =>
   exact yF
 obtain ⟨rfl, rfl⟩ := hcut
 cases hT : zD c with
 | false =>
   as_aux_lemma =>
    go_wp2_with fail
    go_ret
    exact ⟨bD (LZ hT).symm, hf2.1⟩
 | true =>
 have HT := lH hT
 have ht8 : c.text.size ≤ 128 := by simp only [zD, decide_eq_true_eq] at hT; omega
 clear hT
 go_upto_if 104 with fail
 go_cut [] (fun wx => Hid (c.kind = 3 → kQ c.text = true) ∧ uq w wx (aP A1 d.au c1 A2 d.records c2 A3 d.globals c3 m) (aB c.kind c.op c.number c.line c.text A c.kids.length cap))
 case first =>
  by_cases k : c.kind = 3
  ·have e3 : (c.kind == 3) = true := by simp [k]
   have ka : 3 ≤ c.kind := ah
   have kb : c.kind ≤ 3 := ah
   clear k
   go_wp2_with fail
   refine (sZ c.text _ ah).mono ?_; unfold Db; rintro e w3 ⟨rfl, hb3⟩
   have hf3 := hf2.later hb3
   have hz3 := hf3.size
   clear ca cb
   have ca := hf3.2.1.cell
   have cb := hf3.2.2.cell
   have hX := Blk.newAt w3 110 (aL ((bH c.text).lo.toInt) ((bH c.text).hi.toInt)) w3.heap.size rfl
   have hf4 := hf3.alloc (.cells (aL ((bH c.text).lo.toInt) ((bH c.text).hi.toInt)) 110)
   cases hA : jl c.text with
   | false =>
     have HN := lH (MH hA)
     clear hA
     as_aux_lemma =>
      unfold cB.val
      go_wp2_with fail
      go_quiet (fail)
      go_wp2_with fail
      go_ret
      exact ⟨bD (Bi ka kb HN.out).symm, (hf4.drewN _).1⟩
   | true =>
     have HS := lH (P8 c.text hA)
     clear hA ca cb
     as_aux_lemma =>
      unfold cB.val
      go_wp2_with fail
      generalize hW : (w3.alloc (.cells (aL ((bH c.text).lo.toInt) ((bH c.text).hi.toInt)) 110)) = W0 at *
      clear hW
      have cx := hX.cell
      have cc := hf4.2.2.cell
      have y1 : w3.heap.size < W0.drew.heap.size := hX.lt
      have y2 : w.heap.size + 1 < W0.drew.heap.size := hf4.size
      by_cases hs : dN (bH c.text) = c.text
      ·have HY : Hid (kQ c.text = true) := HS.out.1 hs
       have se := str_eq c.text
       have HQ := lH hs
       clear hs
       go_region_held3 (fun w' => (∀ i, w'.cell? (aj w3.heap.size i) = (aL ((bH c.text).lo.toInt) ((bH c.text).hi.toInt) : Array Value)[i]?) ∧ (∀ i, w'.cell? (aj (w.heap.size + 1) i) = (aB c.kind c.op c.number c.line c.text A c.kids.length cap : Array Value)[i]?))
        (first | exact ⟨cx, cc⟩ | exact ⟨fun i => (hbA.cell (p := ⟨_, i, none⟩) y1).trans (cx i), fun i => (hbA.cell (p := ⟨_, i, none⟩) y2).trans (cc i)⟩)
        ((go_at_call 75; refine (oU (bH c.text) _).mono ?_; rw [HQ.out]; rintro e wA ⟨rfl, hbA⟩))
       go_wp2_with fail
       go_meet
       exact ⟨fun _ => HY.out, (hf4.drewN 1).later hbA⟩
      have HN : Hid (kQ c.text = false) := lH (by rw [Bool.eq_false_iff]; intro e; exact hs (HS.out.2 e))
      have se := GD hs
      clear hs
      go_region_held3 (fun w' => (∀ i, w'.cell? (aj w3.heap.size i) = (aL ((bH c.text).lo.toInt) ((bH c.text).hi.toInt) : Array Value)[i]?) ∧ (∀ i, w'.cell? (aj (w.heap.size + 1) i) = (aB c.kind c.op c.number c.line c.text A c.kids.length cap : Array Value)[i]?))
       (first | exact ⟨cx, cc⟩ | exact ⟨fun i => (hbA.cell (p := ⟨_, i, none⟩) y1).trans (cx i), fun i => (hbA.cell (p := ⟨_, i, none⟩) y2).trans (cc i)⟩)
       ((go_at_call 75; refine (oU (bH c.text) _).mono ?_; rintro e wA ⟨rfl, hbA⟩))
      go_wp2_with fail
      go_ret
      exact ⟨bD (Bi ka kb HN.out).symm, ((hf4.drewN 1).later hbA).1⟩
  have e3 : (c.kind == 3) = false := by simpa using k
  as_aux_lemma =>
   go_wp2_with fail
   go_meet
   exact ⟨fun h => absurd h k, hf2⟩
 obtain ⟨HC, hf3⟩ := hcut
 clear ca cb hf2 hz2
 have hf2 := hf3
 clear hf3
 have hz2 := hf2.size
 have ca := hf2.2.1.cell
 have cb := hf2.2.2.cell
 go_upto_region 10 with fail
 go_cut [144] (fun v wx => v = .bool (!gF c loop made) ∧ wx = wc)
 case first =>
  by_cases k : c.kind = 20
  ·have k' := k
   clear k'
   have e20 : (c.kind == 20) = true := by simp [k]
   have e21 : (c.kind == 21) = false := aJ
   have ka : 20 ≤ c.kind := ah
   have kb : c.kind ≤ 20 := ah
   exact J6
  have n20 : ¬ c.kind = 20 := k
  clear k
  by_cases k : c.kind = 21
  ·have k' := k
   clear k'
   have e20 : (c.kind == 20) = false := aJ
   have e21 : (c.kind == 21) = true := by simp [k]
   have ka : 21 ≤ c.kind := ah
   have kb : c.kind ≤ 21 := ah
   exact J6
  have n21 : ¬ c.kind = 21 := k
  clear k
  have e20 : (c.kind == 20) = false := by simpa using n20
  have e21 : (c.kind == 21) = false := by simpa using n21
  by_cases k : 23 ≤ c.kind ∧ c.kind ≤ 25
  ·obtain ⟨ka, kb⟩ := k
   have HP := lH (Iu (loop := loop) (made := made) ka kb)
   cases made with
   | false =>
     exact BP
   | true =>
     exact BP
  have HP := lH (E6 (loop := loop) (made := made) n20 n21 k)
  by_cases k1 : 23 ≤ c.kind
  have k2 : 25 < c.kind := ah
  clear k
  rotate_left
  clear k
  iterate 2 focus
   as_aux_lemma =>
    exact IW
 obtain ⟨rfl, rfl⟩ := hcut
 cases hP : gF c loop made with
 | false =>
   as_aux_lemma =>
    go_wp2_with fail
    go_ret
    exact ⟨bD (Ir hP).symm, hf2.1⟩
 | true =>
 have HP := lH hP
 clear hP
 go_upto_region 12 with fail
 go_cut [195] (fun v wx => v = .bool (!bL c) ∧ uq w wx (aP A1 d.au c1 A2 d.records c2 A3 d.globals c3 m) (aB c.kind c.op c.number c.line c.text A c.kids.length cap))
 case first =>
  by_cases k : c.kind = 11
  ·have e11 : (c.kind == 11) = true := by simp [k]
   have ha := sV (op := c.op) k
   rw [ha.1] at g5
   clear ha k
   by_cases o79 : c.op = 79
   ·have hlt : 1 < c.kids.length := by rw [o79] at g5; have : dH 79 = 2 := aA; omega
    obtain ⟨g, off, kd, B, dd, rfl, hg1, hg2, hkd, hmem, hrep, c0, c1', c2', c3', c4, c5'⟩ := (hk.below hf2.1 hhi).kid hlt
    have HV := lH (Ns o79 hkd)
    have e79 : (c.op == 79) = true := by simp [o79]
    have e81 : (c.op == 81) = false := by simp [o79]
    have hlt2 : (1 : Int) < (c.kids.length : Int) := ah
    rw [Nat.one_mul] at c0 c4
    clear o79 hkd c1' c2' c3' c5' hrep hmem
    by_cases k2 : kd.kind = 2
    ·have f2 : (kd.kind != 2) = false := by simp [k2]
     have HK : Hid (decide (kd.kind = 2) = true) := dT k2
     clear k2
     as_aux_lemma =>
      go_wp2_with fail
      refine (iH kd.text _).mono ?_; rintro e w3 ⟨rfl, hb3⟩
      have hf3 := hf2.later hb3
      clear c0 c4 ca cb
      have ca := hf3.2.1.cell
      have cb := hf3.2.2.cell
      cases hN : bJ kd.text with
      | false =>
        have HW : Hid (bL c = false) := lH Ck
        exact Jv
      | true =>
        have HW : Hid (bL c = true) := lH Ck
        exact Jv
    have f2 : (kd.kind != 2) = true := by simpa using k2
    have HW : Hid (bL c = false) := lH (by rw [HV.out, dF k2]; rfl)
    clear k2
    as_aux_lemma =>
     exact BX
   have e79 : (c.op == 79) = false := by simpa using o79
   by_cases o81 : c.op = 81
   ·have hlt : 0 < c.kids.length := by rw [o81] at g5; have : dH 81 = 1 := aA; omega
    obtain ⟨g, off, kd, B, dd, rfl, hg1, hg2, hkd, hmem, hrep, c0, c1', c2', c3', c4, c5'⟩ := (hk.below hf2.1 hhi).kid hlt
    have HV := lH (Nt o81 hkd)
    have e81 : (c.op == 81) = true := by simp [o81]
    have hlt2 : (0 : Int) < (c.kids.length : Int) := ah
    rw [Nat.zero_mul, Nat.add_zero] at c0
    clear o79 o81 hkd c1' c2' c3' c4 c5' hrep hmem
    by_cases k5 : kd.kind = 5
    have f5 : (kd.kind != 5) = false := by simp [k5]
    have HW : Hid (bL c = true) := lH Cn
    clear k5
    rotate_left
    have f5 : (kd.kind != 5) = true := by simpa using k5
    by_cases k6 : kd.kind = 6
    have f6 : (kd.kind != 6) = false := by simp [k6]
    have HW : Hid (bL c = true) := lH Cn
    clear k6
    rotate_left
    have f6 : (kd.kind != 6) = true := by simpa using k6
    have HW : Hid (bL c = false) := lH (by rw [HV.out]; exact dF ah)
    clear k5 k6
    iterate 3 focus
     as_aux_lemma =>
      exact BX
   have e81 : (c.op == 81) = false := by simpa using o81
   have HW := lH (Eg o79 o81)
   clear o79 o81
   as_aux_lemma =>
    exact BX
  have e11 : (c.kind == 11) = false := by simpa using k
  have HW : Hid (bL c = true) := by have := HT.out; simp only [zD, decide_eq_true_eq] at this; exact Eg ah ah
  as_aux_lemma =>
   exact BX
 obtain ⟨rfl, hf3⟩ := hcut
 clear ca cb hf2 hz2
 have hf2 := hf3
 clear hf3
 have hz2 := hf2.size
 have ca := hf2.2.1.cell
 have cb := hf2.2.2.cell
 cases hS : bL c with
 | false =>
   as_aux_lemma =>
    go_wp2_with fail
    go_ret
    exact ⟨bD (Ef hS).symm, hf2.1⟩
 | true =>
 have HN : Hid (iI d c loop made = true) := QF HL.out HT.out HC.out HP.out hS
 clear hS HL HT HC HP
 go_wp2_with fail
 go_loopw [17] (fun i wr => ∃ k : Nat, k ≤ c.kids.length ∧ i = .int i64 k ∧ Hid (∀ j y, j < k → c.kids[j]? = some y → jd d y (fH c.kind j loop) (made || decide (c.kind = 26)) (deep + 1) = true) ∧ uq w wr (aP A1 d.au c1 A2 d.records c2 A3 d.globals c3 m) (aB c.kind c.op c.number c.line c.text A c.kids.length cap)) (fun i _ => c.kids.length - (intOf i).toNat)
 case atStart => exact ⟨0, nZ _, rfl, (fun j y hj => absurd hj ah), hf2⟩
 clear ca cb hf2 hz2
 obtain ⟨kk, hk', rfl, hgo, hf⟩ := hrel
 obtain ⟨wo, rfl⟩ := nW wr
 have hz := hf.size
 have ca := hf.2.1.cell
 have cb := hf.2.2.cell
 by_cases hlt : kk < c.kids.length
 ·obtain ⟨g, off, kd, B, dd, rfl, hg1, hg2, hkd, hmem, hrep, k0, k1, k2, k3, k4, k5⟩ := (hk.below hf.1 hhi).kid hlt
  have HS := lH (HH.out kd hmem)
  have hbm := qo hmem
  have HK := lH hkd
  have HM := lH hrep
  clear hkd hmem hrep
  go_upto_region 17 with fail
  go_cut [18] from 196 to 241 (fun v wx => v = .bool (loop && !decide (c.kind = 20 ∨ c.kind = 26)) ∧ wx = wo)
  case first =>
   cases loop with
   | false =>
     as_aux_lemma =>
      exact yM
   | true =>
   by_cases k : c.kind = 20
   have k' := k
   clear k'
   have HD : Hid (decide (c.kind = 20 ∨ c.kind = 26) = true) := dT ah
   have f20 : (c.kind != 20) = false := by simp [k]
   have f26 : (c.kind != 26) = true := aJ
   have ka : 20 ≤ c.kind := ah
   have kb : c.kind ≤ 20 := ah
   clear k
   rotate_left
   have n20 : ¬ c.kind = 20 := k
   clear k
   by_cases k : c.kind = 26
   have k' := k
   clear k'
   have HD : Hid (decide (c.kind = 20 ∨ c.kind = 26) = true) := dT ah
   have f20 : (c.kind != 20) = true := aJ
   have f26 : (c.kind != 26) = false := by simp [k]
   have ka : 26 ≤ c.kind := ah
   have kb : c.kind ≤ 26 := ah
   clear k
   rotate_left
   have n26 : ¬ c.kind = 26 := k
   clear k
   have HD : Hid (decide (c.kind = 20 ∨ c.kind = 26) = false) := dF ah
   have f20 : (c.kind != 20) = true := by simpa using n20
   have f26 : (c.kind != 26) = true := by simpa using n26
   iterate 3 focus
    as_aux_lemma =>
     go_wp2_with fail
     go_meet
     exact ⟨congrArg Value.bool (by rw [HD.out]; rfl), rfl⟩
  obtain ⟨rfl, rfl⟩ := hcut
  go_upto_region 18 with fail
  go_cut [221] from 222 to 241 (fun v wx => v = .bool (decide (c.kind = 18 ∨ c.kind = 19)) ∧ wx = wc)
  case first =>
   by_cases k : c.kind = 18
   have k' := k
   clear k'
   have HD : Hid (decide (c.kind = 18 ∨ c.kind = 19) = true) := dT ah
   have e18 : (c.kind == 18) = true := by simp [k]
   have e19 : (c.kind == 19) = false := aJ
   have ka : 18 ≤ c.kind := ah
   have kb : c.kind ≤ 18 := ah
   clear k
   rotate_left
   have n18 : ¬ c.kind = 18 := k
   clear k
   by_cases k : c.kind = 19
   have k' := k
   clear k'
   have HD : Hid (decide (c.kind = 18 ∨ c.kind = 19) = true) := dT ah
   have e18 : (c.kind == 18) = false := aJ
   have e19 : (c.kind == 19) = true := by simp [k]
   have ka : 19 ≤ c.kind := ah
   have kb : c.kind ≤ 19 := ah
   clear k
   rotate_left
   have n19 : ¬ c.kind = 19 := k
   clear k
   have HD : Hid (decide (c.kind = 18 ∨ c.kind = 19) = false) := dF ah
   have e18 : (c.kind == 18) = false := by simpa using n18
   have e19 : (c.kind == 19) = false := by simpa using n19
   iterate 3 focus
    as_aux_lemma =>
     go_wp2_with fail
     go_meet
     exact ⟨congrArg Value.bool (by rw [HD.out]), rfl⟩
  obtain ⟨rfl, rfl⟩ := hcut
  go_upto_if 221 with fail
  go_cut [18] from 221 to 241 (fun v wx => v = .bool (fH c.kind kk loop) ∧ wx = wc)
  case first =>
   by_cases k : c.kind = 18 ∨ c.kind = 19
   ·have HI := lH (Nu kk loop k)
    rw [dT k]
    clear k
    as_aux_lemma =>
     go_wp2_with fail
     go_meet
     exact ⟨congrArg Value.bool (by rw [HI.out]; rw [Bool.eq_iff_iff]; simp; omega), rfl⟩
   have HI := lH (QG kk loop k)
   rw [dF k]
   clear k
   as_aux_lemma =>
    go_wp2_with fail
    go_meet
    exact ⟨congrArg Value.bool HI.out.symm, rfl⟩
  obtain ⟨rfl, rfl⟩ := hcut
  have y1 : hi ≤ wc.drew.heap.size := nT hhi hf.1.size
  have y2 : w.heap.size < wc.drew.heap.size := hf.2.1.lt
  have y3 : w.heap.size + 1 < wc.drew.heap.size := hf.2.2.lt
  have e0 : (0 : Int) ≤ (kk : Int) := ah
  have e8 : (kk : Int) < (c.kids.length : Int) := ah
  have kbk : kd.bI ≤ 34359738368 := by have := c.kX; omega
  have x1 : 1 ≤ deep + 1 := ah
  have x2 : deep + 1 ≤ 401 := ah
  have ws : IntKind.i64.wrap (deep + 1) = deep + 1 := IntWalk.i64_in _ ah
  cases made with
  | true =>
    as_aux_lemma =>
     obtain ⟨r, hr⟩ : ∃ r, jd d kd (fH c.kind kk loop) (true || decide (c.kind = 26)) (deep + 1) = r := ⟨_, rfl⟩
     have HR := lH hr
     clear hr
     go_wp2_with fail
     go_still_tail 16, aI
     change wpList _ _ _ _ _ wc.drew
     have hmr := HM.out.same (Same.refl wc).drew
     go_wp2_with fail
     refine (HS.out A1 A2 A3 c1 c2 c3 m _ (fH c.kind kk loop) (true || decide (c.kind = 26)) (deep + 1) _ lo hi hmr y1 kbk x1 x2).mono ?_
     rw [HR.out]
     rintro e wA ⟨rfl, hbA⟩
     have hf3 := (hf.drewN 1).later hbA
     clear ca cb k0 k1 k2 k3 k4 k5 ws hmr hbA
     cases r with
     | false =>
       have HV := lH (Eh (made := true) HK.out HR.out)
       exact JA
     | true =>
       have HG := lH (Bj (made := true) hgo.out HK.out HR.out)
       exact Ow
  | false =>
    as_aux_lemma =>
     obtain ⟨r, hr⟩ : ∃ r, jd d kd (fH c.kind kk loop) (false || decide (c.kind = 26)) (deep + 1) = r := ⟨_, rfl⟩
     have HR := lH hr
     clear hr
     go_wp2_with fail
     go_still_tail 16, aI
     change wpList _ _ _ _ _ wc.drew
     have hmr := HM.out.same (Same.refl wc).drew
     go_wp2_with fail
     refine (HS.out A1 A2 A3 c1 c2 c3 m _ (fH c.kind kk loop) (false || decide (c.kind = 26)) (deep + 1) _ lo hi hmr y1 kbk x1 x2).mono ?_
     rw [HR.out]
     rintro e wA ⟨rfl, hbA⟩
     have hf3 := (hf.drewN 1).later hbA
     clear ca cb k0 k1 k2 k3 k4 k5 ws hmr hbA
     cases r with
     | false =>
       have HV := lH (Eh (made := false) HK.out HR.out)
       exact JA
     | true =>
       have HG := lH (Bj (made := false) hgo.out HK.out HR.out)
       exact Ow
 obtain rfl : kk = c.kids.length := by omega
 have HV := lH (Nw HN.out hgo.out g1)
 exact Jy
theorem E7 (d : WdT) (q1 : d.slots ≤ 34359738368) (q2 : d.globals ≤ 34359738368) (q3 : d.au ≤ 34359738368) (q4 : d.records ≤ 34359738368) (c : ak) : Iq d c := ak.ind (AX d q1 q2 q3 q4) c
end
end Go.Proofs.YthbcamfejgghhaaGreatDoor
