/- foldCore of the program. -/
import Derived.Test.YtjeomamdlmoghaaGreatDoorQ00
import Derived.Test.YtjeomamdlmoghaaGreatDoorQSq
import Derived.Test.YtjeomamdlmoghaaGreatDoorQ28
set_option maxRecDepth 100000
set_option maxHeartbeats 8000000
set_option linter.unusedVariables false
set_option linter.unusedSimpArgs false
section
namespace Go.Proofs.YtjeomamdlmoghaaGreatDoor
open Go.RowKit
def FoldOk (c : CoreT) : Prop := ∀ (A : Option Addr) (n : Nat) (w : World) (lo hi : Nat) (h : LRep w lo hi 6 CoreT.dats (.slice A c.kids.length n) c.kids) (hhi : hi ≤ w.heap.size) (hc : FoldC c) (hbk : c.bulk ≤ 1048576) (hst : SpaceTab w) (ht : PowTab w),
 Calls Tryz.prog 22 #[.agg #[.int .i64 c.kind, .int .i64 c.op, .int .i64 c.number, .int .i64 c.line, .string c.text, .slice A c.kids.length n]] w (MadeS CoreT.dats (foldT c) w)
theorem foldMap_next {l : List CoreT} {k : Nat} {x : CoreT} (h : l[k]? = some x) : (l.take (k + 1)).map foldT = (l.take k).map foldT ++ [foldT x] := by rw [take_snoc_of h, List.map_append]; rfl
theorem OwnP.lrep {w : World} {P : Nat → Prop} {lo hi : Nat} {l : List CoreT} {v : Value} (h : OwnP w P [.row 6 l.length (flat CoreT.dats l)] [v]) (hp : ∀ g, P g → lo ≤ g ∧ g < hi) : LRep w lo hi 6 CoreT.dats v l := by
 obtain ⟨F, h1, h2, h3⟩ := h
 obtain ⟨F1, F2, v', vs', rfl, hv, h4, h5⟩ := h1.out
 injection hv with hv1 hv2
 subst hv1 hv2
 exact h4.rep fun g hg => hp g (h3 g (List.mem_append_left _ hg))
theorem own_leaf {w : World} {P : Nat → Prop} {y : CoreT} (h : y.kids = []) : OwnP w P y.dats [Value.int .i64 y.kind, .int .i64 y.op, .int .i64 y.number, .int .i64 y.line, .string y.text, .slice none 0 0] := by
 have H : OwnVs w [.int .i64 y.kind, .int .i64 y.op, .int .i64 y.number, .int .i64 y.line, .str y.text, .row 6 0 []] [] [Value.int .i64 y.kind, .int .i64 y.op, .int .i64 y.number, .int .i64 y.line, .string y.text, .slice none 0 0] := OwnVs.cons_ (F1 := []) .mkInt (OwnVs.cons_ (F1 := []) .mkInt (OwnVs.cons_ (F1 := []) .mkInt (OwnVs.cons_ (F1 := []) .mkInt (OwnVs.cons_ (F1 := []) .mkStr (OwnVs.cons_ (F1 := []) OwnV.nilRow .nil_)))))
 exact ⟨[], by rw [CoreT.dats_g, h]; exact H, List.nodup_nil, by simp⟩
theorem foldOp_leaf {c : CoreT} (h : foldsB c = true) : (foldOp c).kids = [] := by
 have ha : c.kids.all litB = true := by unfold foldsB at h; simp only [Bool.and_eq_true] at h; exact h.1
 rw [folds_eq ha] at h
 by_cases k : (opR c).2 = -1
 ·rw [foldOp_none ha k]; rfl
 ·have k0 : (opR c).2 = 0 := by simpa [k] using h
  rw [foldOp_lit ha k0]
  cases (opR c).1 <;> rfl
theorem foldNode_11 {c : CoreT} (h : c.kind = 11) : foldNode c = foldOp c := by unfold foldNode; rw [if_pos h]
theorem foldNode_13 {c : CoreT} (h : c.kind = 13) : foldNode c = foldAlt c := by unfold foldNode; rw [if_neg (by omega), if_pos h]
theorem foldNode_16 {c : CoreT} (h : c.kind = 16) : foldNode c = foldBlock c := by unfold foldNode; rw [if_neg (by omega), if_neg (by omega), if_pos h]
theorem foldNode_17 {c : CoreT} (h : c.kind = 17) : foldNode c = foldIf c := by unfold foldNode; rw [if_neg (by omega), if_neg (by omega), if_neg (by omega), if_pos h]
theorem foldNode_no {c : CoreT} (h1 : ¬ c.kind = 11) (h2 : ¬ c.kind = 13) (h3 : ¬ c.kind = 16) (h4 : ¬ c.kind = 17) : foldNode c = c := by unfold foldNode; rw [if_neg h1, if_neg h2, if_neg h3, if_neg h4]
theorem foldCore_of (c : CoreT) (H : ∀ x ∈ c.kids, FoldOk x) : FoldOk c := by
 intro A n w lo hi hk hhi hfc hbk hst ht
 obtain ⟨A', n', hv, hc1, hc2⟩ := hk.shape
 injection hv with hv1 hv2 hv3
 subst hv1 hv3
 unfold maxLen at hc2
 have HH := Lib.hid H
 have HFC := Lib.hid hfc
 rw [CoreT.bulk_eq] at hbk
 have hb1 : c.kids.length ≤ 1048576 := by omega
 have HBK : Hid (∀ x ∈ c.kids, x.bulk ≤ 1048576) := fun x hx => by have := bulk_mem hx; omega
 clear H hfc hbk hv2
 obtain ⟨bk, br, B0⟩ := boxes2 w 45 #[.int .i64 c.kind, .int .i64 c.op, .int .i64 c.number, .int .i64 c.line, .string c.text, .slice A c.kids.length n] 45 #[.int .i64 0, .int .i64 0, .int .i64 0, .int .i64 0, .string ⟨#[]⟩, .slice none 0 0]
 go_enter Tryz.func22, Tryz.ntmps22
 go_wp2_with fail
 have own0 := World.ownsRow_made (base := w.heap.size + 2) (e := 45) (size := 6) ((w.alloc (.cells #[.int .i64 c.kind, .int .i64 c.op, .int .i64 c.number, .int .i64 c.line, .string c.text, .slice A c.kids.length n] 45)).alloc (.cells #[.int .i64 0, .int .i64 0, .int .i64 0, .int .i64 0, .string ⟨#[]⟩, .slice none 0 0] 45)) #[] 0 (by simp) (by unfold maxLen; omega) rfl
 have B1 : Below w.heap.size w (((w.alloc (.cells #[.int .i64 c.kind, .int .i64 c.op, .int .i64 c.number, .int .i64 c.line, .string c.text, .slice A c.kids.length n] 45)).alloc (.cells #[.int .i64 0, .int .i64 0, .int .i64 0, .int .i64 0, .string ⟨#[]⟩, .slice none 0 0] 45)).alloc (.cells #[] 45)) := B0.alloc (by simp; omega) _
 have P0 : Hid (Grow (w.heap.size + 2) 45 6 CoreT.dats (((w.alloc (.cells #[.int .i64 c.kind, .int .i64 c.op, .int .i64 c.number, .int .i64 c.line, .string c.text, .slice A c.kids.length n] 45)).alloc (.cells #[.int .i64 0, .int .i64 0, .int .i64 0, .int .i64 0, .string ⟨#[]⟩, .slice none 0 0] 45)).alloc (.cells #[] 45)) ((c.kids.take 0).map foldT) (.slice (some ⟨w.heap.size + 2, 0, none⟩) 0 0) []) := Grow.start (by simpa using own0)
 have bk0 := bk.alloc (.cells #[] 45)
 have br0 := br.alloc (.cells #[] 45)
 clear own0 bk br B0
 go_loopw [3, 10] (fun v i wr => ∃ (k : Nat) (vs : List Value), k ≤ c.kids.length ∧ i = .int .i64 k ∧ Hid (Grow (w.heap.size + 2) 45 6 CoreT.dats wr ((c.kids.take k).map foldT) v vs) ∧ Below w.heap.size w wr ∧ Blk wr w.heap.size 45 #[.int .i64 c.kind, .int .i64 c.op, .int .i64 c.number, .int .i64 c.line, .string c.text, .slice A c.kids.length n] ∧ Blk wr (w.heap.size + 1) 45 #[.int .i64 0, .int .i64 0, .int .i64 0, .int .i64 0, .string ⟨#[]⟩, .slice none 0 0] ∧ w.heap.size + 3 ≤ wr.heap.size) (fun _ i _ => c.kids.length - (intOf i).toNat)
 case atStart => exact ⟨0, [], Nat.zero_le _, rfl, P0, B1, bk0, br0, by simp⟩
 case round =>
  clear P0 B1 bk0 br0
  obtain ⟨k, vs, hkl, rfl, hP, B1, bk, br, hsz⟩ := hrel
  have hln : ((c.kids.take k).map foldT).length = k := by rw [List.length_map, List.length_take]; omega
  have HLN := Lib.hid hln
  have hown := hP.out.own
  rw [hln] at hown
  clear hln
  obtain ⟨cbk, lbk, fbk⟩ := bk.all
  obtain ⟨cbr, lbr, fbr⟩ := br.all
  obtain ⟨v0, n0, hvv, -⟩ : ∃ v0 n0, u3 = .slice v0 k n0 ∧ True := by obtain ⟨v0, n0, h0, -⟩ := (Rds.of_own hown).shape; exact ⟨v0, n0, h0, trivial⟩
  subst hvv
  by_cases hlt : k < c.kids.length
  ·obtain ⟨x, hx⟩ : ∃ x, c.kids[k]? = some x := ⟨_, List.getElem?_eq_getElem hlt⟩
   have hkr := hk.below B1 hhi
   have hiw : hi ≤ wr.heap.size := Nat.le_trans hhi B1.size
   obtain ⟨g, off, Ax, nx, rfl, hg1, hg2, hmem, hcr, q0, q1, q2, q3, q4, q5⟩ := CoreT.at_ hkr hx
   have bX : Below wr.heap.size wr (wr.alloc (.cells #[.int .i64 x.kind, .int .i64 x.op, .int .i64 x.number, .int .i64 x.line, .string x.text, .slice Ax x.kids.length nx] 45)) := (Below.refl _ _).alloc (Nat.le_refl _) _
   have bx := Blk.new wr 45 #[.int .i64 x.kind, .int .i64 x.op, .int .i64 x.number, .int .i64 x.line, .string x.text, .slice Ax x.kids.length nx]
   have cx := bx.cell
   have HC : Hid (Calls Tryz.prog 22 #[.agg #[.int .i64 x.kind, .int .i64 x.op, .int .i64 x.number, .int .i64 x.line, .string x.text, .slice Ax x.kids.length nx]] (wr.alloc (.cells #[.int .i64 x.kind, .int .i64 x.op, .int .i64 x.number, .int .i64 x.line, .string x.text, .slice Ax x.kids.length nx] 45)) (MadeS CoreT.dats (foldT x) (wr.alloc (.cells #[.int .i64 x.kind, .int .i64 x.op, .int .i64 x.number, .int .i64 x.line, .string x.text, .slice Ax x.kids.length nx] 45)))) := HH.out x hmem Ax nx _ lo hi ((CoreT.rows hcr).below bX hiw) (by simp; omega) (HFC.out.kids x hmem) (HBK.out x hmem) (hst.later (B1.trans (bX.mono B1.size))) (ht.later (B1.trans (bX.mono B1.size)))
   have HX := Lib.hid (foldMap_next hx)
   clear hkr hcr hmem hx
   go_wp2_with fail
   refine HC.out.mono ?_; rintro e w2 ⟨cs, rfl, ⟨G, hG1, hG2, hG3⟩, hb2⟩
   obtain ⟨Ay, ny, G', rfl, rfl, hG4⟩ := CoreT.ownOut hG1
   clear hG4
   have b2 := bX.trans (hb2.mono bX.size)
   have hbs := hb2.size
   clear cx bx HC q0 q1 q2 q3 q4 q5 cbk fbk cbr fbr hb2
   have own2 := own_later hown b2
   have hroom : (k + 1) * 72 ≤ 140737488355328 := by omega
   have hbase : w.heap.size + 2 ≤ w2.heap.size := by have := b2.size; omega
   go_wp2_with (first | (at_builtin; refine wpList_push rfl (.tmp 14) (.tmp 17) 43 rfl 45 _ 6 72 info_CoreT Tryz.underlying43 rfl (by decide) (by decide) (w.heap.size + 2) _ _ _ rfl own2 #[.int .i64 (foldT x).kind, .int .i64 (foldT x).op, .int .i64 (foldT x).number, .int .i64 (foldT x).line, .string (foldT x).text, .slice Ay (foldT x).kids.length ny] 1 _ rfl rfl (by simp [Value.oneCell']) hroom hbase ?_))
   intro v' w3 own3 hgr hat
   have HP3 : Hid (Grow (w.heap.size + 2) 45 6 CoreT.dats w3 ((c.kids.take (k + 1)).map foldT) v' (vs ++ [Value.int .i64 (foldT x).kind, .int .i64 (foldT x).op, .int .i64 (foldT x).number, .int .i64 (foldT x).line, .string (foldT x).text, .slice Ay (foldT x).kids.length ny])) := by
    show Grow _ _ _ _ _ _ _ _
    rw [HX.out]
    exact hP.out.push b2 (by omega) hG1 hG2 (fun g hg => by have := (hG3 g hg).1; simp at this; omega) (by rw [HLN.out]; exact own3) hgr hat
   have B3 : Below w.heap.size w w3 := (B1.trans (b2.mono B1.size)).grown hgr (by have := b2.size; omega) (fun b hb => by have := (hown.lt b hb).1; omega)
   have bk3 := (bk.below b2 lbk).grown hgr (fun e => by have := (hown.lt _ e.symm).1; omega)
   have br3 := (br.below b2 lbr).grown hgr (fun e => by have := (hown.lt _ e.symm).1; omega)
   have hs3 : w.heap.size + 3 ≤ w3.heap.size := by have := b2.size; have := hgr.size; omega
   clear own3 hgr hat own2 hown hG1 hG2 hG3 HX
   go_wp2_with fail
   go_roundw
   case rel => exact ⟨k + 1, _, by omega, by go_num, HP3, B3, bk3, br3, hs3⟩
   case measure => simp [intOf] <;> omega
  ·obtain rfl : k = c.kids.length := by omega
   have hM : OwnP wr (fun g => w.heap.size + 2 ≤ g ∧ g < wr.heap.size) [.row 6 (c.kids.map foldT).length (flat CoreT.dats (c.kids.map foldT))] [.slice v0 c.kids.length n0] := by
    have h := hP.out
    rw [List.take_length] at h
    obtain ⟨F, f1, f2, f3⟩ := h.made
    exact ⟨F ++ [], OwnVs.cons_ f1 .nil_, by simpa using f2, fun g hg => f3 g (by simpa using hg)⟩
   have hLL : (c.kids.map foldT).length = c.kids.length := List.length_map ..
   have HT := Lib.hid (foldT_eq c)
   have HLL := Lib.hid hLL
   have HM0 := Lib.hid hM
   clear hP hown hlt HLN hLL hM hk HH HBK
   go_upto_if 22 with fail
   go_cut [3] (fun v wx => wx = wr ∧ ∃ v1 n1, v = .slice v1 c.kids.length n1 ∧ Hid (OwnP wr (fun g => w.heap.size + 2 ≤ g ∧ g < wr.heap.size) [.row 6 (c.kids.map foldT).length (flat CoreT.dats (c.kids.map foldT))] [v]))
   case first =>
    by_cases z : c.kids.length = 0
    ·have ez : ((c.kids.length : Int) == 0) = true := beq_iff_eq.2 (by omega)
     have HN : Hid (∃ v1 n1, Value.slice none 0 0 = .slice v1 c.kids.length n1 ∧ Hid (OwnP wr (fun g => w.heap.size + 2 ≤ g ∧ g < wr.heap.size) [.row 6 (c.kids.map foldT).length (flat CoreT.dats (c.kids.map foldT))] [Value.slice none 0 0])) := by
      have h0 : c.kids = [] := List.eq_nil_of_length_eq_zero z
      refine ⟨none, 0, by rw [z], ?_⟩
      show OwnP _ _ _ _
      rw [h0]
      exact ⟨[], OwnVs.cons_ (show OwnV wr (.row 6 0 []) [] (Value.slice none 0 0) from OwnV.nilRow) .nil_, List.nodup_nil, by simp⟩
     clear z
     go_wp2_with fail
     go_meet
     exact ⟨rfl, HN.out⟩
    ·have ez : ((c.kids.length : Int) == 0) = false := beq_eq_false_iff_ne.2 (by omega)
     clear z
     go_wp2_with fail
     go_meet
     exact ⟨rfl, _, _, rfl, HM0⟩
   case rest =>
    obtain ⟨rfl, v1, n1, rfl, HM⟩ := hcut
    have hk5 := HM.out.node (c := c)
    have hst1 := hst.below B1 hst.2
    have ht1 := ht.below B1 ht.2
    have HW : Hid (OwnP (wc.setCell ⟨w.heap.size, 5, none⟩ (.slice v1 c.kids.length n1)) (fun g => w.heap.size + 2 ≤ g ∧ g < wc.heap.size) [.row 6 (c.kids.map foldT).length (flat CoreT.dats (c.kids.map foldT))] [.slice v1 c.kids.length n1]) := HM.out.set_ (p := ⟨w.heap.size, 5, none⟩) (by simp <;> omega) _
    have BW : Below w.heap.size w (wc.setCell ⟨w.heap.size, 5, none⟩ (.slice v1 c.kids.length n1)) := B1.setCell (Nat.le_refl _) _
    have hsW : (wc.setCell ⟨w.heap.size, 5, none⟩ (.slice v1 c.kids.length n1)).heap.size = wc.heap.size := by simp [World.setCell]
    by_cases k16 : c.kind = 16
    ·have e11 : (c.kind == 11) = false := by simp [k16]
     have e13 : (c.kind == 13) = false := by simp [k16]
     have e16 : (c.kind == 16) = true := by simp [k16]
     have HR : Hid (foldT c = foldBlock (c.with (c.kids.map foldT))) := HT.out.trans (foldNode_16 (c := c.with (c.kids.map foldT)) k16)
     have HC : Hid (Calls Tryz.prog 53 #[.agg #[.int .i64 c.kind, .int .i64 c.op, .int .i64 c.number, .int .i64 c.line, .string c.text, .slice v1 c.kids.length n1]] (wc.setCell ⟨w.heap.size, 5, none⟩ (.slice v1 c.kids.length n1)) (GivesR (w.heap.size + 2) (foldBlock (c.with (c.kids.map foldT))) (wc.setCell ⟨w.heap.size, 5, none⟩ (.slice v1 c.kids.length n1)))) := by
      have h := impl_foldBlock (c.with (c.kids.map foldT)) v1 n1 (wc.setCell ⟨w.heap.size, 5, none⟩ (.slice v1 c.kids.length n1)) (w.heap.size + 2) (by rw [hsW]; omega) (by rw [show (c.with (c.kids.map foldT)).kids.length = c.kids.length from HLL.out]; exact (HW.out.node (c := c)).weak fun g hg => by rw [hsW]; exact hg) (by rw [show (c.with (c.kids.map foldT)).kids.length = c.kids.length from HLL.out]; exact hb1)
      rw [show (c.with (c.kids.map foldT)).kids.length = c.kids.length from HLL.out] at h
      exact h
     generalize foldBlock (c.with (c.kids.map foldT)) = y at *
     clear k16 hk5
     go_wp2_with fail
     refine HC.out.mono ?_; rintro e w2 ⟨cs, rfl, hO2, hb2⟩
     obtain ⟨G, hG1, hG2, hG3⟩ := hO2
     obtain ⟨Ay, ny, G', hGG, rfl, hG4⟩ := CoreT.ownOut hG1
     have HO : Hid (OwnP w2 (fun g => w.heap.size + 2 ≤ g ∧ g < w2.heap.size) y.dats _) := ⟨G, hG1, hG2, hG3⟩
     clear hG4 hGG hG1 hG2 hG3
     have B2 : Below w.heap.size w w2 := BW.trans (hb2.mono BW.size)
     have br2 := (br.far (p := ⟨w.heap.size, 5, none⟩) (by simp) (.slice v1 c.kids.length n1)).later hb2
     have hs2 := hb2.size
     rw [hsW] at hs2
     clear cbr fbr lbr cbk fbk lbk
     obtain ⟨cbr, lbr, fbr⟩ := br2.all
     go_wp2_with fail
     have hF := ((((((br2.set_ 0 (.int .i64 y.kind)).set_ 1 (.int .i64 y.op)).set_ 2 (.int .i64 y.number)).set_ 3 (.int .i64 y.line)).set_ 4 (.string y.text)).set_ 5 (.slice Ay y.kids.length ny))
     have cF := hF.cell
     refine bodyPost_ret (v := .agg #[.int .i64 y.kind, .int .i64 y.op, .int .i64 y.number, .int .i64 y.line, .string y.text, .slice Ay y.kids.length ny]) ?_ rfl ⟨(#[Value.int .i64 y.kind, .int .i64 y.op, .int .i64 y.number, .int .i64 y.line, .string y.text, .slice Ay y.kids.length ny] : Array Value).toList, rfl, ?_, ?_⟩
     ·simp [results, Tryz.results22, go_sem, cF]
     ·rw [HR.out]
      exact (((((((HO.out.set_ (p := ⟨w.heap.size + 1, 0, none⟩) (by simp <;> omega) _).set_ (p := ⟨w.heap.size + 1, 1, none⟩) (by simp <;> omega) _).set_ (p := ⟨w.heap.size + 1, 2, none⟩) (by simp <;> omega) _).set_ (p := ⟨w.heap.size + 1, 3, none⟩) (by simp <;> omega) _).set_ (p := ⟨w.heap.size + 1, 4, none⟩) (by simp <;> omega) _).set_ (p := ⟨w.heap.size + 1, 5, none⟩) (by simp <;> omega) _)).weak fun g hg => ⟨by omega, by simp; omega⟩
     ·repeat' first | with_reducible exact B2 | with_reducible refine Below.setCell ?_ (by first | exact Nat.le_refl _ | omega | (simp; omega) | simp) _
    by_cases k11 : c.kind = 11
    ·have e11 : (c.kind == 11) = true := by simp [k11]
     have hT : foldT c = foldOp (c.with (c.kids.map foldT)) := HT.out.trans (foldNode_11 (c := c.with (c.kids.map foldT)) k11)
     have HC : Hid (Calls Tryz.prog 52 #[.agg #[.int .i64 c.kind, .int .i64 c.op, .int .i64 c.number, .int .i64 c.line, .string c.text, .slice v1 c.kids.length n1]] (wc.setCell ⟨w.heap.size, 5, none⟩ (.slice v1 c.kids.length n1)) (Gives (foldOpV (c.with (c.kids.map foldT)) v1 n1) (wc.setCell ⟨w.heap.size, 5, none⟩ (.slice v1 c.kids.length n1)))) := by
      obtain ⟨ho1, ho2⟩ := HFC.out.k11 k11
      have h := impl_foldOperate (c.with (c.kids.map foldT)) v1 n1 (wc.setCell ⟨w.heap.size, 5, none⟩ (.slice v1 c.kids.length n1)) (w.heap.size + 2) wc.heap.size (by rw [show (c.with (c.kids.map foldT)).kids.length = (c.kids.map foldT).length from rfl]; have := HW.out.lrep (lo := w.heap.size + 2) (hi := wc.heap.size) (fun g hg => hg); rw [HLL.out]; exact this) (by rw [hsW]; exact Nat.le_refl _) ho1 (by rw [show (c.with (c.kids.map foldT)).kids.length = c.kids.length from HLL.out]; exact ho2) (fun x hx => by obtain ⟨x0, hx0, rfl⟩ := List.mem_map.1 hx; exact litC_fold (HFC.out.kids x0 hx0)) (hst.later BW) (ht.later BW)
      rw [show (c.with (c.kids.map foldT)).kids.length = c.kids.length from HLL.out] at h
      exact h
     cases hfb : foldsB (c.with (c.kids.map foldT)) with
     | true =>
       have hV := foldOpV_yes (A := v1) (n := n1) hfb
       unfold leafV at hV
       rw [hV] at HC
       have hy := foldOp_leaf hfb
       have HR := Lib.hid hT
       clear hV hfb hT
       generalize foldOp (c.with (c.kids.map foldT)) = y at *
       have HY := Lib.hid hy
       clear k11 hk5 hy
       go_wp2_with fail
       refine HC.out.mono ?_; rintro e w2 ⟨rfl, hb2⟩
       have HO : Hid (OwnP w2 (fun g => w.heap.size + 2 ≤ g ∧ g < w2.heap.size) y.dats _) := own_leaf HY.out
       have B2 : Below w.heap.size w w2 := BW.trans (hb2.mono BW.size)
       have br2 := (br.far (p := ⟨w.heap.size, 5, none⟩) (by simp) (.slice v1 c.kids.length n1)).later hb2
       have hs2 := hb2.size
       rw [hsW] at hs2
       clear cbr fbr lbr cbk fbk lbk
       obtain ⟨cbr, lbr, fbr⟩ := br2.all
       go_wp2_with fail
       have hF := ((((((br2.set_ 0 (.int .i64 y.kind)).set_ 1 (.int .i64 y.op)).set_ 2 (.int .i64 y.number)).set_ 3 (.int .i64 y.line)).set_ 4 (.string y.text)).set_ 5 (.slice none 0 0))
       have cF := hF.cell
       refine bodyPost_ret (v := .agg #[.int .i64 y.kind, .int .i64 y.op, .int .i64 y.number, .int .i64 y.line, .string y.text, .slice none 0 0]) ?_ rfl ⟨(#[Value.int .i64 y.kind, .int .i64 y.op, .int .i64 y.number, .int .i64 y.line, .string y.text, .slice none 0 0] : Array Value).toList, rfl, ?_, ?_⟩
       ·simp [results, Tryz.results22, go_sem, cF]
       ·rw [HR.out]
        exact (((((((HO.out.set_ (p := ⟨w.heap.size + 1, 0, none⟩) (by simp <;> omega) _).set_ (p := ⟨w.heap.size + 1, 1, none⟩) (by simp <;> omega) _).set_ (p := ⟨w.heap.size + 1, 2, none⟩) (by simp <;> omega) _).set_ (p := ⟨w.heap.size + 1, 3, none⟩) (by simp <;> omega) _).set_ (p := ⟨w.heap.size + 1, 4, none⟩) (by simp <;> omega) _).set_ (p := ⟨w.heap.size + 1, 5, none⟩) (by simp <;> omega) _)).weak fun g hg => ⟨by omega, by simp; omega⟩
       ·repeat' first | with_reducible exact B2 | with_reducible refine Below.setCell ?_ (by first | exact Nat.le_refl _ | omega | (simp; omega) | simp) _
     | false =>
       have hV := foldOpV_no (A := v1) (n := n1) hfb
       rw [show (c.with (c.kids.map foldT)).kids.length = c.kids.length from HLL.out] at hV
       rw [hV] at HC
       have HR : Hid (foldT c = c.with (c.kids.map foldT)) := hT.trans (foldOp_same hfb)
       clear hV hfb hT k11 hk5
       have HC' : Hid (Calls Tryz.prog 52 #[.agg #[.int .i64 c.kind, .int .i64 c.op, .int .i64 c.number, .int .i64 c.line, .string c.text, .slice v1 c.kids.length n1]] (wc.setCell ⟨w.heap.size, 5, none⟩ (.slice v1 c.kids.length n1)) (Gives (.agg #[.int .i64 c.kind, .int .i64 c.op, .int .i64 c.number, .int .i64 c.line, .string c.text, .slice v1 c.kids.length n1]) (wc.setCell ⟨w.heap.size, 5, none⟩ (.slice v1 c.kids.length n1)))) := HC
       clear HC
       go_wp2_with fail
       refine HC'.out.mono ?_; rintro e w2 ⟨rfl, hb2⟩
       have HO := Lib.hid ((HW.out.later hb2).node (c := c))
       have B2 : Below w.heap.size w w2 := BW.trans (hb2.mono BW.size)
       have br2 := (br.far (p := ⟨w.heap.size, 5, none⟩) (by simp) (.slice v1 c.kids.length n1)).later hb2
       have hs2 := hb2.size
       rw [hsW] at hs2
       clear cbr fbr lbr cbk fbk lbk
       obtain ⟨cbr, lbr, fbr⟩ := br2.all
       go_wp2_with fail
       have hF := ((((((br2.set_ 0 (.int .i64 c.kind)).set_ 1 (.int .i64 c.op)).set_ 2 (.int .i64 c.number)).set_ 3 (.int .i64 c.line)).set_ 4 (.string c.text)).set_ 5 (.slice v1 c.kids.length n1))
       have cF := hF.cell
       refine bodyPost_ret (v := .agg #[.int .i64 c.kind, .int .i64 c.op, .int .i64 c.number, .int .i64 c.line, .string c.text, .slice v1 c.kids.length n1]) ?_ rfl ⟨(#[Value.int .i64 c.kind, .int .i64 c.op, .int .i64 c.number, .int .i64 c.line, .string c.text, .slice v1 c.kids.length n1] : Array Value).toList, rfl, ?_, ?_⟩
       ·simp [results, Tryz.results22, go_sem, cF]
       ·rw [HR.out]
        exact (((((((HO.out.set_ (p := ⟨w.heap.size + 1, 0, none⟩) (by simp <;> omega) _).set_ (p := ⟨w.heap.size + 1, 1, none⟩) (by simp <;> omega) _).set_ (p := ⟨w.heap.size + 1, 2, none⟩) (by simp <;> omega) _).set_ (p := ⟨w.heap.size + 1, 3, none⟩) (by simp <;> omega) _).set_ (p := ⟨w.heap.size + 1, 4, none⟩) (by simp <;> omega) _).set_ (p := ⟨w.heap.size + 1, 5, none⟩) (by simp <;> omega) _)).weak fun g hg => ⟨by omega, by simp; omega⟩
       ·repeat' first | with_reducible exact B2 | with_reducible refine Below.setCell ?_ (by first | exact Nat.le_refl _ | omega | (simp; omega) | simp) _
    by_cases k13 : c.kind = 13
    ·have e11 : (c.kind == 11) = false := by simp [k13]
     have e13 : (c.kind == 13) = true := by simp [k13]
     have hT : foldT c = foldAlt (c.with (c.kids.map foldT)) := HT.out.trans (foldNode_13 (c := c.with (c.kids.map foldT)) k13)
     have hlen : (c.kids.map foldT).length = 2 := HLL.out.trans (HFC.out.k13 k13)
     obtain ⟨a, b, hab⟩ : ∃ a b, (c.kids.map foldT) = [a, b] := by
      match (c.kids.map foldT), hlen with
      | [a, b], _ => exact ⟨a, b, rfl⟩
     obtain ⟨g0, cap0, Aa, na, hv, hg0, hca, hOa⟩ := HW.out.elem (j := 0) (x := a) (by rw [hab]; rfl)
     injection hv with hv1 hv2 hv3
     subst hv1 hv3
     clear hv2
     obtain ⟨g1, cap1, Ab, nb, hv, hg1, hcb, hOb⟩ := HW.out.elem (j := 1) (x := b) (by rw [hab]; rfl)
     injection hv with hv1 hv2 hv3
     injection hv1 with hv1
     injection hv1 with hv1 hv4 hv5
     subst hv1
     clear hv2 hv3
     have qa0 : (wc.setCell ⟨w.heap.size, 5, none⟩ (.slice (some ⟨g0, 0, none⟩) c.kids.length n1)).cell? ⟨g0, 0, none⟩ = some (.int .i64 a.kind) := by simpa using hca 0 _ rfl
     have qa1 : (wc.setCell ⟨w.heap.size, 5, none⟩ (.slice (some ⟨g0, 0, none⟩) c.kids.length n1)).cell? ⟨g0, 1, none⟩ = some (.int .i64 a.op) := by simpa using hca 1 _ rfl
     have qa2 : (wc.setCell ⟨w.heap.size, 5, none⟩ (.slice (some ⟨g0, 0, none⟩) c.kids.length n1)).cell? ⟨g0, 2, none⟩ = some (.int .i64 a.number) := by simpa using hca 2 _ rfl
     have qa3 : (wc.setCell ⟨w.heap.size, 5, none⟩ (.slice (some ⟨g0, 0, none⟩) c.kids.length n1)).cell? ⟨g0, 3, none⟩ = some (.int .i64 a.line) := by simpa using hca 3 _ rfl
     have qa4 : (wc.setCell ⟨w.heap.size, 5, none⟩ (.slice (some ⟨g0, 0, none⟩) c.kids.length n1)).cell? ⟨g0, 4, none⟩ = some (.string a.text) := by simpa using hca 4 _ rfl
     have qa5 : (wc.setCell ⟨w.heap.size, 5, none⟩ (.slice (some ⟨g0, 0, none⟩) c.kids.length n1)).cell? ⟨g0, 5, none⟩ = some (.slice Aa a.kids.length na) := by simpa using hca 5 _ rfl
     have HOa := Lib.hid hOa
     have qb0 : (wc.setCell ⟨w.heap.size, 5, none⟩ (.slice (some ⟨g0, 0, none⟩) c.kids.length n1)).cell? ⟨g0, 6, none⟩ = some (.int .i64 b.kind) := by simpa using hcb 0 _ rfl
     have qb1 : (wc.setCell ⟨w.heap.size, 5, none⟩ (.slice (some ⟨g0, 0, none⟩) c.kids.length n1)).cell? ⟨g0, 7, none⟩ = some (.int .i64 b.op) := by simpa using hcb 1 _ rfl
     have qb2 : (wc.setCell ⟨w.heap.size, 5, none⟩ (.slice (some ⟨g0, 0, none⟩) c.kids.length n1)).cell? ⟨g0, 8, none⟩ = some (.int .i64 b.number) := by simpa using hcb 2 _ rfl
     have qb3 : (wc.setCell ⟨w.heap.size, 5, none⟩ (.slice (some ⟨g0, 0, none⟩) c.kids.length n1)).cell? ⟨g0, 9, none⟩ = some (.int .i64 b.line) := by simpa using hcb 3 _ rfl
     have qb4 : (wc.setCell ⟨w.heap.size, 5, none⟩ (.slice (some ⟨g0, 0, none⟩) c.kids.length n1)).cell? ⟨g0, 10, none⟩ = some (.string b.text) := by simpa using hcb 4 _ rfl
     have qb5 : (wc.setCell ⟨w.heap.size, 5, none⟩ (.slice (some ⟨g0, 0, none⟩) c.kids.length n1)).cell? ⟨g0, 11, none⟩ = some (.slice Ab b.kids.length nb) := by simpa using hcb 5 _ rfl
     have HOb := Lib.hid hOb
     have hL := HLL.out.symm.trans hlen
     have l0 : (0 : Int) < (c.kids.length : Int) := by omega
     have l1 : (1 : Int) < (c.kids.length : Int) := by omega
     have m0 : 0 < c.kids.length := by omega
     have m1 : 1 < c.kids.length := by omega
     clear hL hlen hca hOa hcb hOb
     have hF0 : foldT c = if a.kind = 28 then b else if b.kind = 28 then a else c.with (c.kids.map foldT) := by rw [hT]; unfold foldAlt; rw [show (c.with (c.kids.map foldT)).kids = [a, b] from hab]
     have HK := Lib.hid hk5
     clear hT hab k11 k13 k16 hk5
     by_cases ka : a.kind = 28
     ·have ea : (a.kind == 28) = true := by simp [ka]
      have HR : Hid (foldT c = b) := hF0.trans (if_pos ka)
      clear hF0 ka
      go_wp2_with fail
      have hF := (((((((br.far (p := ⟨w.heap.size, 5, none⟩) (by simp) (.slice (some ⟨g0, 0, none⟩) c.kids.length n1)).set_ 0 (.int .i64 b.kind)).set_ 1 (.int .i64 b.op)).set_ 2 (.int .i64 b.number)).set_ 3 (.int .i64 b.line)).set_ 4 (.string b.text)).set_ 5 (.slice Ab b.kids.length nb))
      have cF := hF.cell
      refine bodyPost_ret (v := .agg #[.int .i64 b.kind, .int .i64 b.op, .int .i64 b.number, .int .i64 b.line, .string b.text, .slice Ab b.kids.length nb]) ?_ rfl ⟨(#[Value.int .i64 b.kind, .int .i64 b.op, .int .i64 b.number, .int .i64 b.line, .string b.text, .slice Ab b.kids.length nb] : Array Value).toList, rfl, ?_, ?_⟩
      ·simp [results, Tryz.results22, go_sem, cF]
      ·rw [HR.out]
       exact (((((((HOb.out.set_ (p := ⟨w.heap.size + 1, 0, none⟩) (by simp <;> omega) _).set_ (p := ⟨w.heap.size + 1, 1, none⟩) (by simp <;> omega) _).set_ (p := ⟨w.heap.size + 1, 2, none⟩) (by simp <;> omega) _).set_ (p := ⟨w.heap.size + 1, 3, none⟩) (by simp <;> omega) _).set_ (p := ⟨w.heap.size + 1, 4, none⟩) (by simp <;> omega) _).set_ (p := ⟨w.heap.size + 1, 5, none⟩) (by simp <;> omega) _)).weak fun g hg => ⟨by omega, by simp; omega⟩
      ·repeat' first | with_reducible exact B1 | with_reducible refine Below.setCell ?_ (by first | exact Nat.le_refl _ | omega | (simp; omega) | simp) _
     ·have ea : (a.kind == 28) = false := by simpa using ka
      by_cases kb : b.kind = 28
      ·have eb : (b.kind == 28) = true := by simp [kb]
       have HR : Hid (foldT c = a) := hF0.trans ((if_neg ka).trans (if_pos kb))
       clear hF0 ka kb
       go_wp2_with fail
       have hF := (((((((br.far (p := ⟨w.heap.size, 5, none⟩) (by simp) (.slice (some ⟨g0, 0, none⟩) c.kids.length n1)).set_ 0 (.int .i64 a.kind)).set_ 1 (.int .i64 a.op)).set_ 2 (.int .i64 a.number)).set_ 3 (.int .i64 a.line)).set_ 4 (.string a.text)).set_ 5 (.slice Aa a.kids.length na))
       have cF := hF.cell
       refine bodyPost_ret (v := .agg #[.int .i64 a.kind, .int .i64 a.op, .int .i64 a.number, .int .i64 a.line, .string a.text, .slice Aa a.kids.length na]) ?_ rfl ⟨(#[Value.int .i64 a.kind, .int .i64 a.op, .int .i64 a.number, .int .i64 a.line, .string a.text, .slice Aa a.kids.length na] : Array Value).toList, rfl, ?_, ?_⟩
       ·simp [results, Tryz.results22, go_sem, cF]
       ·rw [HR.out]
        exact (((((((HOa.out.set_ (p := ⟨w.heap.size + 1, 0, none⟩) (by simp <;> omega) _).set_ (p := ⟨w.heap.size + 1, 1, none⟩) (by simp <;> omega) _).set_ (p := ⟨w.heap.size + 1, 2, none⟩) (by simp <;> omega) _).set_ (p := ⟨w.heap.size + 1, 3, none⟩) (by simp <;> omega) _).set_ (p := ⟨w.heap.size + 1, 4, none⟩) (by simp <;> omega) _).set_ (p := ⟨w.heap.size + 1, 5, none⟩) (by simp <;> omega) _)).weak fun g hg => ⟨by omega, by simp; omega⟩
       ·repeat' first | with_reducible exact B1 | with_reducible refine Below.setCell ?_ (by first | exact Nat.le_refl _ | omega | (simp; omega) | simp) _
      ·have eb : (b.kind == 28) = false := by simpa using kb
       have HR : Hid (foldT c = c.with (c.kids.map foldT)) := hF0.trans ((if_neg ka).trans (if_neg kb))
       have HN := Lib.hid (HW.out.node (c := c))
       clear hF0 ka kb
       go_wp2_with fail
       have hF := (((((((br.far (p := ⟨w.heap.size, 5, none⟩) (by simp) (.slice (some ⟨g0, 0, none⟩) c.kids.length n1)).set_ 0 (.int .i64 c.kind)).set_ 1 (.int .i64 c.op)).set_ 2 (.int .i64 c.number)).set_ 3 (.int .i64 c.line)).set_ 4 (.string c.text)).set_ 5 (.slice (some ⟨g0, 0, none⟩) c.kids.length n1))
       have cF := hF.cell
       refine bodyPost_ret (v := .agg #[.int .i64 c.kind, .int .i64 c.op, .int .i64 c.number, .int .i64 c.line, .string c.text, .slice (some ⟨g0, 0, none⟩) c.kids.length n1]) ?_ rfl ⟨(#[Value.int .i64 c.kind, .int .i64 c.op, .int .i64 c.number, .int .i64 c.line, .string c.text, .slice (some ⟨g0, 0, none⟩) c.kids.length n1] : Array Value).toList, rfl, ?_, ?_⟩
       ·simp [results, Tryz.results22, go_sem, cF]
       ·rw [HR.out]
        exact (((((((HN.out.set_ (p := ⟨w.heap.size + 1, 0, none⟩) (by simp <;> omega) _).set_ (p := ⟨w.heap.size + 1, 1, none⟩) (by simp <;> omega) _).set_ (p := ⟨w.heap.size + 1, 2, none⟩) (by simp <;> omega) _).set_ (p := ⟨w.heap.size + 1, 3, none⟩) (by simp <;> omega) _).set_ (p := ⟨w.heap.size + 1, 4, none⟩) (by simp <;> omega) _).set_ (p := ⟨w.heap.size + 1, 5, none⟩) (by simp <;> omega) _)).weak fun g hg => ⟨by omega, by simp; omega⟩
       ·repeat' first | with_reducible exact B1 | with_reducible refine Below.setCell ?_ (by first | exact Nat.le_refl _ | omega | (simp; omega) | simp) _
    by_cases k17 : c.kind = 17
    ·have e11 : (c.kind == 11) = false := by simp [k17]
     have e13 : (c.kind == 13) = false := by simp [k17]
     have e16 : (c.kind == 16) = false := by simp [k17]
     have e17 : (c.kind == 17) = true := by simp [k17]
     have hT : foldT c = foldIf (c.with (c.kids.map foldT)) := HT.out.trans (foldNode_17 (c := c.with (c.kids.map foldT)) k17)
     have hlen : (c.kids.map foldT).length = 3 := HLL.out.trans (HFC.out.k17 k17)
     obtain ⟨a, b, d, hab⟩ : ∃ a b d, (c.kids.map foldT) = [a, b, d] := by
      match (c.kids.map foldT), hlen with
      | [a, b, d], _ => exact ⟨a, b, d, rfl⟩
     obtain ⟨g0, cap0, Aa, na, hv, hg0, hca, hOa⟩ := HW.out.elem (j := 0) (x := a) (by rw [hab]; rfl)
     injection hv with hv1 hv2 hv3
     subst hv1 hv3
     clear hv2
     obtain ⟨g1, cap1, Ab, nb, hv, hg1, hcb, hOb⟩ := HW.out.elem (j := 1) (x := b) (by rw [hab]; rfl)
     injection hv with hv1 hv2 hv3
     injection hv1 with hv1
     injection hv1 with hv1 hv4 hv5
     subst hv1
     clear hv2 hv3
     obtain ⟨g2, cap2, Ad, nd, hv, hg2, hcd, hOd⟩ := HW.out.elem (j := 2) (x := d) (by rw [hab]; rfl)
     injection hv with hv1 hv2 hv3
     injection hv1 with hv1
     injection hv1 with hv1 hv4 hv5
     subst hv1
     clear hv2 hv3
     have qa0 : (wc.setCell ⟨w.heap.size, 5, none⟩ (.slice (some ⟨g0, 0, none⟩) c.kids.length n1)).cell? ⟨g0, 0, none⟩ = some (.int .i64 a.kind) := by simpa using hca 0 _ rfl
     have qa1 : (wc.setCell ⟨w.heap.size, 5, none⟩ (.slice (some ⟨g0, 0, none⟩) c.kids.length n1)).cell? ⟨g0, 1, none⟩ = some (.int .i64 a.op) := by simpa using hca 1 _ rfl
     have qa2 : (wc.setCell ⟨w.heap.size, 5, none⟩ (.slice (some ⟨g0, 0, none⟩) c.kids.length n1)).cell? ⟨g0, 2, none⟩ = some (.int .i64 a.number) := by simpa using hca 2 _ rfl
     have qa3 : (wc.setCell ⟨w.heap.size, 5, none⟩ (.slice (some ⟨g0, 0, none⟩) c.kids.length n1)).cell? ⟨g0, 3, none⟩ = some (.int .i64 a.line) := by simpa using hca 3 _ rfl
     have qa4 : (wc.setCell ⟨w.heap.size, 5, none⟩ (.slice (some ⟨g0, 0, none⟩) c.kids.length n1)).cell? ⟨g0, 4, none⟩ = some (.string a.text) := by simpa using hca 4 _ rfl
     have qa5 : (wc.setCell ⟨w.heap.size, 5, none⟩ (.slice (some ⟨g0, 0, none⟩) c.kids.length n1)).cell? ⟨g0, 5, none⟩ = some (.slice Aa a.kids.length na) := by simpa using hca 5 _ rfl
     have HOa := Lib.hid hOa
     have qb0 : (wc.setCell ⟨w.heap.size, 5, none⟩ (.slice (some ⟨g0, 0, none⟩) c.kids.length n1)).cell? ⟨g0, 6, none⟩ = some (.int .i64 b.kind) := by simpa using hcb 0 _ rfl
     have qb1 : (wc.setCell ⟨w.heap.size, 5, none⟩ (.slice (some ⟨g0, 0, none⟩) c.kids.length n1)).cell? ⟨g0, 7, none⟩ = some (.int .i64 b.op) := by simpa using hcb 1 _ rfl
     have qb2 : (wc.setCell ⟨w.heap.size, 5, none⟩ (.slice (some ⟨g0, 0, none⟩) c.kids.length n1)).cell? ⟨g0, 8, none⟩ = some (.int .i64 b.number) := by simpa using hcb 2 _ rfl
     have qb3 : (wc.setCell ⟨w.heap.size, 5, none⟩ (.slice (some ⟨g0, 0, none⟩) c.kids.length n1)).cell? ⟨g0, 9, none⟩ = some (.int .i64 b.line) := by simpa using hcb 3 _ rfl
     have qb4 : (wc.setCell ⟨w.heap.size, 5, none⟩ (.slice (some ⟨g0, 0, none⟩) c.kids.length n1)).cell? ⟨g0, 10, none⟩ = some (.string b.text) := by simpa using hcb 4 _ rfl
     have qb5 : (wc.setCell ⟨w.heap.size, 5, none⟩ (.slice (some ⟨g0, 0, none⟩) c.kids.length n1)).cell? ⟨g0, 11, none⟩ = some (.slice Ab b.kids.length nb) := by simpa using hcb 5 _ rfl
     have HOb := Lib.hid hOb
     have qd0 : (wc.setCell ⟨w.heap.size, 5, none⟩ (.slice (some ⟨g0, 0, none⟩) c.kids.length n1)).cell? ⟨g0, 12, none⟩ = some (.int .i64 d.kind) := by simpa using hcd 0 _ rfl
     have qd1 : (wc.setCell ⟨w.heap.size, 5, none⟩ (.slice (some ⟨g0, 0, none⟩) c.kids.length n1)).cell? ⟨g0, 13, none⟩ = some (.int .i64 d.op) := by simpa using hcd 1 _ rfl
     have qd2 : (wc.setCell ⟨w.heap.size, 5, none⟩ (.slice (some ⟨g0, 0, none⟩) c.kids.length n1)).cell? ⟨g0, 14, none⟩ = some (.int .i64 d.number) := by simpa using hcd 2 _ rfl
     have qd3 : (wc.setCell ⟨w.heap.size, 5, none⟩ (.slice (some ⟨g0, 0, none⟩) c.kids.length n1)).cell? ⟨g0, 15, none⟩ = some (.int .i64 d.line) := by simpa using hcd 3 _ rfl
     have qd4 : (wc.setCell ⟨w.heap.size, 5, none⟩ (.slice (some ⟨g0, 0, none⟩) c.kids.length n1)).cell? ⟨g0, 16, none⟩ = some (.string d.text) := by simpa using hcd 4 _ rfl
     have qd5 : (wc.setCell ⟨w.heap.size, 5, none⟩ (.slice (some ⟨g0, 0, none⟩) c.kids.length n1)).cell? ⟨g0, 17, none⟩ = some (.slice Ad d.kids.length nd) := by simpa using hcd 5 _ rfl
     have HOd := Lib.hid hOd
     have hL := HLL.out.symm.trans hlen
     have l0 : (0 : Int) < (c.kids.length : Int) := by omega
     have l1 : (1 : Int) < (c.kids.length : Int) := by omega
     have l2 : (2 : Int) < (c.kids.length : Int) := by omega
     have m0 : 0 < c.kids.length := by omega
     have m1 : 1 < c.kids.length := by omega
     have m2 : 2 < c.kids.length := by omega
     clear hL hlen hca hOa hcb hOb hcd hOd
     have hF0 : foldT c = if litB a = true then b else if a.kind = 28 then d else c.with (c.kids.map foldT) := by rw [hT]; unfold foldIf; rw [show (c.with (c.kids.map foldT)).kids = [a, b, d] from hab]
     have HC := Lib.hid (fun W : World => impl_coreLiteral a Aa a.kids.length na W)
     have hgW : g0 < (wc.setCell ⟨w.heap.size, 5, none⟩ (.slice (some ⟨g0, 0, none⟩) c.kids.length n1)).heap.size := by rw [hsW]; exact hg0.2
     clear hT hab k11 k13 k16 k17 hk5
     cases hla : litB a with
     | true =>
       rw [hla] at HC
       have HR : Hid (foldT c = b) := hF0.trans (if_pos hla)
       clear hF0 hla
       go_wp2_with fail
       refine (HC.out _).mono ?_; rintro e w2 ⟨rfl, hb2⟩
       have B2 : Below w.heap.size w w2 := BW.trans (hb2.mono BW.size)
       have br2 := (br.far (p := ⟨w.heap.size, 5, none⟩) (by simp) (.slice (some ⟨g0, 0, none⟩) c.kids.length n1)).later hb2
       have bk2 := (bk.set_ 5 (.slice (some ⟨g0, 0, none⟩) c.kids.length n1)).later hb2
       have hs2 := hb2.size
       rw [hsW] at hs2
       replace qb0 := (hb2.cell (p := ⟨g0, 6, none⟩) hgW).trans qb0
       replace qb1 := (hb2.cell (p := ⟨g0, 7, none⟩) hgW).trans qb1
       replace qb2 := (hb2.cell (p := ⟨g0, 8, none⟩) hgW).trans qb2
       replace qb3 := (hb2.cell (p := ⟨g0, 9, none⟩) hgW).trans qb3
       replace qb4 := (hb2.cell (p := ⟨g0, 10, none⟩) hgW).trans qb4
       replace qb5 := (hb2.cell (p := ⟨g0, 11, none⟩) hgW).trans qb5
       clear qa0 qa1 qa2 qa3 qa4 qa5
       clear qd0 qd1 qd2 qd3 qd4 qd5
       clear cbr fbr lbr cbk fbk lbk
       obtain ⟨cbr, lbr, fbr⟩ := br2.all
       obtain ⟨cbk, lbk, fbk⟩ := bk2.all
       have HO := Lib.hid (HOb.out.later hb2)
       clear hb2
       go_wp2_with fail
       have hF := ((((((br2.set_ 0 (.int .i64 b.kind)).set_ 1 (.int .i64 b.op)).set_ 2 (.int .i64 b.number)).set_ 3 (.int .i64 b.line)).set_ 4 (.string b.text)).set_ 5 (.slice Ab b.kids.length nb))
       have cF := hF.cell
       refine bodyPost_ret (v := .agg #[.int .i64 b.kind, .int .i64 b.op, .int .i64 b.number, .int .i64 b.line, .string b.text, .slice Ab b.kids.length nb]) ?_ rfl ⟨(#[Value.int .i64 b.kind, .int .i64 b.op, .int .i64 b.number, .int .i64 b.line, .string b.text, .slice Ab b.kids.length nb] : Array Value).toList, rfl, ?_, ?_⟩
       ·simp [results, Tryz.results22, go_sem, cF]
       ·rw [HR.out]
        exact (((((((HO.out.set_ (p := ⟨w.heap.size + 1, 0, none⟩) (by simp <;> omega) _).set_ (p := ⟨w.heap.size + 1, 1, none⟩) (by simp <;> omega) _).set_ (p := ⟨w.heap.size + 1, 2, none⟩) (by simp <;> omega) _).set_ (p := ⟨w.heap.size + 1, 3, none⟩) (by simp <;> omega) _).set_ (p := ⟨w.heap.size + 1, 4, none⟩) (by simp <;> omega) _).set_ (p := ⟨w.heap.size + 1, 5, none⟩) (by simp <;> omega) _)).weak fun g hg => ⟨by omega, by simp; omega⟩
       ·repeat' first | with_reducible exact B2 | with_reducible refine Below.setCell ?_ (by first | exact Nat.le_refl _ | omega | (simp; omega) | simp) _
     | false =>
       rw [hla] at HC
       have hF1 := hF0.trans (if_neg (by rw [hla]; decide))
       clear hF0 hla
       by_cases ka : a.kind = 28
       ·have ea : (a.kind == 28) = true := by simp [ka]
        have HR : Hid (foldT c = d) := hF1.trans (if_pos ka)
        clear hF1 ka
        go_wp2_with fail
        refine (HC.out _).mono ?_; rintro e w2 ⟨rfl, hb2⟩
        have B2 : Below w.heap.size w w2 := BW.trans (hb2.mono BW.size)
        have br2 := (br.far (p := ⟨w.heap.size, 5, none⟩) (by simp) (.slice (some ⟨g0, 0, none⟩) c.kids.length n1)).later hb2
        have bk2 := (bk.set_ 5 (.slice (some ⟨g0, 0, none⟩) c.kids.length n1)).later hb2
        have hs2 := hb2.size
        rw [hsW] at hs2
        replace qa0 := (hb2.cell (p := ⟨g0, 0, none⟩) hgW).trans qa0
        replace qa1 := (hb2.cell (p := ⟨g0, 1, none⟩) hgW).trans qa1
        replace qa2 := (hb2.cell (p := ⟨g0, 2, none⟩) hgW).trans qa2
        replace qa3 := (hb2.cell (p := ⟨g0, 3, none⟩) hgW).trans qa3
        replace qa4 := (hb2.cell (p := ⟨g0, 4, none⟩) hgW).trans qa4
        replace qa5 := (hb2.cell (p := ⟨g0, 5, none⟩) hgW).trans qa5
        replace qd0 := (hb2.cell (p := ⟨g0, 12, none⟩) hgW).trans qd0
        replace qd1 := (hb2.cell (p := ⟨g0, 13, none⟩) hgW).trans qd1
        replace qd2 := (hb2.cell (p := ⟨g0, 14, none⟩) hgW).trans qd2
        replace qd3 := (hb2.cell (p := ⟨g0, 15, none⟩) hgW).trans qd3
        replace qd4 := (hb2.cell (p := ⟨g0, 16, none⟩) hgW).trans qd4
        replace qd5 := (hb2.cell (p := ⟨g0, 17, none⟩) hgW).trans qd5
        clear qb0 qb1 qb2 qb3 qb4 qb5
        clear cbr fbr lbr cbk fbk lbk
        obtain ⟨cbr, lbr, fbr⟩ := br2.all
        obtain ⟨cbk, lbk, fbk⟩ := bk2.all
        have HO := Lib.hid (HOd.out.later hb2)
        clear hb2
        go_wp2_with fail
        have hF := ((((((br2.set_ 0 (.int .i64 d.kind)).set_ 1 (.int .i64 d.op)).set_ 2 (.int .i64 d.number)).set_ 3 (.int .i64 d.line)).set_ 4 (.string d.text)).set_ 5 (.slice Ad d.kids.length nd))
        have cF := hF.cell
        refine bodyPost_ret (v := .agg #[.int .i64 d.kind, .int .i64 d.op, .int .i64 d.number, .int .i64 d.line, .string d.text, .slice Ad d.kids.length nd]) ?_ rfl ⟨(#[Value.int .i64 d.kind, .int .i64 d.op, .int .i64 d.number, .int .i64 d.line, .string d.text, .slice Ad d.kids.length nd] : Array Value).toList, rfl, ?_, ?_⟩
        ·simp [results, Tryz.results22, go_sem, cF]
        ·rw [HR.out]
         exact (((((((HO.out.set_ (p := ⟨w.heap.size + 1, 0, none⟩) (by simp <;> omega) _).set_ (p := ⟨w.heap.size + 1, 1, none⟩) (by simp <;> omega) _).set_ (p := ⟨w.heap.size + 1, 2, none⟩) (by simp <;> omega) _).set_ (p := ⟨w.heap.size + 1, 3, none⟩) (by simp <;> omega) _).set_ (p := ⟨w.heap.size + 1, 4, none⟩) (by simp <;> omega) _).set_ (p := ⟨w.heap.size + 1, 5, none⟩) (by simp <;> omega) _)).weak fun g hg => ⟨by omega, by simp; omega⟩
        ·repeat' first | with_reducible exact B2 | with_reducible refine Below.setCell ?_ (by first | exact Nat.le_refl _ | omega | (simp; omega) | simp) _
       ·have ea : (a.kind == 28) = false := by simpa using ka
        have HR : Hid (foldT c = c.with (c.kids.map foldT)) := hF1.trans (if_neg ka)
        clear hF1 ka
        go_wp2_with fail
        refine (HC.out _).mono ?_; rintro e w2 ⟨rfl, hb2⟩
        have B2 : Below w.heap.size w w2 := BW.trans (hb2.mono BW.size)
        have br2 := (br.far (p := ⟨w.heap.size, 5, none⟩) (by simp) (.slice (some ⟨g0, 0, none⟩) c.kids.length n1)).later hb2
        have bk2 := (bk.set_ 5 (.slice (some ⟨g0, 0, none⟩) c.kids.length n1)).later hb2
        have hs2 := hb2.size
        rw [hsW] at hs2
        replace qa0 := (hb2.cell (p := ⟨g0, 0, none⟩) hgW).trans qa0
        replace qa1 := (hb2.cell (p := ⟨g0, 1, none⟩) hgW).trans qa1
        replace qa2 := (hb2.cell (p := ⟨g0, 2, none⟩) hgW).trans qa2
        replace qa3 := (hb2.cell (p := ⟨g0, 3, none⟩) hgW).trans qa3
        replace qa4 := (hb2.cell (p := ⟨g0, 4, none⟩) hgW).trans qa4
        replace qa5 := (hb2.cell (p := ⟨g0, 5, none⟩) hgW).trans qa5
        clear qb0 qb1 qb2 qb3 qb4 qb5
        clear qd0 qd1 qd2 qd3 qd4 qd5
        clear cbr fbr lbr cbk fbk lbk
        obtain ⟨cbr, lbr, fbr⟩ := br2.all
        obtain ⟨cbk, lbk, fbk⟩ := bk2.all
        have HO := Lib.hid ((HW.out.node (c := c)).later hb2)
        clear hb2
        go_wp2_with fail
        have hF := ((((((br2.set_ 0 (.int .i64 c.kind)).set_ 1 (.int .i64 c.op)).set_ 2 (.int .i64 c.number)).set_ 3 (.int .i64 c.line)).set_ 4 (.string c.text)).set_ 5 (.slice (some ⟨g0, 0, none⟩) c.kids.length n1))
        have cF := hF.cell
        refine bodyPost_ret (v := .agg #[.int .i64 c.kind, .int .i64 c.op, .int .i64 c.number, .int .i64 c.line, .string c.text, .slice (some ⟨g0, 0, none⟩) c.kids.length n1]) ?_ rfl ⟨(#[Value.int .i64 c.kind, .int .i64 c.op, .int .i64 c.number, .int .i64 c.line, .string c.text, .slice (some ⟨g0, 0, none⟩) c.kids.length n1] : Array Value).toList, rfl, ?_, ?_⟩
        ·simp [results, Tryz.results22, go_sem, cF]
        ·rw [HR.out]
         exact (((((((HO.out.set_ (p := ⟨w.heap.size + 1, 0, none⟩) (by simp <;> omega) _).set_ (p := ⟨w.heap.size + 1, 1, none⟩) (by simp <;> omega) _).set_ (p := ⟨w.heap.size + 1, 2, none⟩) (by simp <;> omega) _).set_ (p := ⟨w.heap.size + 1, 3, none⟩) (by simp <;> omega) _).set_ (p := ⟨w.heap.size + 1, 4, none⟩) (by simp <;> omega) _).set_ (p := ⟨w.heap.size + 1, 5, none⟩) (by simp <;> omega) _)).weak fun g hg => ⟨by omega, by simp; omega⟩
        ·repeat' first | with_reducible exact B2 | with_reducible refine Below.setCell ?_ (by first | exact Nat.le_refl _ | omega | (simp; omega) | simp) _
    have e11 : (c.kind == 11) = false := by simpa using k11
    have e13 : (c.kind == 13) = false := by simpa using k13
    have e16 : (c.kind == 16) = false := by simpa using k16
    have e17 : (c.kind == 17) = false := by simpa using k17
    have HR : Hid (foldT c = c.with (c.kids.map foldT)) := HT.out.trans (foldNode_no k11 k13 k16 k17)
    have HO := Lib.hid hk5
    clear k11 k13 k16 k17 hk5
    go_wp2_with fail
    have hF := (((((((br.far (p := ⟨w.heap.size, 5, none⟩) (by simp) (.slice v1 c.kids.length n1)).set_ 0 (.int .i64 c.kind)).set_ 1 (.int .i64 c.op)).set_ 2 (.int .i64 c.number)).set_ 3 (.int .i64 c.line)).set_ 4 (.string c.text)).set_ 5 (.slice v1 c.kids.length n1))
    have cF := hF.cell
    refine bodyPost_ret (v := .agg #[.int .i64 c.kind, .int .i64 c.op, .int .i64 c.number, .int .i64 c.line, .string c.text, .slice v1 c.kids.length n1]) ?_ rfl ⟨(#[Value.int .i64 c.kind, .int .i64 c.op, .int .i64 c.number, .int .i64 c.line, .string c.text, .slice v1 c.kids.length n1] : Array Value).toList, rfl, ?_, ?_⟩
    ·simp [results, Tryz.results22, go_sem, cF]
    ·rw [HR.out]
     exact ((((((((HO.out.set_ (p := ⟨w.heap.size, 5, none⟩) (by simp <;> omega) _).set_ (p := ⟨w.heap.size + 1, 0, none⟩) (by simp <;> omega) _).set_ (p := ⟨w.heap.size + 1, 1, none⟩) (by simp <;> omega) _).set_ (p := ⟨w.heap.size + 1, 2, none⟩) (by simp <;> omega) _).set_ (p := ⟨w.heap.size + 1, 3, none⟩) (by simp <;> omega) _).set_ (p := ⟨w.heap.size + 1, 4, none⟩) (by simp <;> omega) _).set_ (p := ⟨w.heap.size + 1, 5, none⟩) (by simp <;> omega) _)).weak fun g hg => ⟨by omega, by simp; omega⟩
    ·repeat' first | with_reducible exact B1 | with_reducible refine Below.setCell ?_ (by first | exact Nat.le_refl _ | omega | (simp; omega) | simp) _
theorem impl_foldCore (c : CoreT) : FoldOk c := CoreT.ind (P := FoldOk) foldCore_of c
end Go.Proofs.YtjeomamdlmoghaaGreatDoor
end
