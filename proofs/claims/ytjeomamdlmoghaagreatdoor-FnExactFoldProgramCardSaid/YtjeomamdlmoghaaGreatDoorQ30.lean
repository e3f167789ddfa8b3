/- l34Fold of the reference. -/
import Derived.Test.YtjeomamdlmoghaaGreatDoorQ00
import Derived.Test.YtjeomamdlmoghaaGreatDoorQSq
import Derived.Test.YtjeomamdlmoghaaGreatDoorQ26
import Derived.Test.YtjeomamdlmoghaaGreatDoorQ29
set_option maxRecDepth 100000
set_option maxHeartbeats 8000000
set_option linter.unusedVariables false
set_option linter.unusedSimpArgs false
section
namespace Go.Proofs.YtjeomamdlmoghaaGreatDoor
open Go.RowKit
def FoldOkS (c : CoreT) : Prop := ∀ (A : Option Addr) (n : Nat) (w : World) (lo hi : Nat) (h : LRep w lo hi 6 CoreT.dats (.slice A c.kids.length n) c.kids) (hhi : hi ≤ w.heap.size) (hc : FoldC c) (hbk : c.bulk ≤ 1048576),
 Calls Tryz.prog 16 #[.agg #[.int .i64 c.kind, .int .i64 c.op, .int .i64 c.number, .int .i64 c.line, .string c.text, .slice A c.kids.length n]] w (MadeS CoreT.dats (foldT c) w)
def selL (kind : Int) (n k : Nat) (l : List CoreT) : List CoreT := if kind = 16 then keepL n k (l.drop k) else l.drop k
def selB (kind : Int) (n k : Nat) (y : CoreT) : Bool := !decide (kind = 16) || keepB n k y
theorem selL_next {kind : Int} {n k : Nat} {l : List CoreT} {y : CoreT} (h : l[k]? = some y) : selL kind n k l = (if selB kind n k y = true then [y] else []) ++ selL kind n (k + 1) l := by
 unfold selL selB
 by_cases hk : kind = 16
 ·rw [if_pos hk, if_pos hk, keepL_next h]; simp [hk]
 ·rw [if_neg hk, if_neg hk, drop_cons h]; simp [hk]
theorem selL_end {kind : Int} {n k : Nat} {l : List CoreT} (h : l.length ≤ k) : selL kind n k l = [] := by
 unfold selL; rw [List.drop_eq_nil_of_le h]; split <;> rfl
theorem selL_all {kind : Int} {n : Nat} {l : List CoreT} (h : ¬ kind = 16) : selL kind n 0 l = l := by unfold selL; rw [if_neg h]; rfl
theorem selL_keep {kind : Int} {n : Nat} {l : List CoreT} (h : kind = 16) : selL kind n 0 l = keepL n 0 l := by unfold selL; rw [if_pos h]; rfl
theorem Grow.ownP {w : World} {B : Nat} {e : TypeId} {l : List CoreT} {v : Value} {vs : List Value} (h : Grow B e 6 CoreT.dats w l v vs) : OwnP w (fun g => B ≤ g ∧ g < w.heap.size) [.row 6 l.length (flat CoreT.dats l)] [v] := by
 obtain ⟨F, f1, f2, f3⟩ := h.made
 exact ⟨F ++ [], OwnVs.cons_ f1 .nil_, by simpa using f2, fun g hg => f3 g (by simpa using hg)⟩
theorem l34Fold_of (c : CoreT) (H : ∀ x ∈ c.kids, FoldOkS x) : FoldOkS c := by
 intro A n w lo hi hk hhi hfc hbk
 obtain ⟨A', n', hv, hc1, hc2⟩ := hk.shape
 injection hv with hv1 hv2 hv3
 subst hv1 hv3
 unfold maxLen at hc2
 have HH := Lib.hid H
 have HFC := Lib.hid hfc
 rw [CoreT.bulk_eq] at hbk
 have hb1 : c.kids.length ≤ 1048576 := by omega
 have HBK : Hid (∀ x ∈ c.kids, x.bulk ≤ 1048576) := fun x hx => by have := bulk_mem hx; omega
 clear H hfc hbk hv2
 have hwn : IntKind.i64.wrap ((c.kids.length : Int) - 1) = (c.kids.length : Int) - 1 := IntWalk.i64_in _ (by omega)
 obtain ⟨bk, br, B0⟩ := boxes2 w 45 #[.int .i64 c.kind, .int .i64 c.op, .int .i64 c.number, .int .i64 c.line, .string c.text, .slice A c.kids.length n] 45 #[.int .i64 0, .int .i64 0, .int .i64 0, .int .i64 0, .string ⟨#[]⟩, .slice none 0 0]
 go_enter Tryz.func16, Tryz.ntmps16
 go_wp2_with fail
 have bo := Blk.newAt ((w.alloc (.cells #[.int .i64 c.kind, .int .i64 c.op, .int .i64 c.number, .int .i64 c.line, .string c.text, .slice A c.kids.length n] 45)).alloc (.cells #[.int .i64 0, .int .i64 0, .int .i64 0, .int .i64 0, .string ⟨#[]⟩, .slice none 0 0] 45)) 45 #[.int .i64 c.kind, .int .i64 c.op, .int .i64 c.number, .int .i64 c.line, .string c.text, .slice none 0 0] (w.heap.size + 2) (by simp)
 have B1 : Below w.heap.size w (((w.alloc (.cells #[.int .i64 c.kind, .int .i64 c.op, .int .i64 c.number, .int .i64 c.line, .string c.text, .slice A c.kids.length n] 45)).alloc (.cells #[.int .i64 0, .int .i64 0, .int .i64 0, .int .i64 0, .string ⟨#[]⟩, .slice none 0 0] 45)).alloc (.cells #[.int .i64 c.kind, .int .i64 c.op, .int .i64 c.number, .int .i64 c.line, .string c.text, .slice none 0 0] 45)) := B0.alloc (by simp; omega) _
 have P0 : Hid (Grow (w.heap.size + 3) 45 6 CoreT.dats (((w.alloc (.cells #[.int .i64 c.kind, .int .i64 c.op, .int .i64 c.number, .int .i64 c.line, .string c.text, .slice A c.kids.length n] 45)).alloc (.cells #[.int .i64 0, .int .i64 0, .int .i64 0, .int .i64 0, .string ⟨#[]⟩, .slice none 0 0] 45)).alloc (.cells #[.int .i64 c.kind, .int .i64 c.op, .int .i64 c.number, .int .i64 c.line, .string c.text, .slice none 0 0] 45)) [] (.slice none 0 0) []) := Grow.start (World.ownsRow_nil ..)
 have bk0 := bk.alloc (.cells #[.int .i64 c.kind, .int .i64 c.op, .int .i64 c.number, .int .i64 c.line, .string c.text, .slice none 0 0] 45)
 have br0 := br.alloc (.cells #[.int .i64 c.kind, .int .i64 c.op, .int .i64 c.number, .int .i64 c.line, .string c.text, .slice none 0 0] 45)
 have HS : Hid (selL c.kind c.kids.length 0 (c.kids.map foldT) = [] ++ selL c.kind c.kids.length 0 (c.kids.map foldT)) := rfl
 clear bk br B0
 go_loopw [4] (fun i wr => ∃ (k m n0 : Nat) (v0 : Option Addr) (l' : List CoreT) (vs : List Value), k ≤ c.kids.length ∧ i = .int .i64 k ∧ Hid (l'.length = m) ∧ Hid (Grow (w.heap.size + 3) 45 6 CoreT.dats wr l' (.slice v0 m n0) vs) ∧ Hid (selL c.kind c.kids.length 0 (c.kids.map foldT) = l' ++ selL c.kind c.kids.length k (c.kids.map foldT)) ∧ m ≤ k ∧ Below w.heap.size w wr ∧ Blk wr w.heap.size 45 #[.int .i64 c.kind, .int .i64 c.op, .int .i64 c.number, .int .i64 c.line, .string c.text, .slice A c.kids.length n] ∧ Blk wr (w.heap.size + 1) 45 #[.int .i64 0, .int .i64 0, .int .i64 0, .int .i64 0, .string ⟨#[]⟩, .slice none 0 0] ∧ Blk wr (w.heap.size + 2) 45 #[.int .i64 c.kind, .int .i64 c.op, .int .i64 c.number, .int .i64 c.line, .string c.text, .slice v0 m n0] ∧ w.heap.size + 3 ≤ wr.heap.size) (fun i _ => c.kids.length - (intOf i).toNat)
 case atStart => exact ⟨0, 0, 0, none, [], [], Nat.zero_le _, rfl, rfl, P0, HS, Nat.le_refl _, B1, bk0, br0, bo, by simp⟩
 case round =>
  clear P0 HS B1 bk0 br0 bo
  obtain ⟨k, m, n0, v0, l', vs, hkl, rfl, hlm, hP, hK, hlk, B1, bk, br, bo, hsz⟩ := hrel
  have hown := hP.out.own
  rw [hlm.out] at hown
  obtain ⟨cbk, lbk, fbk⟩ := bk.all
  obtain ⟨cbr, lbr, fbr⟩ := br.all
  obtain ⟨cbo, lbo, fbo⟩ := bo.all
  by_cases hlt : k < c.kids.length
  ·obtain ⟨x, hx⟩ : ∃ x, c.kids[k]? = some x := ⟨_, List.getElem?_eq_getElem hlt⟩
   have hkr := hk.below B1 hhi
   have hiw : hi ≤ wr.heap.size := Nat.le_trans hhi B1.size
   obtain ⟨g, off, Ax, nx, rfl, hg1, hg2, hmem, hcr, q0, q1, q2, q3, q4, q5⟩ := CoreT.at_ hkr hx
   have HC : Hid (Calls Tryz.prog 16 #[.agg #[.int .i64 x.kind, .int .i64 x.op, .int .i64 x.number, .int .i64 x.line, .string x.text, .slice Ax x.kids.length nx]] wr (MadeS CoreT.dats (foldT x) wr)) := HH.out x hmem Ax nx _ lo hi (CoreT.rows hcr) hiw (HFC.out.kids x hmem) (HBK.out x hmem)
   obtain ⟨y, hy⟩ : ∃ y, foldT x = y := ⟨_, rfl⟩
   rw [hy] at HC
   have hyy : (c.kids.map foldT)[k]? = some y := by rw [List.getElem?_map, hx]; simp [hy]
   have HN := Lib.hid (selL_next (kind := c.kind) (n := c.kids.length) hyy)
   have HLY : Hid (LitC y) := by rw [← hy]; exact litC_fold (HFC.out.kids x hmem)
   clear hkr hcr hmem hx hyy hy
   go_wp2_with fail
   refine HC.out.mono ?_; rintro e w2 ⟨cs, rfl, ⟨G, hG1, hG2, hG3⟩, hb2⟩
   obtain ⟨Ay, ny, G', rfl, rfl, hG4⟩ := CoreT.ownOut hG1
   clear hG4 HC q0 q1 q2 q3 q4 q5 hg1 hg2
   obtain ⟨ka, na, sa, la, ha, e1, -⟩ := (if litB y = true then litOf y else .null).cells_form
   obtain ⟨lb, hlb⟩ : ∃ b, litB y = b := ⟨_, rfl⟩
   have HCL : Hid (∀ W, Calls Tryz.prog 40 #[.agg #[.int .i64 y.kind, .int .i64 y.op, .int .i64 y.number, .int .i64 y.line, .string y.text, .slice Ay y.kids.length ny]] W (Gives (.tuple #[.agg #[.int .i64 ka, .int .i64 na, .int .i64 0, .string sa, .int .i64 la, .int .i64 ha], .bool lb]) W)) := fun W => by have h := spec_l34Literal y HLY.out.2 Ay y.kids.length ny W; rw [e1, hlb] at h; exact h
   have HLB := Lib.hid hlb
   clear e1 hlb
   replace bk := bk.later hb2
   replace br := br.later hb2
   replace bo := bo.later hb2
   clear cbk lbk fbk cbr lbr fbr cbo lbo fbo
   obtain ⟨cbk, lbk, fbk⟩ := bk.all
   obtain ⟨cbr, lbr, fbr⟩ := br.all
   obtain ⟨cbo, lbo, fbo⟩ := bo.all
   have hsb := hb2.size
   go_wp2_with fail
   have bA : Below w2.heap.size w2 (w2.alloc (.cells #[.int .i64 y.kind, .int .i64 y.op, .int .i64 y.number, .int .i64 y.line, .string y.text, .slice Ay y.kids.length ny] 45)) := (Below.refl _ _).alloc (Nat.le_refl _) _
   have by_ := Blk.new w2 45 #[.int .i64 y.kind, .int .i64 y.op, .int .i64 y.number, .int .i64 y.line, .string y.text, .slice Ay y.kids.length ny]
   refine (HCL.out _).mono ?_; rintro e w3 ⟨rfl, hb3⟩
   have bC : Below w3.heap.size w3 (w3.alloc (.cells #[.int .i64 ka, .int .i64 na, .int .i64 0, .string sa, .int .i64 la, .int .i64 ha] 76)) := (Below.refl _ _).alloc (Nat.le_refl _) _
   have b24 : Below w2.heap.size w2 (w3.alloc (.cells #[.int .i64 ka, .int .i64 na, .int .i64 0, .string sa, .int .i64 la, .int .i64 ha] 76)) := (bA.trans (hb3.mono bA.size)).trans (bC.mono (Nat.le_trans bA.size hb3.size))
   have bX := hb2.trans (b24.mono hb2.size)
   replace bk := (bk.alloc (.cells #[.int .i64 y.kind, .int .i64 y.op, .int .i64 y.number, .int .i64 y.line, .string y.text, .slice Ay y.kids.length ny] 45)).later hb3
   replace br := (br.alloc (.cells #[.int .i64 y.kind, .int .i64 y.op, .int .i64 y.number, .int .i64 y.line, .string y.text, .slice Ay y.kids.length ny] 45)).later hb3
   replace bo := (bo.alloc (.cells #[.int .i64 y.kind, .int .i64 y.op, .int .i64 y.number, .int .i64 y.line, .string y.text, .slice Ay y.kids.length ny] 45)).later hb3
   replace by_ := by_.later hb3
   have hs3 : wr.heap.size + 1 ≤ w3.heap.size := by have := hb3.size; simp at this; omega
   have hG4 := hG1.kept fun g hg => b24.block g (hG1.lt g hg)
   have HG : Hid (OwnVs (w3.alloc (.cells #[.int .i64 ka, .int .i64 na, .int .i64 0, .string sa, .int .i64 la, .int .i64 ha] 76)) y.dats G [Value.int .i64 y.kind, .int .i64 y.op, .int .i64 y.number, .int .i64 y.line, .string y.text, .slice Ay y.kids.length ny] ∧ G.Nodup ∧ ∀ g ∈ G, wr.heap.size ≤ g) := ⟨hG4, hG2, fun g hg => (hG3 g hg).1⟩
   clear cbk lbk fbk cbr lbr fbr cbo lbo fbo bA bC b24 hb2 hb3 hG1 hG2 hG3 hG4 HCL hsb
   obtain ⟨cbk, lbk, fbk⟩ := bk.all
   obtain ⟨cbr, lbr, fbr⟩ := br.all
   obtain ⟨cbo, lbo, fbo⟩ := bo.all
   obtain ⟨cby, lby, fby⟩ := by_.all
   have own2 := own_later hown bX
   --<loop
   by_cases k16 : c.kind = 16
   ·have e16 : (c.kind == 16) = true := by simp [k16]
    by_cases hla : k + 1 = c.kids.length
    ·have el : decide ((k : Int) < (c.kids.length : Int) - 1) = false := decide_eq_false (by omega)
     have HSB : Hid (selB c.kind c.kids.length k y = true) := by show _ = _; unfold selB keepB; rw [decide_eq_true hla]; simp
     clear k16 hla
     have HK5 : Hid (selL c.kind c.kids.length 0 (c.kids.map foldT) = (l' ++ [y]) ++ selL c.kind c.kids.length (k + 1) (c.kids.map foldT)) := by show _ = _; rw [hK.out, HN.out, if_pos HSB.out, List.append_assoc]
     have hroom : (m + 1) * 72 ≤ 140737488355328 := by omega
     have hbase : w.heap.size + 3 ≤ (w3.alloc (.cells #[.int .i64 ka, .int .i64 na, .int .i64 0, .string sa, .int .i64 la, .int .i64 ha] 76)).heap.size := by simp; omega
     go_wp2_with (first | (at_builtin; refine wpList_push_at (w3.heap.size + 1) (by simp) rfl (.tmp 59) (.tmp 61) 43 rfl 45 _ 6 72 info_CoreT Tryz.underlying43 rfl (by decide) (by decide) (w.heap.size + 3) _ _ _ rfl own2 #[.int .i64 y.kind, .int .i64 y.op, .int .i64 y.number, .int .i64 y.line, .string y.text, .slice Ay y.kids.length ny] 1 _ rfl rfl (by simp [Value.oneCell']) hroom hbase ?_))
     intro v' w5 own5 hgr hat
     obtain ⟨v1, n1, rfl, -⟩ := (Rds.of_own own5).shape
     have HP5 : Hid (Grow (w.heap.size + 3) 45 6 CoreT.dats w5 (l' ++ [y]) (.slice v1 (m + 1) n1) (vs ++ [Value.int .i64 y.kind, .int .i64 y.op, .int .i64 y.number, .int .i64 y.line, .string y.text, .slice Ay y.kids.length ny])) := hP.out.push bX hsz HG.out.1 HG.out.2.1 HG.out.2.2 (by rw [hlm.out]; exact own5) hgr (by rcases hat with e | e; exact .inl e; exact .inr (e.trans (by simp)))
     have HP6 := Lib.hid (HP5.out.setFar (p := ⟨w.heap.size + 2, 5, none⟩) (by simp) (.slice v1 (m + 1) n1))
     have B5 : Below w.heap.size w w5 := (B1.trans (bX.mono B1.size)).grown hgr (by have := bX.size; have := B1.size; omega) (fun b hb => by have := (hown.lt b hb).1; omega)
     have B6 := B5.setCell (p := ⟨w.heap.size + 2, 5, none⟩) (by simp) (.slice v1 (m + 1) n1)
     have bk6 := ((bk.alloc (.cells #[.int .i64 ka, .int .i64 na, .int .i64 0, .string sa, .int .i64 la, .int .i64 ha] 76)).grown hgr (fun e => by have := (hown.lt _ e.symm).1; omega)).far (p := ⟨w.heap.size + 2, 5, none⟩) (by simp) (.slice v1 (m + 1) n1)
     have br6 := ((br.alloc (.cells #[.int .i64 ka, .int .i64 na, .int .i64 0, .string sa, .int .i64 la, .int .i64 ha] 76)).grown hgr (fun e => by have := (hown.lt _ e.symm).1; omega)).far (p := ⟨w.heap.size + 2, 5, none⟩) (by simp) (.slice v1 (m + 1) n1)
     have bo6 := ((bo.alloc (.cells #[.int .i64 ka, .int .i64 na, .int .i64 0, .string sa, .int .i64 la, .int .i64 ha] 76)).grown hgr (fun e => by have := (hown.lt _ e.symm).1; omega)).set_ 5 (.slice v1 (m + 1) n1)
     have b5 := ((bo.alloc (.cells #[.int .i64 ka, .int .i64 na, .int .i64 0, .string sa, .int .i64 la, .int .i64 ha] 76)).grown hgr (fun e => by have := (hown.lt _ e.symm).1; omega))
     obtain ⟨c5, l5, f5⟩ := b5.all
     have hs6 : w.heap.size + 3 ≤ (w5.setCell ⟨w.heap.size + 2, 5, none⟩ (.slice v1 (m + 1) n1)).heap.size := Nat.le_trans (show w.heap.size + 3 ≤ w5.heap.size by have := bX.size; have := hgr.size; omega) (by simp [World.setCell])
     have HLM : Hid ((l' ++ [y]).length = m + 1) := by show _ = _; rw [List.length_append, hlm.out]; rfl
     clear own5 hgr hat own2 hown cbk lbk fbk cbr lbr fbr cbo lbo fbo cby lby fby B5 HP5
     go_wp2_with fail
     go_roundw
     case rel => exact ⟨k + 1, m + 1, n1, v1, l' ++ [y], _, by omega, by go_num, HLM, HP6, HK5, by omega, B6, bk6, br6, bo6, hs6⟩
     case measure => simp [intOf] <;> omega
    ·have el : decide ((k : Int) < (c.kids.length : Int) - 1) = true := decide_eq_true (by omega)
     have HB : Hid (selB c.kind c.kids.length k y = (!litB y && !decide (y.kind = 28))) := by show _ = _; unfold selB keepB; rw [decide_eq_false hla, decide_eq_true k16]; rfl
     clear k16 hla
     cases lb with
     | true =>
       have HSB : Hid (selB c.kind c.kids.length k y = false) := by show _ = _; rw [HB.out, HLB.out]; rfl
       have HK5 : Hid (selL c.kind c.kids.length 0 (c.kids.map foldT) = l' ++ selL c.kind c.kids.length (k + 1) (c.kids.map foldT)) := by show _ = _; rw [hK.out, HN.out, if_neg (by rw [HSB.out]; decide), List.nil_append]
       have HP6 := Lib.hid (hP.out.later bX)
       have B6 : Below w.heap.size w (w3.alloc (.cells #[.int .i64 ka, .int .i64 na, .int .i64 0, .string sa, .int .i64 la, .int .i64 ha] 76)) := B1.trans (bX.mono B1.size)
       have bk6 := bk.alloc (.cells #[.int .i64 ka, .int .i64 na, .int .i64 0, .string sa, .int .i64 la, .int .i64 ha] 76)
       have br6 := br.alloc (.cells #[.int .i64 ka, .int .i64 na, .int .i64 0, .string sa, .int .i64 la, .int .i64 ha] 76)
       have bo6 := bo.alloc (.cells #[.int .i64 ka, .int .i64 na, .int .i64 0, .string sa, .int .i64 la, .int .i64 ha] 76)
       have hs6 : w.heap.size + 3 ≤ (w3.alloc (.cells #[.int .i64 ka, .int .i64 na, .int .i64 0, .string sa, .int .i64 la, .int .i64 ha] 76)).heap.size := by simp; omega
       clear own2 hown
       go_wp2_with fail
       go_roundw
       case rel => exact ⟨k + 1, m, n0, v0, l', _, by omega, by go_num, hlm, HP6, HK5, by omega, B6, bk6, br6, bo6, hs6⟩
       case measure => simp [intOf] <;> omega
     | false =>
       by_cases k28 : y.kind = 28
       ·have e28 : (y.kind == 28) = true := by simp [k28]
        have HSB : Hid (selB c.kind c.kids.length k y = false) := by show _ = _; rw [HB.out, decide_eq_true k28, Bool.and_comm]; rfl
        clear k28
        have HK5 : Hid (selL c.kind c.kids.length 0 (c.kids.map foldT) = l' ++ selL c.kind c.kids.length (k + 1) (c.kids.map foldT)) := by show _ = _; rw [hK.out, HN.out, if_neg (by rw [HSB.out]; decide), List.nil_append]
        have HP6 := Lib.hid (hP.out.later bX)
        have B6 : Below w.heap.size w (w3.alloc (.cells #[.int .i64 ka, .int .i64 na, .int .i64 0, .string sa, .int .i64 la, .int .i64 ha] 76)) := B1.trans (bX.mono B1.size)
        have bk6 := bk.alloc (.cells #[.int .i64 ka, .int .i64 na, .int .i64 0, .string sa, .int .i64 la, .int .i64 ha] 76)
        have br6 := br.alloc (.cells #[.int .i64 ka, .int .i64 na, .int .i64 0, .string sa, .int .i64 la, .int .i64 ha] 76)
        have bo6 := bo.alloc (.cells #[.int .i64 ka, .int .i64 na, .int .i64 0, .string sa, .int .i64 la, .int .i64 ha] 76)
        have hs6 : w.heap.size + 3 ≤ (w3.alloc (.cells #[.int .i64 ka, .int .i64 na, .int .i64 0, .string sa, .int .i64 la, .int .i64 ha] 76)).heap.size := by simp; omega
        clear own2 hown
        go_wp2_with fail
        go_roundw
        case rel => exact ⟨k + 1, m, n0, v0, l', _, by omega, by go_num, hlm, HP6, HK5, by omega, B6, bk6, br6, bo6, hs6⟩
        case measure => simp [intOf] <;> omega
       ·have e28 : (y.kind == 28) = false := by simpa using k28
        have HSB : Hid (selB c.kind c.kids.length k y = true) := by show _ = _; rw [HB.out, HLB.out, decide_eq_false k28]; rfl
        clear k28
        have HK5 : Hid (selL c.kind c.kids.length 0 (c.kids.map foldT) = (l' ++ [y]) ++ selL c.kind c.kids.length (k + 1) (c.kids.map foldT)) := by show _ = _; rw [hK.out, HN.out, if_pos HSB.out, List.append_assoc]
        have hroom : (m + 1) * 72 ≤ 140737488355328 := by omega
        have hbase : w.heap.size + 3 ≤ (w3.alloc (.cells #[.int .i64 ka, .int .i64 na, .int .i64 0, .string sa, .int .i64 la, .int .i64 ha] 76)).heap.size := by simp; omega
        go_wp2_with (first | (at_builtin; refine wpList_push_at (w3.heap.size + 1) (by simp) rfl (.tmp 59) (.tmp 61) 43 rfl 45 _ 6 72 info_CoreT Tryz.underlying43 rfl (by decide) (by decide) (w.heap.size + 3) _ _ _ rfl own2 #[.int .i64 y.kind, .int .i64 y.op, .int .i64 y.number, .int .i64 y.line, .string y.text, .slice Ay y.kids.length ny] 1 _ rfl rfl (by simp [Value.oneCell']) hroom hbase ?_))
        intro v' w5 own5 hgr hat
        obtain ⟨v1, n1, rfl, -⟩ := (Rds.of_own own5).shape
        have HP5 : Hid (Grow (w.heap.size + 3) 45 6 CoreT.dats w5 (l' ++ [y]) (.slice v1 (m + 1) n1) (vs ++ [Value.int .i64 y.kind, .int .i64 y.op, .int .i64 y.number, .int .i64 y.line, .string y.text, .slice Ay y.kids.length ny])) := hP.out.push bX hsz HG.out.1 HG.out.2.1 HG.out.2.2 (by rw [hlm.out]; exact own5) hgr (by rcases hat with e | e; exact .inl e; exact .inr (e.trans (by simp)))
        have HP6 := Lib.hid (HP5.out.setFar (p := ⟨w.heap.size + 2, 5, none⟩) (by simp) (.slice v1 (m + 1) n1))
        have B5 : Below w.heap.size w w5 := (B1.trans (bX.mono B1.size)).grown hgr (by have := bX.size; have := B1.size; omega) (fun b hb => by have := (hown.lt b hb).1; omega)
        have B6 := B5.setCell (p := ⟨w.heap.size + 2, 5, none⟩) (by simp) (.slice v1 (m + 1) n1)
        have bk6 := ((bk.alloc (.cells #[.int .i64 ka, .int .i64 na, .int .i64 0, .string sa, .int .i64 la, .int .i64 ha] 76)).grown hgr (fun e => by have := (hown.lt _ e.symm).1; omega)).far (p := ⟨w.heap.size + 2, 5, none⟩) (by simp) (.slice v1 (m + 1) n1)
        have br6 := ((br.alloc (.cells #[.int .i64 ka, .int .i64 na, .int .i64 0, .string sa, .int .i64 la, .int .i64 ha] 76)).grown hgr (fun e => by have := (hown.lt _ e.symm).1; omega)).far (p := ⟨w.heap.size + 2, 5, none⟩) (by simp) (.slice v1 (m + 1) n1)
        have bo6 := ((bo.alloc (.cells #[.int .i64 ka, .int .i64 na, .int .i64 0, .string sa, .int .i64 la, .int .i64 ha] 76)).grown hgr (fun e => by have := (hown.lt _ e.symm).1; omega)).set_ 5 (.slice v1 (m + 1) n1)
        have b5 := ((bo.alloc (.cells #[.int .i64 ka, .int .i64 na, .int .i64 0, .string sa, .int .i64 la, .int .i64 ha] 76)).grown hgr (fun e => by have := (hown.lt _ e.symm).1; omega))
        obtain ⟨c5, l5, f5⟩ := b5.all
        have hs6 : w.heap.size + 3 ≤ (w5.setCell ⟨w.heap.size + 2, 5, none⟩ (.slice v1 (m + 1) n1)).heap.size := Nat.le_trans (show w.heap.size + 3 ≤ w5.heap.size by have := bX.size; have := hgr.size; omega) (by simp [World.setCell])
        have HLM : Hid ((l' ++ [y]).length = m + 1) := by show _ = _; rw [List.length_append, hlm.out]; rfl
        clear own5 hgr hat own2 hown cbk lbk fbk cbr lbr fbr cbo lbo fbo cby lby fby B5 HP5
        go_wp2_with fail
        go_roundw
        case rel => exact ⟨k + 1, m + 1, n1, v1, l' ++ [y], _, by omega, by go_num, HLM, HP6, HK5, by omega, B6, bk6, br6, bo6, hs6⟩
        case measure => simp [intOf] <;> omega
   ·have e16 : (c.kind == 16) = false := by simpa using k16
    have HSB : Hid (selB c.kind c.kids.length k y = true) := by show _ = _; unfold selB; rw [decide_eq_false k16]; rfl
    clear k16
    have HK5 : Hid (selL c.kind c.kids.length 0 (c.kids.map foldT) = (l' ++ [y]) ++ selL c.kind c.kids.length (k + 1) (c.kids.map foldT)) := by show _ = _; rw [hK.out, HN.out, if_pos HSB.out, List.append_assoc]
    have hroom : (m + 1) * 72 ≤ 140737488355328 := by omega
    have hbase : w.heap.size + 3 ≤ (w3.alloc (.cells #[.int .i64 ka, .int .i64 na, .int .i64 0, .string sa, .int .i64 la, .int .i64 ha] 76)).heap.size := by simp; omega
    go_wp2_with (first | (at_builtin; refine wpList_push_at (w3.heap.size + 1) (by simp) rfl (.tmp 59) (.tmp 61) 43 rfl 45 _ 6 72 info_CoreT Tryz.underlying43 rfl (by decide) (by decide) (w.heap.size + 3) _ _ _ rfl own2 #[.int .i64 y.kind, .int .i64 y.op, .int .i64 y.number, .int .i64 y.line, .string y.text, .slice Ay y.kids.length ny] 1 _ rfl rfl (by simp [Value.oneCell']) hroom hbase ?_))
    intro v' w5 own5 hgr hat
    obtain ⟨v1, n1, rfl, -⟩ := (Rds.of_own own5).shape
    have HP5 : Hid (Grow (w.heap.size + 3) 45 6 CoreT.dats w5 (l' ++ [y]) (.slice v1 (m + 1) n1) (vs ++ [Value.int .i64 y.kind, .int .i64 y.op, .int .i64 y.number, .int .i64 y.line, .string y.text, .slice Ay y.kids.length ny])) := hP.out.push bX hsz HG.out.1 HG.out.2.1 HG.out.2.2 (by rw [hlm.out]; exact own5) hgr (by rcases hat with e | e; exact .inl e; exact .inr (e.trans (by simp)))
    have HP6 := Lib.hid (HP5.out.setFar (p := ⟨w.heap.size + 2, 5, none⟩) (by simp) (.slice v1 (m + 1) n1))
    have B5 : Below w.heap.size w w5 := (B1.trans (bX.mono B1.size)).grown hgr (by have := bX.size; have := B1.size; omega) (fun b hb => by have := (hown.lt b hb).1; omega)
    have B6 := B5.setCell (p := ⟨w.heap.size + 2, 5, none⟩) (by simp) (.slice v1 (m + 1) n1)
    have bk6 := ((bk.alloc (.cells #[.int .i64 ka, .int .i64 na, .int .i64 0, .string sa, .int .i64 la, .int .i64 ha] 76)).grown hgr (fun e => by have := (hown.lt _ e.symm).1; omega)).far (p := ⟨w.heap.size + 2, 5, none⟩) (by simp) (.slice v1 (m + 1) n1)
    have br6 := ((br.alloc (.cells #[.int .i64 ka, .int .i64 na, .int .i64 0, .string sa, .int .i64 la, .int .i64 ha] 76)).grown hgr (fun e => by have := (hown.lt _ e.symm).1; omega)).far (p := ⟨w.heap.size + 2, 5, none⟩) (by simp) (.slice v1 (m + 1) n1)
    have bo6 := ((bo.alloc (.cells #[.int .i64 ka, .int .i64 na, .int .i64 0, .string sa, .int .i64 la, .int .i64 ha] 76)).grown hgr (fun e => by have := (hown.lt _ e.symm).1; omega)).set_ 5 (.slice v1 (m + 1) n1)
    have b5 := ((bo.alloc (.cells #[.int .i64 ka, .int .i64 na, .int .i64 0, .string sa, .int .i64 la, .int .i64 ha] 76)).grown hgr (fun e => by have := (hown.lt _ e.symm).1; omega))
    obtain ⟨c5, l5, f5⟩ := b5.all
    have hs6 : w.heap.size + 3 ≤ (w5.setCell ⟨w.heap.size + 2, 5, none⟩ (.slice v1 (m + 1) n1)).heap.size := Nat.le_trans (show w.heap.size + 3 ≤ w5.heap.size by have := bX.size; have := hgr.size; omega) (by simp [World.setCell])
    have HLM : Hid ((l' ++ [y]).length = m + 1) := by show _ = _; rw [List.length_append, hlm.out]; rfl
    clear own5 hgr hat own2 hown cbk lbk fbk cbr lbr fbr cbo lbo fbo cby lby fby B5 HP5
    go_wp2_with fail
    go_roundw
    case rel => exact ⟨k + 1, m + 1, n1, v1, l' ++ [y], _, by omega, by go_num, HLM, HP6, HK5, by omega, B6, bk6, br6, bo6, hs6⟩
    case measure => simp [intOf] <;> omega
   --loop>
  ·obtain rfl : k = c.kids.length := by omega
   have hl' : selL c.kind c.kids.length 0 (c.kids.map foldT) = l' := by have h := hK.out; rw [selL_end (k := c.kids.length) (by rw [List.length_map]; exact Nat.le_refl _), List.append_nil] at h; exact h
   have hM := hP.out.ownP
   rw [hlm.out] at hM
   have HT := Lib.hid (foldT_eq c)
   clear hP hK hown hlt HBK HH
   --<A
   by_cases k16 : c.kind = 16
   ·have hR0 : foldT c = foldBlock (c.with (c.kids.map foldT)) := HT.out.trans (foldNode_16 (c := c.with (c.kids.map foldT)) k16)
    rw [selL_keep k16] at hl'
    have hK : keepL (c.with (c.kids.map foldT)).kids.length 0 (c.with (c.kids.map foldT)).kids = l' := by rw [show (c.with (c.kids.map foldT)).kids.length = c.kids.length from List.length_map ..]; exact hl'
    have e11 : (c.kind == 11) = false := by simp [k16]
    have e13 : (c.kind == 13) = false := by simp [k16]
    have e16 : (c.kind == 16) = true := by simp [k16]
    clear hl' k16 HT
    by_cases h1 : m = 1
    ·have h1' : l'.length = 1 := hlm.out.trans h1
     obtain ⟨x, rfl⟩ : ∃ x, l' = [x] := by match l', h1' with | [x], _ => exact ⟨x, rfl⟩
     obtain rfl : m = 1 := h1
     have HR := Lib.hid (hR0.trans (foldBlock_one hK))
     obtain ⟨g, cap, Ax, nx, hv, hg, hc, hX⟩ := OwnP.elem (l := [x]) (x := x) (j := 0) hM rfl
     injection hv with hv1 hv2 hv3
     subst hv1 hv3
     have q0 : wr.cell? ⟨g, 0, none⟩ = some (.int .i64 x.kind) := by simpa using hc 0 _ rfl
     have q1 : wr.cell? ⟨g, 1, none⟩ = some (.int .i64 x.op) := by simpa using hc 1 _ rfl
     have q2 : wr.cell? ⟨g, 2, none⟩ = some (.int .i64 x.number) := by simpa using hc 2 _ rfl
     have q3 : wr.cell? ⟨g, 3, none⟩ = some (.int .i64 x.line) := by simpa using hc 3 _ rfl
     have q4 : wr.cell? ⟨g, 4, none⟩ = some (.string x.text) := by simpa using hc 4 _ rfl
     have q5 : wr.cell? ⟨g, 5, none⟩ = some (.slice Ax x.kids.length nx) := by simpa using hc 5 _ rfl
     have HX := Lib.hid hX
     clear hM hX hc h1' hv2 hR0 hK
     go_wp2_with fail
     have hF := ((((((br.set_ 0 (.int .i64 x.kind)).set_ 1 (.int .i64 x.op)).set_ 2 (.int .i64 x.number)).set_ 3 (.int .i64 x.line)).set_ 4 (.string x.text)).set_ 5 (.slice Ax x.kids.length nx))
     have cF := hF.cell
     refine bodyPost_ret (v := .agg #[.int .i64 x.kind, .int .i64 x.op, .int .i64 x.number, .int .i64 x.line, .string x.text, .slice Ax x.kids.length nx]) ?_ rfl ⟨(#[Value.int .i64 x.kind, .int .i64 x.op, .int .i64 x.number, .int .i64 x.line, .string x.text, .slice Ax x.kids.length nx] : Array Value).toList, rfl, ?_, ?_⟩
     ·simp [results, Tryz.results16, go_sem, cF]
     ·rw [HR.out]
      exact (((((((HX.out.set_ (p := ⟨w.heap.size + 1, 0, none⟩) (by simp <;> omega) _).set_ (p := ⟨w.heap.size + 1, 1, none⟩) (by simp <;> omega) _).set_ (p := ⟨w.heap.size + 1, 2, none⟩) (by simp <;> omega) _).set_ (p := ⟨w.heap.size + 1, 3, none⟩) (by simp <;> omega) _).set_ (p := ⟨w.heap.size + 1, 4, none⟩) (by simp <;> omega) _).set_ (p := ⟨w.heap.size + 1, 5, none⟩) (by simp <;> omega) _)).weak fun g hg => ⟨by omega, by simp; omega⟩
     ·repeat' first | with_reducible exact B1 | with_reducible refine Below.setCell ?_ (by first | exact Nat.le_refl _ | omega | (simp; omega) | simp) _
    ·have e1 : ((m : Int) == 1) = false := by simp; omega
     have HR := Lib.hid (hR0.trans (foldBlock_many hK (by rw [hlm.out]; exact h1)))
     have HN : Hid (OwnP wr _ (c.with l').dats _) := OwnP.node (c := c) (l := l') (by rw [hlm.out]; exact hM)
     clear hM h1 hR0 hK
     go_wp2_with fail
     have hF := ((((((br.set_ 0 (.int .i64 c.kind)).set_ 1 (.int .i64 c.op)).set_ 2 (.int .i64 c.number)).set_ 3 (.int .i64 c.line)).set_ 4 (.string c.text)).set_ 5 (.slice v0 m n0))
     have cF := hF.cell
     refine bodyPost_ret (v := .agg #[.int .i64 c.kind, .int .i64 c.op, .int .i64 c.number, .int .i64 c.line, .string c.text, .slice v0 m n0]) ?_ rfl ⟨(#[Value.int .i64 c.kind, .int .i64 c.op, .int .i64 c.number, .int .i64 c.line, .string c.text, .slice v0 m n0] : Array Value).toList, rfl, ?_, ?_⟩
     ·simp [results, Tryz.results16, go_sem, cF]
     ·rw [HR.out]
      exact (((((((HN.out.set_ (p := ⟨w.heap.size + 1, 0, none⟩) (by simp <;> omega) _).set_ (p := ⟨w.heap.size + 1, 1, none⟩) (by simp <;> omega) _).set_ (p := ⟨w.heap.size + 1, 2, none⟩) (by simp <;> omega) _).set_ (p := ⟨w.heap.size + 1, 3, none⟩) (by simp <;> omega) _).set_ (p := ⟨w.heap.size + 1, 4, none⟩) (by simp <;> omega) _).set_ (p := ⟨w.heap.size + 1, 5, none⟩) (by simp <;> omega) _)).weak fun g hg => ⟨by omega, by simp; omega⟩
     ·repeat' first | with_reducible exact B1 | with_reducible refine Below.setCell ?_ (by first | exact Nat.le_refl _ | omega | (simp; omega) | simp) _
   rw [selL_all k16] at hl'
   subst hl'
   obtain rfl : m = c.kids.length := by rw [← hlm.out, List.length_map]
   have HLL : Hid ((c.kids.map foldT).length = c.kids.length) := hlm
   have HN : Hid (OwnP wr _ (c.with (c.kids.map foldT)).dats _) := OwnP.node (c := c) (l := (c.kids.map foldT)) (by rw [HLL.out]; exact hM)
   by_cases k11 : c.kind = 11
   ·have hT : foldT c = foldOp (c.with (c.kids.map foldT)) := HT.out.trans (foldNode_11 (c := c.with (c.kids.map foldT)) k11)
    have e11 : (c.kind == 11) = true := by simp [k11]
    have HC : Hid (Calls Tryz.prog 41 #[.agg #[.int .i64 c.kind, .int .i64 c.op, .int .i64 c.number, .int .i64 c.line, .string c.text, .slice v0 c.kids.length n0]] wr (Gives (foldOpV (c.with (c.kids.map foldT)) v0 n0) wr)) := by
     obtain ⟨ho1, ho2⟩ := HFC.out.k11 k11
     have hLr : LRep wr (w.heap.size + 3) wr.heap.size 6 CoreT.dats (.slice v0 c.kids.length n0) (c.kids.map foldT) := OwnP.lrep (by rw [HLL.out]; exact hM) (fun g hg => hg)
     have h := spec_l34Operate (c.with (c.kids.map foldT)) v0 n0 wr (w.heap.size + 3) wr.heap.size (by rw [show (c.with (c.kids.map foldT)).kids.length = c.kids.length from HLL.out]; exact hLr) (Nat.le_refl _) (by rw [show (c.with (c.kids.map foldT)).kids.length = c.kids.length from HLL.out]; exact hb1) ho1 (by rw [show (c.with (c.kids.map foldT)).kids.length = c.kids.length from HLL.out]; exact ho2) (fun x hx => by obtain ⟨x0, hx0, rfl⟩ := List.mem_map.1 hx; exact litC_fold (HFC.out.kids x0 hx0))
     rw [show (c.with (c.kids.map foldT)).kids.length = c.kids.length from HLL.out] at h
     exact h
    cases hfb : foldsB (c.with (c.kids.map foldT)) with
    | true =>
      have hV := foldOpV_yes (A := v0) (n := n0) hfb
      unfold leafV at hV
      rw [hV] at HC
      have hy := foldOp_leaf hfb
      have HR := Lib.hid hT
      clear hV hfb hT
      generalize foldOp (c.with (c.kids.map foldT)) = y at *
      have HY := Lib.hid hy
      clear k11 k16 hy hM
      go_wp2_with fail
      refine HC.out.mono ?_; rintro e w2 ⟨rfl, hb2⟩
      have HO : Hid (OwnP w2 (fun g => w.heap.size + 3 ≤ g ∧ g < w2.heap.size) y.dats _) := own_leaf HY.out
      have B2 : Below w.heap.size w w2 := B1.trans (hb2.mono B1.size)
      replace br := br.later hb2
      clear cbr fbr lbr cbk fbk lbk cbo fbo lbo
      obtain ⟨cbr, lbr, fbr⟩ := br.all
      have hs2 := hb2.size
      go_wp2_with fail
      have hF := ((((((br.set_ 0 (.int .i64 y.kind)).set_ 1 (.int .i64 y.op)).set_ 2 (.int .i64 y.number)).set_ 3 (.int .i64 y.line)).set_ 4 (.string y.text)).set_ 5 (.slice none 0 0))
      have cF := hF.cell
      refine bodyPost_ret (v := .agg #[.int .i64 y.kind, .int .i64 y.op, .int .i64 y.number, .int .i64 y.line, .string y.text, .slice none 0 0]) ?_ rfl ⟨(#[Value.int .i64 y.kind, .int .i64 y.op, .int .i64 y.number, .int .i64 y.line, .string y.text, .slice none 0 0] : Array Value).toList, rfl, ?_, ?_⟩
      ·simp [results, Tryz.results16, go_sem, cF]
      ·rw [HR.out]
       exact (((((((HO.out.set_ (p := ⟨w.heap.size + 1, 0, none⟩) (by simp <;> omega) _).set_ (p := ⟨w.heap.size + 1, 1, none⟩) (by simp <;> omega) _).set_ (p := ⟨w.heap.size + 1, 2, none⟩) (by simp <;> omega) _).set_ (p := ⟨w.heap.size + 1, 3, none⟩) (by simp <;> omega) _).set_ (p := ⟨w.heap.size + 1, 4, none⟩) (by simp <;> omega) _).set_ (p := ⟨w.heap.size + 1, 5, none⟩) (by simp <;> omega) _)).weak fun g hg => ⟨by omega, by simp; omega⟩
      ·repeat' first | with_reducible exact B2 | with_reducible refine Below.setCell ?_ (by first | exact Nat.le_refl _ | omega | (simp; omega) | simp) _
    | false =>
      have hV := foldOpV_no (A := v0) (n := n0) hfb
      rw [show (c.with (c.kids.map foldT)).kids.length = c.kids.length from HLL.out] at hV
      rw [hV] at HC
      have HR : Hid (foldT c = c.with (c.kids.map foldT)) := hT.trans (foldOp_same hfb)
      clear hV hfb hT k11 k16 hM
      have HC' : Hid (Calls Tryz.prog 41 #[.agg #[.int .i64 c.kind, .int .i64 c.op, .int .i64 c.number, .int .i64 c.line, .string c.text, .slice v0 c.kids.length n0]] wr (Gives (.agg #[.int .i64 c.kind, .int .i64 c.op, .int .i64 c.number, .int .i64 c.line, .string c.text, .slice v0 c.kids.length n0]) wr)) := HC
      clear HC
      go_wp2_with fail
      refine HC'.out.mono ?_; rintro e w2 ⟨rfl, hb2⟩
      have HO := Lib.hid (HN.out.later hb2)
      have B2 : Below w.heap.size w w2 := B1.trans (hb2.mono B1.size)
      replace br := br.later hb2
      clear cbr fbr lbr cbk fbk lbk cbo fbo lbo
      obtain ⟨cbr, lbr, fbr⟩ := br.all
      have hs2 := hb2.size
      go_wp2_with fail
      have hF := ((((((br.set_ 0 (.int .i64 c.kind)).set_ 1 (.int .i64 c.op)).set_ 2 (.int .i64 c.number)).set_ 3 (.int .i64 c.line)).set_ 4 (.string c.text)).set_ 5 (.slice v0 c.kids.length n0))
      have cF := hF.cell
      refine bodyPost_ret (v := .agg #[.int .i64 c.kind, .int .i64 c.op, .int .i64 c.number, .int .i64 c.line, .string c.text, .slice v0 c.kids.length n0]) ?_ rfl ⟨(#[Value.int .i64 c.kind, .int .i64 c.op, .int .i64 c.number, .int .i64 c.line, .string c.text, .slice v0 c.kids.length n0] : Array Value).toList, rfl, ?_, ?_⟩
      ·simp [results, Tryz.results16, go_sem, cF]
      ·rw [HR.out]
       exact (((((((HO.out.set_ (p := ⟨w.heap.size + 1, 0, none⟩) (by simp <;> omega) _).set_ (p := ⟨w.heap.size + 1, 1, none⟩) (by simp <;> omega) _).set_ (p := ⟨w.heap.size + 1, 2, none⟩) (by simp <;> omega) _).set_ (p := ⟨w.heap.size + 1, 3, none⟩) (by simp <;> omega) _).set_ (p := ⟨w.heap.size + 1, 4, none⟩) (by simp <;> omega) _).set_ (p := ⟨w.heap.size + 1, 5, none⟩) (by simp <;> omega) _)).weak fun g hg => ⟨by omega, by simp; omega⟩
      ·repeat' first | with_reducible exact B2 | with_reducible refine Below.setCell ?_ (by first | exact Nat.le_refl _ | omega | (simp; omega) | simp) _
   by_cases k13 : c.kind = 13
   ·have hT : foldT c = foldAlt (c.with (c.kids.map foldT)) := HT.out.trans (foldNode_13 (c := c.with (c.kids.map foldT)) k13)
    have hlen : (c.kids.map foldT).length = 2 := HLL.out.trans (HFC.out.k13 k13)
    have e11 : (c.kind == 11) = false := by simp [k13]
    have e13 : (c.kind == 13) = true := by simp [k13]
    obtain ⟨a, b, hab⟩ : ∃ a b, (c.kids.map foldT) = [a, b] := by
     match (c.kids.map foldT), hlen with
     | [a, b], _ => exact ⟨a, b, rfl⟩
    rw [← HLL.out] at hM
    obtain ⟨g0, cap0, Aa, na, hv, hg0, hca, hOa⟩ := hM.elem (j := 0) (x := a) (by rw [hab]; rfl)
    injection hv with hv1 hv2 hv3
    subst hv1 hv3
    clear hv2
    obtain ⟨g1, cap1, Ab, nb, hv, hg1, hcb, hOb⟩ := hM.elem (j := 1) (x := b) (by rw [hab]; rfl)
    injection hv with hv1 hv2 hv3
    injection hv1 with hv1
    injection hv1 with hv1 hv4 hv5
    subst hv1
    clear hv2 hv3
    have qa0 : wr.cell? ⟨g0, 0, none⟩ = some (.int .i64 a.kind) := by simpa using hca 0 _ rfl
    have qa1 : wr.cell? ⟨g0, 1, none⟩ = some (.int .i64 a.op) := by simpa using hca 1 _ rfl
    have qa2 : wr.cell? ⟨g0, 2, none⟩ = some (.int .i64 a.number) := by simpa using hca 2 _ rfl
    have qa3 : wr.cell? ⟨g0, 3, none⟩ = some (.int .i64 a.line) := by simpa using hca 3 _ rfl
    have qa4 : wr.cell? ⟨g0, 4, none⟩ = some (.string a.text) := by simpa using hca 4 _ rfl
    have qa5 : wr.cell? ⟨g0, 5, none⟩ = some (.slice Aa a.kids.length na) := by simpa using hca 5 _ rfl
    have HOa := Lib.hid hOa
    have qb0 : wr.cell? ⟨g0, 6, none⟩ = some (.int .i64 b.kind) := by simpa using hcb 0 _ rfl
    have qb1 : wr.cell? ⟨g0, 7, none⟩ = some (.int .i64 b.op) := by simpa using hcb 1 _ rfl
    have qb2 : wr.cell? ⟨g0, 8, none⟩ = some (.int .i64 b.number) := by simpa using hcb 2 _ rfl
    have qb3 : wr.cell? ⟨g0, 9, none⟩ = some (.int .i64 b.line) := by simpa using hcb 3 _ rfl
    have qb4 : wr.cell? ⟨g0, 10, none⟩ = some (.string b.text) := by simpa using hcb 4 _ rfl
    have qb5 : wr.cell? ⟨g0, 11, none⟩ = some (.slice Ab b.kids.length nb) := by simpa using hcb 5 _ rfl
    have HOb := Lib.hid hOb
    have hL := HLL.out.symm.trans hlen
    have l0 : (0 : Int) < (c.kids.length : Int) := by omega
    have l1 : (1 : Int) < (c.kids.length : Int) := by omega
    have m0 : 0 < c.kids.length := by omega
    have m1 : 1 < c.kids.length := by omega
    clear hL hlen hM hca hOa hcb hOb
    have hF0 : foldT c = if a.kind = 28 then b else if b.kind = 28 then a else c.with (c.kids.map foldT) := by rw [hT]; unfold foldAlt; rw [show (c.with (c.kids.map foldT)).kids = [a, b] from hab]
    clear hT hab k11 k13 k16
    by_cases ka : a.kind = 28
    ·have ea : (a.kind == 28) = true := by simp [ka]
     have HR : Hid (foldT c = b) := hF0.trans (if_pos ka)
     clear hF0 ka
     go_wp2_with fail
     have hF := ((((((br.set_ 0 (.int .i64 b.kind)).set_ 1 (.int .i64 b.op)).set_ 2 (.int .i64 b.number)).set_ 3 (.int .i64 b.line)).set_ 4 (.string b.text)).set_ 5 (.slice Ab b.kids.length nb))
     have cF := hF.cell
     refine bodyPost_ret (v := .agg #[.int .i64 b.kind, .int .i64 b.op, .int .i64 b.number, .int .i64 b.line, .string b.text, .slice Ab b.kids.length nb]) ?_ rfl ⟨(#[Value.int .i64 b.kind, .int .i64 b.op, .int .i64 b.number, .int .i64 b.line, .string b.text, .slice Ab b.kids.length nb] : Array Value).toList, rfl, ?_, ?_⟩
     ·simp [results, Tryz.results16, go_sem, cF]
     ·rw [HR.out]
      exact (((((((HOb.out.set_ (p := ⟨w.heap.size + 1, 0, none⟩) (by simp <;> omega) _).set_ (p := ⟨w.heap.size + 1, 1, none⟩) (by simp <;> omega) _).set_ (p := ⟨w.heap.size + 1, 2, none⟩) (by simp <;> omega) _).set_ (p := ⟨w.heap.size + 1, 3, none⟩) (by simp <;> omega) _).set_ (p := ⟨w.heap.size + 1, 4, none⟩) (by simp <;> omega) _).set_ (p := ⟨w.heap.size + 1, 5, none⟩) (by simp <;> omega) _)).weak fun g hg => ⟨by omega, by simp; omega⟩
     ·repeat' first | with_reducible exact B1 | with_reducible refine Below.setCell ?_ (by first | exact Nat.le_refl _ | omega | (simp; omega) | simp) _
    ·have ea : (a.kind == 28) = false := by simpa using ka
     by_cases kb : b.kind = 28
     ·have eb : (b.kind == 28) = true := by simp [kb]
      have HR : Hid (foldT c = a) := hF0.trans ((if_neg ka).trans (if_pos kb))
      clear hF0 ka kb
      go_wp2_with fail
      have hF := ((((((br.set_ 0 (.int .i64 a.kind)).set_ 1 (.int .i64 a.op)).set_ 2 (.int .i64 a.number)).set_ 3 (.int .i64 a.line)).set_ 4 (.string a.text)).set_ 5 (.slice Aa a.kids.length na))
      have cF := hF.cell
      refine bodyPost_ret (v := .agg #[.int .i64 a.kind, .int .i64 a.op, .int .i64 a.number, .int .i64 a.line, .string a.text, .slice Aa a.kids.length na]) ?_ rfl ⟨(#[Value.int .i64 a.kind, .int .i64 a.op, .int .i64 a.number, .int .i64 a.line, .string a.text, .slice Aa a.kids.length na] : Array Value).toList, rfl, ?_, ?_⟩
      ·simp [results, Tryz.results16, go_sem, cF]
      ·rw [HR.out]
       exact (((((((HOa.out.set_ (p := ⟨w.heap.size + 1, 0, none⟩) (by simp <;> omega) _).set_ (p := ⟨w.heap.size + 1, 1, none⟩) (by simp <;> omega) _).set_ (p := ⟨w.heap.size + 1, 2, none⟩) (by simp <;> omega) _).set_ (p := ⟨w.heap.size + 1, 3, none⟩) (by simp <;> omega) _).set_ (p := ⟨w.heap.size + 1, 4, none⟩) (by simp <;> omega) _).set_ (p := ⟨w.heap.size + 1, 5, none⟩) (by simp <;> omega) _)).weak fun g hg => ⟨by omega, by simp; omega⟩
      ·repeat' first | with_reducible exact B1 | with_reducible refine Below.setCell ?_ (by first | exact Nat.le_refl _ | omega | (simp; omega) | simp) _
     ·have eb : (b.kind == 28) = false := by simpa using kb
      have HR : Hid (foldT c = c.with (c.kids.map foldT)) := hF0.trans ((if_neg ka).trans (if_neg kb))
      clear hF0 ka kb
      go_wp2_with fail
      have hF := ((((((br.set_ 0 (.int .i64 c.kind)).set_ 1 (.int .i64 c.op)).set_ 2 (.int .i64 c.number)).set_ 3 (.int .i64 c.line)).set_ 4 (.string c.text)).set_ 5 (.slice (some ⟨g0, 0, none⟩) c.kids.length n0))
      have cF := hF.cell
      refine bodyPost_ret (v := .agg #[.int .i64 c.kind, .int .i64 c.op, .int .i64 c.number, .int .i64 c.line, .string c.text, .slice (some ⟨g0, 0, none⟩) c.kids.length n0]) ?_ rfl ⟨(#[Value.int .i64 c.kind, .int .i64 c.op, .int .i64 c.number, .int .i64 c.line, .string c.text, .slice (some ⟨g0, 0, none⟩) c.kids.length n0] : Array Value).toList, rfl, ?_, ?_⟩
      ·simp [results, Tryz.results16, go_sem, cF]
      ·rw [HR.out]
       exact (((((((HN.out.set_ (p := ⟨w.heap.size + 1, 0, none⟩) (by simp <;> omega) _).set_ (p := ⟨w.heap.size + 1, 1, none⟩) (by simp <;> omega) _).set_ (p := ⟨w.heap.size + 1, 2, none⟩) (by simp <;> omega) _).set_ (p := ⟨w.heap.size + 1, 3, none⟩) (by simp <;> omega) _).set_ (p := ⟨w.heap.size + 1, 4, none⟩) (by simp <;> omega) _).set_ (p := ⟨w.heap.size + 1, 5, none⟩) (by simp <;> omega) _)).weak fun g hg => ⟨by omega, by simp; omega⟩
      ·repeat' first | with_reducible exact B1 | with_reducible refine Below.setCell ?_ (by first | exact Nat.le_refl _ | omega | (simp; omega) | simp) _
   by_cases k17 : c.kind = 17
   ·have hT : foldT c = foldIf (c.with (c.kids.map foldT)) := HT.out.trans (foldNode_17 (c := c.with (c.kids.map foldT)) k17)
    have hlen : (c.kids.map foldT).length = 3 := HLL.out.trans (HFC.out.k17 k17)
    have HLC : Hid (∀ x ∈ (c.kids.map foldT), LitC x) := fun x hx => by obtain ⟨x0, hx0, rfl⟩ := List.mem_map.1 hx; exact litC_fold (HFC.out.kids x0 hx0)
    have e11 : (c.kind == 11) = false := by simp [k17]
    have e13 : (c.kind == 13) = false := by simp [k17]
    have e16 : (c.kind == 16) = false := by simp [k17]
    have e17 : (c.kind == 17) = true := by simp [k17]
    obtain ⟨a, b, d, hab⟩ : ∃ a b d, (c.kids.map foldT) = [a, b, d] := by
     match (c.kids.map foldT), hlen with
     | [a, b, d], _ => exact ⟨a, b, d, rfl⟩
    rw [← HLL.out] at hM
    obtain ⟨g0, cap0, Aa, na, hv, hg0, hca, hOa⟩ := hM.elem (j := 0) (x := a) (by rw [hab]; rfl)
    injection hv with hv1 hv2 hv3
    subst hv1 hv3
    clear hv2
    obtain ⟨g1, cap1, Ab, nb, hv, hg1, hcb, hOb⟩ := hM.elem (j := 1) (x := b) (by rw [hab]; rfl)
    injection hv with hv1 hv2 hv3
    injection hv1 with hv1
    injection hv1 with hv1 hv4 hv5
    subst hv1
    clear hv2 hv3
    obtain ⟨g2, cap2, Ad, nd, hv, hg2, hcd, hOd⟩ := hM.elem (j := 2) (x := d) (by rw [hab]; rfl)
    injection hv with hv1 hv2 hv3
    injection hv1 with hv1
    injection hv1 with hv1 hv4 hv5
    subst hv1
    clear hv2 hv3
    have qa0 : wr.cell? ⟨g0, 0, none⟩ = some (.int .i64 a.kind) := by simpa using hca 0 _ rfl
    have qa1 : wr.cell? ⟨g0, 1, none⟩ = some (.int .i64 a.op) := by simpa using hca 1 _ rfl
    have qa2 : wr.cell? ⟨g0, 2, none⟩ = some (.int .i64 a.number) := by simpa using hca 2 _ rfl
    have qa3 : wr.cell? ⟨g0, 3, none⟩ = some (.int .i64 a.line) := by simpa using hca 3 _ rfl
    have qa4 : wr.cell? ⟨g0, 4, none⟩ = some (.string a.text) := by simpa using hca 4 _ rfl
    have qa5 : wr.cell? ⟨g0, 5, none⟩ = some (.slice Aa a.kids.length na) := by simpa using hca 5 _ rfl
    have HOa := Lib.hid hOa
    have qb0 : wr.cell? ⟨g0, 6, none⟩ = some (.int .i64 b.kind) := by simpa using hcb 0 _ rfl
    have qb1 : wr.cell? ⟨g0, 7, none⟩ = some (.int .i64 b.op) := by simpa using hcb 1 _ rfl
    have qb2 : wr.cell? ⟨g0, 8, none⟩ = some (.int .i64 b.number) := by simpa using hcb 2 _ rfl
    have qb3 : wr.cell? ⟨g0, 9, none⟩ = some (.int .i64 b.line) := by simpa using hcb 3 _ rfl
    have qb4 : wr.cell? ⟨g0, 10, none⟩ = some (.string b.text) := by simpa using hcb 4 _ rfl
    have qb5 : wr.cell? ⟨g0, 11, none⟩ = some (.slice Ab b.kids.length nb) := by simpa using hcb 5 _ rfl
    have HOb := Lib.hid hOb
    have qd0 : wr.cell? ⟨g0, 12, none⟩ = some (.int .i64 d.kind) := by simpa using hcd 0 _ rfl
    have qd1 : wr.cell? ⟨g0, 13, none⟩ = some (.int .i64 d.op) := by simpa using hcd 1 _ rfl
    have qd2 : wr.cell? ⟨g0, 14, none⟩ = some (.int .i64 d.number) := by simpa using hcd 2 _ rfl
    have qd3 : wr.cell? ⟨g0, 15, none⟩ = some (.int .i64 d.line) := by simpa using hcd 3 _ rfl
    have qd4 : wr.cell? ⟨g0, 16, none⟩ = some (.string d.text) := by simpa using hcd 4 _ rfl
    have qd5 : wr.cell? ⟨g0, 17, none⟩ = some (.slice Ad d.kids.length nd) := by simpa using hcd 5 _ rfl
    have HOd := Lib.hid hOd
    have hL := HLL.out.symm.trans hlen
    have l0 : (0 : Int) < (c.kids.length : Int) := by omega
    have l1 : (1 : Int) < (c.kids.length : Int) := by omega
    have l2 : (2 : Int) < (c.kids.length : Int) := by omega
    have m0 : 0 < c.kids.length := by omega
    have m1 : 1 < c.kids.length := by omega
    have m2 : 2 < c.kids.length := by omega
    clear hL hlen hM hca hOa hcb hOb hcd hOd
    have hF0 : foldT c = if litB a = true then b else if a.kind = 28 then d else c.with (c.kids.map foldT) := by rw [hT]; unfold foldIf; rw [show (c.with (c.kids.map foldT)).kids = [a, b, d] from hab]
    have HA : Hid (LitC a) := HLC.out a (by rw [hab]; simp)
    obtain ⟨ka, na', sa, la, ha, e1, -⟩ := (if litB a = true then litOf a else .null).cells_form
    have hgW : g0 < wr.heap.size := hg0.2
    clear hT hab k11 k13 k16 k17 HLC
    obtain ⟨lb, hlb⟩ : ∃ b, litB a = b := ⟨_, rfl⟩
    have HCL : Hid (Calls Tryz.prog 40 #[.agg #[.int .i64 a.kind, .int .i64 a.op, .int .i64 a.number, .int .i64 a.line, .string a.text, .slice Aa a.kids.length na]] wr (Gives (.tuple #[.agg #[.int .i64 ka, .int .i64 na', .int .i64 0, .string sa, .int .i64 la, .int .i64 ha], .bool lb]) wr)) := by
     have h := spec_l34Literal a HA.out.2 Aa a.kids.length na wr
     rw [e1, hlb] at h
     exact h
    rw [hlb] at hF0
    have HF0 := Lib.hid hF0
    clear e1 hlb hF0
    go_wp2_with fail
    refine HCL.out.mono ?_; rintro e w2 ⟨rfl, hb2⟩
    clear HCL
    have B2 : Below w.heap.size w w2 := B1.trans (hb2.mono B1.size)
    replace bk := bk.later hb2
    replace br := br.later hb2
    replace bo := bo.later hb2
    clear cbr fbr lbr cbk fbk lbk cbo fbo lbo
    obtain ⟨cbk, lbk, fbk⟩ := bk.all
    obtain ⟨cbr, lbr, fbr⟩ := br.all
    obtain ⟨cbo, lbo, fbo⟩ := bo.all
    replace qa0 := (hb2.cell (p := ⟨g0, 0, none⟩) hgW).trans qa0
    replace qa1 := (hb2.cell (p := ⟨g0, 1, none⟩) hgW).trans qa1
    replace qa2 := (hb2.cell (p := ⟨g0, 2, none⟩) hgW).trans qa2
    replace qa3 := (hb2.cell (p := ⟨g0, 3, none⟩) hgW).trans qa3
    replace qa4 := (hb2.cell (p := ⟨g0, 4, none⟩) hgW).trans qa4
    replace qa5 := (hb2.cell (p := ⟨g0, 5, none⟩) hgW).trans qa5
    replace qb0 := (hb2.cell (p := ⟨g0, 6, none⟩) hgW).trans qb0
    replace qb1 := (hb2.cell (p := ⟨g0, 7, none⟩) hgW).trans qb1
    replace qb2 := (hb2.cell (p := ⟨g0, 8, none⟩) hgW).trans qb2
    replace qb3 := (hb2.cell (p := ⟨g0, 9, none⟩) hgW).trans qb3
    replace qb4 := (hb2.cell (p := ⟨g0, 10, none⟩) hgW).trans qb4
    replace qb5 := (hb2.cell (p := ⟨g0, 11, none⟩) hgW).trans qb5
    replace qd0 := (hb2.cell (p := ⟨g0, 12, none⟩) hgW).trans qd0
    replace qd1 := (hb2.cell (p := ⟨g0, 13, none⟩) hgW).trans qd1
    replace qd2 := (hb2.cell (p := ⟨g0, 14, none⟩) hgW).trans qd2
    replace qd3 := (hb2.cell (p := ⟨g0, 15, none⟩) hgW).trans qd3
    replace qd4 := (hb2.cell (p := ⟨g0, 16, none⟩) hgW).trans qd4
    replace qd5 := (hb2.cell (p := ⟨g0, 17, none⟩) hgW).trans qd5
    replace HOa := Lib.hid (HOa.out.later hb2)
    replace HOb := Lib.hid (HOb.out.later hb2)
    replace HOd := Lib.hid (HOd.out.later hb2)
    replace HN := Lib.hid (HN.out.later hb2)
    have hs2 : wr.heap.size ≤ w2.heap.size := hb2.size
    replace hgW : g0 < w2.heap.size := by omega
    clear hb2
    cases lb with
    | true =>
      have HR : Hid (foldT c = b) := HF0.out.trans (if_pos rfl)
      clear HF0
      go_wp2_with fail
      have hF := (((((((br.set_ 0 (.int .i64 b.kind)).set_ 1 (.int .i64 b.op)).set_ 2 (.int .i64 b.number)).set_ 3 (.int .i64 b.line)).set_ 4 (.string b.text)).set_ 5 (.slice Ab b.kids.length nb)).alloc (.cells #[.int .i64 ka, .int .i64 na', .int .i64 0, .string sa, .int .i64 la, .int .i64 ha] 76))
      have cF := hF.cell
      refine bodyPost_ret (v := .agg #[.int .i64 b.kind, .int .i64 b.op, .int .i64 b.number, .int .i64 b.line, .string b.text, .slice Ab b.kids.length nb]) ?_ rfl ⟨(#[Value.int .i64 b.kind, .int .i64 b.op, .int .i64 b.number, .int .i64 b.line, .string b.text, .slice Ab b.kids.length nb] : Array Value).toList, rfl, ?_, ?_⟩
      ·simp [results, Tryz.results16, go_sem, cF]
      ·rw [HR.out]
       exact ((((((((HOb.out.set_ (p := ⟨w.heap.size + 1, 0, none⟩) (by simp <;> omega) _).set_ (p := ⟨w.heap.size + 1, 1, none⟩) (by simp <;> omega) _).set_ (p := ⟨w.heap.size + 1, 2, none⟩) (by simp <;> omega) _).set_ (p := ⟨w.heap.size + 1, 3, none⟩) (by simp <;> omega) _).set_ (p := ⟨w.heap.size + 1, 4, none⟩) (by simp <;> omega) _).set_ (p := ⟨w.heap.size + 1, 5, none⟩) (by simp <;> omega) _).later ((Below.refl _ _).alloc (Nat.le_refl _) (.cells #[.int .i64 ka, .int .i64 na', .int .i64 0, .string sa, .int .i64 la, .int .i64 ha] 76)))).weak fun g hg => ⟨by omega, by simp; omega⟩
      ·repeat' first | with_reducible exact B2 | with_reducible refine Below.setCell ?_ (by first | exact Nat.le_refl _ | omega | (simp; omega) | simp) _ | with_reducible refine Below.alloc ?_ (by have := B2.size; first | omega | (simp; omega)) _
    | false =>
      have hF1 := HF0.out.trans (if_neg (by decide))
      clear HF0
      by_cases ka8 : a.kind = 28
      ·have ea : (a.kind == 28) = true := by simp [ka8]
       have HR : Hid (foldT c = d) := hF1.trans (if_pos ka8)
       clear hF1 ka8
       go_wp2_with fail
       have hF := (((((((br.set_ 0 (.int .i64 d.kind)).set_ 1 (.int .i64 d.op)).set_ 2 (.int .i64 d.number)).set_ 3 (.int .i64 d.line)).set_ 4 (.string d.text)).set_ 5 (.slice Ad d.kids.length nd)).alloc (.cells #[.int .i64 ka, .int .i64 na', .int .i64 0, .string sa, .int .i64 la, .int .i64 ha] 76))
       have cF := hF.cell
       refine bodyPost_ret (v := .agg #[.int .i64 d.kind, .int .i64 d.op, .int .i64 d.number, .int .i64 d.line, .string d.text, .slice Ad d.kids.length nd]) ?_ rfl ⟨(#[Value.int .i64 d.kind, .int .i64 d.op, .int .i64 d.number, .int .i64 d.line, .string d.text, .slice Ad d.kids.length nd] : Array Value).toList, rfl, ?_, ?_⟩
       ·simp [results, Tryz.results16, go_sem, cF]
       ·rw [HR.out]
        exact ((((((((HOd.out.set_ (p := ⟨w.heap.size + 1, 0, none⟩) (by simp <;> omega) _).set_ (p := ⟨w.heap.size + 1, 1, none⟩) (by simp <;> omega) _).set_ (p := ⟨w.heap.size + 1, 2, none⟩) (by simp <;> omega) _).set_ (p := ⟨w.heap.size + 1, 3, none⟩) (by simp <;> omega) _).set_ (p := ⟨w.heap.size + 1, 4, none⟩) (by simp <;> omega) _).set_ (p := ⟨w.heap.size + 1, 5, none⟩) (by simp <;> omega) _).later ((Below.refl _ _).alloc (Nat.le_refl _) (.cells #[.int .i64 ka, .int .i64 na', .int .i64 0, .string sa, .int .i64 la, .int .i64 ha] 76)))).weak fun g hg => ⟨by omega, by simp; omega⟩
       ·repeat' first | with_reducible exact B2 | with_reducible refine Below.setCell ?_ (by first | exact Nat.le_refl _ | omega | (simp; omega) | simp) _ | with_reducible refine Below.alloc ?_ (by have := B2.size; first | omega | (simp; omega)) _
      ·have ea : (a.kind == 28) = false := by simpa using ka8
       have HR : Hid (foldT c = c.with (c.kids.map foldT)) := hF1.trans (if_neg ka8)
       clear hF1 ka8
       go_wp2_with fail
       have hF := (((((((br.set_ 0 (.int .i64 c.kind)).set_ 1 (.int .i64 c.op)).set_ 2 (.int .i64 c.number)).set_ 3 (.int .i64 c.line)).set_ 4 (.string c.text)).set_ 5 (.slice (some ⟨g0, 0, none⟩) c.kids.length n0)).alloc (.cells #[.int .i64 ka, .int .i64 na', .int .i64 0, .string sa, .int .i64 la, .int .i64 ha] 76))
       have cF := hF.cell
       refine bodyPost_ret (v := .agg #[.int .i64 c.kind, .int .i64 c.op, .int .i64 c.number, .int .i64 c.line, .string c.text, .slice (some ⟨g0, 0, none⟩) c.kids.length n0]) ?_ rfl ⟨(#[Value.int .i64 c.kind, .int .i64 c.op, .int .i64 c.number, .int .i64 c.line, .string c.text, .slice (some ⟨g0, 0, none⟩) c.kids.length n0] : Array Value).toList, rfl, ?_, ?_⟩
       ·simp [results, Tryz.results16, go_sem, cF]
       ·rw [HR.out]
        exact ((((((((HN.out.set_ (p := ⟨w.heap.size + 1, 0, none⟩) (by simp <;> omega) _).set_ (p := ⟨w.heap.size + 1, 1, none⟩) (by simp <;> omega) _).set_ (p := ⟨w.heap.size + 1, 2, none⟩) (by simp <;> omega) _).set_ (p := ⟨w.heap.size + 1, 3, none⟩) (by simp <;> omega) _).set_ (p := ⟨w.heap.size + 1, 4, none⟩) (by simp <;> omega) _).set_ (p := ⟨w.heap.size + 1, 5, none⟩) (by simp <;> omega) _).later ((Below.refl _ _).alloc (Nat.le_refl _) (.cells #[.int .i64 ka, .int .i64 na', .int .i64 0, .string sa, .int .i64 la, .int .i64 ha] 76)))).weak fun g hg => ⟨by omega, by simp; omega⟩
       ·repeat' first | with_reducible exact B2 | with_reducible refine Below.setCell ?_ (by first | exact Nat.le_refl _ | omega | (simp; omega) | simp) _ | with_reducible refine Below.alloc ?_ (by have := B2.size; first | omega | (simp; omega)) _
   have e11 : (c.kind == 11) = false := by simpa using k11
   have e13 : (c.kind == 13) = false := by simpa using k13
   have e16 : (c.kind == 16) = false := by simpa using k16
   have e17 : (c.kind == 17) = false := by simpa using k17
   have HR : Hid (foldT c = c.with (c.kids.map foldT)) := HT.out.trans (foldNode_no k11 k13 k16 k17)
   clear k11 k13 k16 k17 hM
   go_wp2_with fail
   have hF := ((((((br.set_ 0 (.int .i64 c.kind)).set_ 1 (.int .i64 c.op)).set_ 2 (.int .i64 c.number)).set_ 3 (.int .i64 c.line)).set_ 4 (.string c.text)).set_ 5 (.slice v0 c.kids.length n0))
   have cF := hF.cell
   refine bodyPost_ret (v := .agg #[.int .i64 c.kind, .int .i64 c.op, .int .i64 c.number, .int .i64 c.line, .string c.text, .slice v0 c.kids.length n0]) ?_ rfl ⟨(#[Value.int .i64 c.kind, .int .i64 c.op, .int .i64 c.number, .int .i64 c.line, .string c.text, .slice v0 c.kids.length n0] : Array Value).toList, rfl, ?_, ?_⟩
   ·simp [results, Tryz.results16, go_sem, cF]
   ·rw [HR.out]
    exact (((((((HN.out.set_ (p := ⟨w.heap.size + 1, 0, none⟩) (by simp <;> omega) _).set_ (p := ⟨w.heap.size + 1, 1, none⟩) (by simp <;> omega) _).set_ (p := ⟨w.heap.size + 1, 2, none⟩) (by simp <;> omega) _).set_ (p := ⟨w.heap.size + 1, 3, none⟩) (by simp <;> omega) _).set_ (p := ⟨w.heap.size + 1, 4, none⟩) (by simp <;> omega) _).set_ (p := ⟨w.heap.size + 1, 5, none⟩) (by simp <;> omega) _)).weak fun g hg => ⟨by omega, by simp; omega⟩
   ·repeat' first | with_reducible exact B1 | with_reducible refine Below.setCell ?_ (by first | exact Nat.le_refl _ | omega | (simp; omega) | simp) _
theorem spec_l34Fold (c : CoreT) : FoldOkS c := CoreT.ind (P := FoldOkS) l34Fold_of c
end Go.Proofs.YtjeomamdlmoghaaGreatDoor
end
