/- l34Operate of the reference. -/
import Derived.Test.YtjeomamdlmoghaaGreatDoorQ00
import Derived.Test.YtjeomamdlmoghaaGreatDoorQSq
import Derived.Test.YtjeomamdlmoghaaGreatDoorQ10
import Derived.Test.YtjeomamdlmoghaaGreatDoorQ24
import Derived.Test.YtjeomamdlmoghaaGreatDoorQ25
import Derived.Deep.RegionHeld3
set_option maxRecDepth 100000
set_option maxHeartbeats 8000000
set_option linter.unusedVariables false
set_option linter.unusedSimpArgs false
section
namespace Go.Proofs.YtjeomamdlmoghaaGreatDoor
open Go.RowKit
theorem info_Value : (Tryz.prog.info? 76).map (fun i => (i.zero, i.size, i.bytes)) = some (some (.agg #[.int .i64 0, .int .i64 0, .int .i64 0, .string ⟨#[]⟩, .int .i64 0, .int .i64 0]), 6, 56) := by kernel_rfl
def LitT.cells : LitT → List Value
 | .null => [.int .i64 0, .int .i64 0, .int .i64 0, .string ⟨#[]⟩, .int .i64 0, .int .i64 0]
 | .int n => [.int .i64 1, .int .i64 n, .int .i64 0, .string ⟨#[]⟩, .int .i64 0, .int .i64 0]
 | .text s => [.int .i64 2, .int .i64 0, .int .i64 0, .string s, .int .i64 0, .int .i64 0]
 | .set c => [.int .i64 3, .int .i64 0, .int .i64 0, .string ⟨#[]⟩, .int .i64 c.lo.toInt, .int .i64 c.hi.toInt]
theorem LitT.cells_form (v : LitT) : ∃ k n s l h, v.val = .agg #[.int .i64 k, .int .i64 n, .int .i64 0, .string s, .int .i64 l, .int .i64 h] ∧ v.cells = [.int .i64 k, .int .i64 n, .int .i64 0, .string s, .int .i64 l, .int .i64 h] := by cases v <;> exact ⟨_, _, _, _, _, rfl, rfl⟩
theorem unR_code (op : Int) (v : LitT) : (unR op v).2 = 0 ∨ 0 < (unR op v).2 := by unfold unR; split <;> split <;> simp
theorem numR_code (n : Int) : (numR n).2 = 0 ∨ (numR n).2 = -1 ∨ 0 < (numR n).2 := by unfold numR; split <;> simp
theorem powR_code (a b : Int) : (powR a b).2 = 0 ∨ (powR a b).2 = -1 ∨ 0 < (powR a b).2 := by unfold powR; repeat' (first | split | (simp; done))
theorem arithR_code (op x y : Int) : (arithR op x y).2 = 0 ∨ (arithR op x y).2 = -1 ∨ 0 < (arithR op x y).2 := by unfold arithR; repeat' (first | exact numR_code _ | exact powR_code _ _ | split | (simp; done))
theorem binR_code (op : Int) (a b : LitT) : (binR op a b).2 = 0 ∨ (binR op a b).2 = -1 ∨ 0 < (binR op a b).2 := by
 unfold binR numsR textsR setsR
 repeat' (first | exact arithR_code _ _ _ | split | (simp; done))
theorem opR_code (c : CoreT) : (opR c).2 = 0 ∨ (opR c).2 = -1 ∨ 0 < (opR c).2 := by
 unfold opR
 repeat' (first | exact binR_code _ _ _ | (rcases unR_code c.op (litOf _) with h | h; exact .inl h; exact .inr (.inr h)) | split | (simp; done))
def litCells (l : List CoreT) : List Value := l.flatMap fun x => (litOf x).cells
theorem litCells_snoc {l : List CoreT} {k : Nat} {x : CoreT} (h : l[k]? = some x) : litCells (l.take (k + 1)) = litCells (l.take k) ++ (litOf x).cells := by unfold litCells; rw [take_snoc_of h, List.flatMap_append]; simp
theorem spec_l34Operate (c : CoreT) (A : Option Addr) (n : Nat) (w : World) (lo hi : Nat) (hk : LRep w lo hi 6 CoreT.dats (.slice A c.kids.length n) c.kids) (hhi : hi ≤ w.heap.size) (hl : c.kids.length ≤ 1048576) (hop : opOk c.op = true) (har : arityLo c.op ≤ c.kids.length ∧ (c.kids.length : Int) ≤ arityHi c.op) (hlc : ∀ x ∈ c.kids, LitC x) :
 Calls Tryz.prog 41 #[.agg #[.int .i64 c.kind, .int .i64 c.op, .int .i64 c.number, .int .i64 c.line, .string c.text, .slice A c.kids.length n]] w (Gives (foldOpV c A n) w) := by
 obtain ⟨A', n', hv, hc1, hc2⟩ := hk.shape
 injection hv with hv1 hv2 hv3
 subst hv1 hv3
 unfold maxLen at hc2
 have HAR := Lib.hid (fold_arity hop har)
 have HLC := Lib.hid hlc
 have HFN : Hid (∀ x ∈ c.kids, litB x = false → foldsB c = false) := fun x hm h => folds_no hm h
 have HFE : Hid (c.kids.all litB = true → foldsB c = (decide ((opR c).2 = -1) || decide ((opR c).2 = 0))) := folds_eq
 have HOP := Lib.hid hop
 obtain ⟨kv, nv, sv, lv, hv0, ev⟩ := (opR c).1.form
 have EV := Lib.hid ev
 clear har hlc hop ev hv2
 obtain ⟨bk, br, B0⟩ := boxes2 w 45 #[.int .i64 c.kind, .int .i64 c.op, .int .i64 c.number, .int .i64 c.line, .string c.text, .slice A c.kids.length n] 45 #[.int .i64 0, .int .i64 0, .int .i64 0, .int .i64 0, .string ⟨#[]⟩, .slice none 0 0]
 go_enter Tryz.func41, Tryz.ntmps41
 go_wp2_with fail
 have own0 := World.ownsRow_made (base := w.heap.size + 2) (e := 76) (size := 6) ((w.alloc (.cells #[.int .i64 c.kind, .int .i64 c.op, .int .i64 c.number, .int .i64 c.line, .string c.text, .slice A c.kids.length n] 45)).alloc (.cells #[.int .i64 0, .int .i64 0, .int .i64 0, .int .i64 0, .string ⟨#[]⟩, .slice none 0 0] 45)) #[] 0 (by simp) (by unfold maxLen; omega) rfl
 have B1 : Below w.heap.size w (((w.alloc (.cells #[.int .i64 c.kind, .int .i64 c.op, .int .i64 c.number, .int .i64 c.line, .string c.text, .slice A c.kids.length n] 45)).alloc (.cells #[.int .i64 0, .int .i64 0, .int .i64 0, .int .i64 0, .string ⟨#[]⟩, .slice none 0 0] 45)).alloc (.cells #[] 76)) := B0.alloc (by simp; omega) _
 have P0 : Hid (World.ownsRow (((w.alloc (.cells #[.int .i64 c.kind, .int .i64 c.op, .int .i64 c.number, .int .i64 c.line, .string c.text, .slice A c.kids.length n] 45)).alloc (.cells #[.int .i64 0, .int .i64 0, .int .i64 0, .int .i64 0, .string ⟨#[]⟩, .slice none 0 0] 45)).alloc (.cells #[] 76)) (w.heap.size + 2) 76 6 (.slice (some ⟨w.heap.size + 2, 0, none⟩) 0 0) 0 (litCells (c.kids.take 0))) := by show World.ownsRow _ _ _ _ _ _ _; simpa [litCells] using own0
 have bk0 := bk.alloc (.cells #[] 76)
 have br0 := br.alloc (.cells #[] 76)
 clear own0 bk br B0
 go_loopw [3, 4] (fun v i wr => ∃ (k n0 : Nat) (v0 : Option Addr), k ≤ c.kids.length ∧ i = .int .i64 k ∧ v = .slice v0 k n0 ∧ Hid (World.ownsRow wr (w.heap.size + 2) 76 6 (.slice v0 k n0) k (litCells (c.kids.take k))) ∧ Hid ((c.kids.take k).all litB = true) ∧ Below w.heap.size w wr ∧ Blk wr w.heap.size 45 #[.int .i64 c.kind, .int .i64 c.op, .int .i64 c.number, .int .i64 c.line, .string c.text, .slice A c.kids.length n] ∧ Blk wr (w.heap.size + 1) 45 #[.int .i64 0, .int .i64 0, .int .i64 0, .int .i64 0, .string ⟨#[]⟩, .slice none 0 0] ∧ w.heap.size + 3 ≤ wr.heap.size) (fun _ i _ => c.kids.length - (intOf i).toNat)
 case atStart => exact ⟨0, 0, _, Nat.zero_le _, rfl, rfl, P0, by simp [Hid], B1, bk0, br0, by simp⟩
 case round =>
  clear P0 B1 bk0 br0
  obtain ⟨k, n0, v0, hkl, rfl, rfl, hP, hgo, B1, bk, br, hsz⟩ := hrel
  obtain ⟨cbk, lbk, fbk⟩ := bk.all
  obtain ⟨cbr, lbr, fbr⟩ := br.all
  by_cases hlt : k < c.kids.length
  ·obtain ⟨x, hx⟩ : ∃ x, c.kids[k]? = some x := ⟨_, List.getElem?_eq_getElem hlt⟩
   have hkr := hk.below B1 hhi
   have hiw : hi ≤ wr.heap.size := Nat.le_trans hhi B1.size
   obtain ⟨g, off, Ax, nx, rfl, hg1, hg2, hmem, -, q0, q1, q2, q3, q4, q5⟩ := CoreT.at_ hkr hx
   have HS := Lib.hid (all_snoc (q := litB) hx)
   have HLS := Lib.hid (litCells_snoc hx)
   have HC := Lib.hid (fun W : World => spec_l34Literal x (HLC.out x hmem).2 Ax x.kids.length nx W)
   cases hl : litB x with
   | false =>
     have HV := Lib.hid (HFN.out x hmem hl)
     rw [hl] at HC
     rw [if_neg (by decide)] at HC
     unfold LitT.val at HC
     clear hx hl hgo HS HLS
     go_wp2_with fail
     refine (HC.out _).mono ?_; rintro e w2 ⟨rfl, hb2⟩
     have bk2 := bk.later hb2
     have br2 := br.later hb2
     have B2 : Below w.heap.size w w2 := B1.trans (hb2.mono B1.size)
     clear cbk fbk lbk cbr fbr lbr q0 q1 q2 q3 q4 q5
     obtain ⟨cbk, lbk, fbk⟩ := bk2.all
     obtain ⟨cbr, lbr, fbr⟩ := br2.all
     go_wp2_with fail
     have hF := (((((((br2.set_ 0 (.int .i64 c.kind)).set_ 1 (.int .i64 c.op)).set_ 2 (.int .i64 c.number)).set_ 3 (.int .i64 c.line)).set_ 4 (.string c.text)).set_ 5 (.slice (some ⟨g, off, none⟩) c.kids.length n)).alloc (.cells #[.int .i64 0, .int .i64 0, .int .i64 0, .string ⟨#[]⟩, .int .i64 0, .int .i64 0] 76))
     have cF := hF.cell
     refine bodyPost_ret (v := .agg #[.int .i64 c.kind, .int .i64 c.op, .int .i64 c.number, .int .i64 c.line, .string c.text, .slice (some ⟨g, off, none⟩) c.kids.length n]) ?_ rfl ⟨?_, ?_⟩
     ·simp [results, Tryz.results41, go_sem, cF]
     ·rw [foldOpV_no HV.out]
     ·repeat' first | with_reducible exact B2 | with_reducible refine Below.setCell ?_ (by first | exact Nat.le_refl _ | omega | (simp; omega) | simp) _ | with_reducible refine Below.alloc ?_ (by have hs := B2.size; first | omega | (simp; omega) | simp) _
   | true =>
     have HG : Hid ((c.kids.take (k + 1)).all litB = true) := by show _ = _; rw [HS.out, hgo.out, hl]; rfl
     rw [hl] at HC
     rw [if_pos rfl] at HC
     obtain ⟨ka, na, sa, la, ha, e1, e2⟩ := (litOf x).cells_form
     rw [e1] at HC
     have HLN : Hid (litCells (c.kids.take (k + 1)) = litCells (c.kids.take k) ++ [Value.int .i64 ka, .int .i64 na, .int .i64 0, .string sa, .int .i64 la, .int .i64 ha]) := by show _ = _; rw [HLS.out, e2]
     clear e1 e2 hx hl hgo HS HLS
     have hown := hP.out
     go_wp2_with fail
     refine (HC.out _).mono ?_; rintro e w2 ⟨rfl, hb2⟩
     have bk2 := bk.later hb2
     have br2 := br.later hb2
     have B2 : Below w.heap.size w w2 := B1.trans (hb2.mono B1.size)
     clear cbk fbk lbk cbr fbr lbr q0 q1 q2 q3 q4 q5
     have b3 : Below w2.heap.size w2 (w2.alloc (.cells #[.int .i64 ka, .int .i64 na, .int .i64 0, .string sa, .int .i64 la, .int .i64 ha] 76)) := (Below.refl _ _).alloc (Nat.le_refl _) _
     have bX := hb2.trans (b3.mono hb2.size)
     have bx := Blk.new w2 76 #[.int .i64 ka, .int .i64 na, .int .i64 0, .string sa, .int .i64 la, .int .i64 ha]
     have cx := bx.cell
     have own2 := own_later hown bX
     have hroom : (k + 1) * 56 ≤ 140737488355328 := by omega
     have hbase : w.heap.size + 2 ≤ (w2.alloc (.cells #[.int .i64 ka, .int .i64 na, .int .i64 0, .string sa, .int .i64 la, .int .i64 ha] 76)).heap.size := by have := bX.size; omega
     go_wp2_with (first | (at_builtin; refine wpList_push_at (w2.heap.size + 1) (by simp) rfl (.tmp 30) (.tmp 32) 107 rfl 76 _ 6 56 info_Value Tryz.underlying107 rfl (by decide) (by decide) (w.heap.size + 2) _ _ _ rfl own2 #[.int .i64 ka, .int .i64 na, .int .i64 0, .string sa, .int .i64 la, .int .i64 ha] 1 _ rfl rfl (by simp [Value.oneCell']) hroom hbase ?_))
     intro v' w3 own3 hgr hat
     have own4 : World.ownsRow w3 (w.heap.size + 2) 76 6 v' (k + 1) (litCells (c.kids.take (k + 1))) := by rw [HLN.out]; exact own3
     obtain ⟨v1, n1, rfl, -⟩ := (Rds.of_own own4).shape
     have HP3 := Lib.hid own4
     have B3 : Below w.heap.size w w3 := (B2.trans (b3.mono B2.size)).grown hgr (by have := bX.size; omega) (fun b hb => by have := (hown.lt b hb).1; omega)
     have bk3 := (bk2.below b3 bk2.lt).grown hgr (fun e => by have := (hown.lt _ e.symm).1; omega)
     have br3 := (br2.below b3 br2.lt).grown hgr (fun e => by have := (hown.lt _ e.symm).1; omega)
     have hs3 : w.heap.size + 3 ≤ w3.heap.size := by have := bX.size; have := hgr.size; omega
     clear own3 own4 hgr hat own2 hown
     go_wp2_with fail
     go_roundw
     case rel => exact ⟨k + 1, n1, v1, by omega, by go_num, rfl, HP3, HG, B3, bk3, br3, hs3⟩
     case measure => simp [intOf] <;> omega
  ·obtain rfl : k = c.kids.length := by omega
   have HALL : Hid (c.kids.all litB = true) := by have := hgo.out; rwa [List.take_length] at this
   have HLI := hP.out
   rw [List.take_length] at HLI
   have HL := Lib.hid HLI
   clear hP hgo hlt HLI
   have bv := Blk.new wr 76 #[.int .i64 0, .int .i64 0, .int .i64 0, .string ⟨#[]⟩, .int .i64 0, .int .i64 0]
   have bw : Below wr.heap.size wr (wr.alloc (.cells #[.int .i64 0, .int .i64 0, .int .i64 0, .string ⟨#[]⟩, .int .i64 0, .int .i64 0] 76)) := (Below.refl wr.heap.size wr).alloc (Nat.le_refl _) _
   go_upto_region 11 with fail
   go_cut [47] (fun v wx => (∃ b : Bool, Hid (decide (c.op = 1 ∨ c.op = 2 ∨ c.op = 6) = b) ∧ v = .bool b) ∧ wx = wr.alloc (.cells #[.int .i64 0, .int .i64 0, .int .i64 0, .string ⟨#[]⟩, .int .i64 0, .int .i64 0] 76))
   case first =>
    by_cases h1 : c.op = 1
    ·have e1 : (c.op == 1) = true := by simp [h1]
     have hd : Hid (decide (c.op = 1 ∨ c.op = 2 ∨ c.op = 6) = true) := decide_eq_true (.inl h1)
     clear h1
     as_aux_lemma =>
      go_wp2_with fail
      go_meet
      exact ⟨⟨_, hd, rfl⟩, rfl⟩
    ·have e1 : (c.op == 1) = false := by simpa using h1
     by_cases h2 : c.op = 2
     ·have e2 : (c.op == 2) = true := by simp [h2]
      have hd : Hid (decide (c.op = 1 ∨ c.op = 2 ∨ c.op = 6) = true) := decide_eq_true (.inr (.inl h2))
      clear h1 h2
      as_aux_lemma =>
       go_wp2_with fail
       go_meet
       exact ⟨⟨_, hd, rfl⟩, rfl⟩
     ·have e2 : (c.op == 2) = false := by simpa using h2
      have hd : Hid (decide (c.op = 1 ∨ c.op = 2 ∨ c.op = 6) = (c.op == 6)) := by show _ = _; rw [Bool.eq_iff_iff]; simp; omega
      clear h1 h2
      as_aux_lemma =>
       go_wp2_with fail
       go_meet
       exact ⟨⟨_, hd, rfl⟩, rfl⟩
   case rest =>
    obtain ⟨⟨b, hbu, rfl⟩, rfl⟩ := hcut
    go_upto_if 47 with fail
    go_cut [8] (fun v wx => ∃ q : Int, v = .int .i64 q ∧ Hid (q = (opR c).2 ∨ (0 < q ∧ 0 < (opR c).2)) ∧ Below wr.heap.size wr wx ∧ Blk wx wr.heap.size 76 #[.int .i64 kv, .int .i64 nv, .int .i64 0, .string sv, .int .i64 lv, .int .i64 hv0])
    case first =>
     generalize hW : (wr.alloc (.cells #[.int .i64 0, .int .i64 0, .int .i64 0, .string ⟨#[]⟩, .int .i64 0, .int .i64 0] 76)) = W0 at *
     clear hW
     have bk0 := bk.below bw bk.lt
     have hne : w.heap.size ≠ wr.heap.size := by omega
     have bkX := bk0.drew
     have bvX := bv.drew
     have bwX := bw.drew
     have ownW := own_later HL.out bw
     have hlv : wr.heap.size < W0.heap.size := bv.lt
     clear cbk fbk lbk cbr fbr lbr
     have cbk := bk0.cell
     have fbv := bv.frozen
     cases b with
     | true =>
       have hu := of_decide_eq_true hbu.out
       obtain ⟨a, hka1⟩ := HAR.out.1 hu
       obtain ⟨ka, na, sa, la, ha, e1, e2⟩ := (litOf a).cells_form
       have hm : a ∈ c.kids := by rw [hka1]; simp
       have HLC' : Hid (litCells c.kids = [Value.int .i64 ka, .int .i64 na, .int .i64 0, .string sa, .int .i64 la, .int .i64 ha]) := by show _ = _; rw [hka1]; simp [litCells, e2]
       have HU : Hid (∀ W : World, Calls Tryz.prog 70 #[.int .i64 c.op, .agg #[.int .i64 ka, .int .i64 na, .int .i64 0, .string sa, .int .i64 la, .int .i64 ha]] W fun e w' => e = .returned (.tuple #[.agg #[.int .i64 kv, .int .i64 nv, .int .i64 0, .string sv, .int .i64 lv, .int .i64 hv0], .int .i64 (opR c).2]) ∧ Below W.heap.size W w') := fun W => by
        have h := spec_Unary c.op (litOf a) (HLC.out a hm).1 W hu
        rw [← opR_one hka1 hu] at h
        unfold Pair pairV at h
        rw [EV.out, e1] at h
        exact h
       have hl1 : 0 < c.kids.length := by rw [hka1]; simp
       have hl0 : (0 : Int) < (c.kids.length : Int) := by omega
       clear hu hka1 e1 e2 hm
       obtain ⟨gv, cap, hv, -⟩ := ownW.form (by omega)
       injection hv with hv1 hv2 hv3
       subst hv1 hv3
       clear hv2
       have d0 : W0.cell? ⟨gv, 0, none⟩ = some (.int .i64 ka) := (ownW.cellAt 0 (by omega)).trans (by rw [HLC'.out]; rfl)
       have d1 : W0.cell? ⟨gv, 1, none⟩ = some (.int .i64 na) := (ownW.cellAt 1 (by omega)).trans (by rw [HLC'.out]; rfl)
       have d2 : W0.cell? ⟨gv, 2, none⟩ = some (.int .i64 0) := (ownW.cellAt 2 (by omega)).trans (by rw [HLC'.out]; rfl)
       have d3 : W0.cell? ⟨gv, 3, none⟩ = some (.string sa) := (ownW.cellAt 3 (by omega)).trans (by rw [HLC'.out]; rfl)
       have d4 : W0.cell? ⟨gv, 4, none⟩ = some (.int .i64 la) := (ownW.cellAt 4 (by omega)).trans (by rw [HLC'.out]; rfl)
       have d5 : W0.cell? ⟨gv, 5, none⟩ = some (.int .i64 ha) := (ownW.cellAt 5 (by omega)).trans (by rw [HLC'.out]; rfl)
       have lgv : gv < wr.heap.size := (HL.out.lt gv rfl).2
       have hnv : gv ≠ wr.heap.size := by omega
       have x0 : W0.drew.cell? ⟨gv, 0, none⟩ = some (.int .i64 ka) := d0
       have x1 : W0.drew.cell? ⟨gv, 1, none⟩ = some (.int .i64 na) := d1
       have x2 : W0.drew.cell? ⟨gv, 2, none⟩ = some (.int .i64 0) := d2
       have x3 : W0.drew.cell? ⟨gv, 3, none⟩ = some (.string sa) := d3
       have x4 : W0.drew.cell? ⟨gv, 4, none⟩ = some (.int .i64 la) := d4
       have x5 : W0.drew.cell? ⟨gv, 5, none⟩ = some (.int .i64 ha) := d5
       have cbX := bkX.cell
       clear HLC' ownW
       go_wp2_with fail
       go_region_held3 (fun w' => (∀ i, w'.cell? ⟨w.heap.size, i, none⟩ = #[Value.int .i64 c.kind, .int .i64 c.op, .int .i64 c.number, .int .i64 c.line, .string c.text, .slice A c.kids.length n][i]?) ∧ w'.cell? ⟨gv, 0, none⟩ = some (.int .i64 ka) ∧ w'.cell? ⟨gv, 1, none⟩ = some (.int .i64 na) ∧ w'.cell? ⟨gv, 2, none⟩ = some (.int .i64 0) ∧ w'.cell? ⟨gv, 3, none⟩ = some (.string sa) ∧ w'.cell? ⟨gv, 4, none⟩ = some (.int .i64 la) ∧ w'.cell? ⟨gv, 5, none⟩ = some (.int .i64 ha))
        (first | with_reducible exact ⟨cbX, x0, x1, x2, x3, x4, x5⟩ | with_reducible exact ⟨bkX.cell, y0, y1, y2, y3, y4, y5⟩ | exact ⟨(((((((bkX.far hne _).far hne _).far hne _).far hne _).far hne _).far hne _)).cell, (Below.cell (B := wr.heap.size) (p := ⟨gv, 0, none⟩) ((((((((Below.refl _ _).setCell (p := ⟨wr.heap.size, 0, none⟩) (Nat.le_refl _) _).setCell (p := ⟨wr.heap.size, 1, none⟩) (Nat.le_refl _) _).setCell (p := ⟨wr.heap.size, 2, none⟩) (Nat.le_refl _) _).setCell (p := ⟨wr.heap.size, 3, none⟩) (Nat.le_refl _) _).setCell (p := ⟨wr.heap.size, 4, none⟩) (Nat.le_refl _) _).setCell (p := ⟨wr.heap.size, 5, none⟩) (Nat.le_refl _) _)) lgv).trans y0, (Below.cell (B := wr.heap.size) (p := ⟨gv, 1, none⟩) ((((((((Below.refl _ _).setCell (p := ⟨wr.heap.size, 0, none⟩) (Nat.le_refl _) _).setCell (p := ⟨wr.heap.size, 1, none⟩) (Nat.le_refl _) _).setCell (p := ⟨wr.heap.size, 2, none⟩) (Nat.le_refl _) _).setCell (p := ⟨wr.heap.size, 3, none⟩) (Nat.le_refl _) _).setCell (p := ⟨wr.heap.size, 4, none⟩) (Nat.le_refl _) _).setCell (p := ⟨wr.heap.size, 5, none⟩) (Nat.le_refl _) _)) lgv).trans y1, (Below.cell (B := wr.heap.size) (p := ⟨gv, 2, none⟩) ((((((((Below.refl _ _).setCell (p := ⟨wr.heap.size, 0, none⟩) (Nat.le_refl _) _).setCell (p := ⟨wr.heap.size, 1, none⟩) (Nat.le_refl _) _).setCell (p := ⟨wr.heap.size, 2, none⟩) (Nat.le_refl _) _).setCell (p := ⟨wr.heap.size, 3, none⟩) (Nat.le_refl _) _).setCell (p := ⟨wr.heap.size, 4, none⟩) (Nat.le_refl _) _).setCell (p := ⟨wr.heap.size, 5, none⟩) (Nat.le_refl _) _)) lgv).trans y2, (Below.cell (B := wr.heap.size) (p := ⟨gv, 3, none⟩) ((((((((Below.refl _ _).setCell (p := ⟨wr.heap.size, 0, none⟩) (Nat.le_refl _) _).setCell (p := ⟨wr.heap.size, 1, none⟩) (Nat.le_refl _) _).setCell (p := ⟨wr.heap.size, 2, none⟩) (Nat.le_refl _) _).setCell (p := ⟨wr.heap.size, 3, none⟩) (Nat.le_refl _) _).setCell (p := ⟨wr.heap.size, 4, none⟩) (Nat.le_refl _) _).setCell (p := ⟨wr.heap.size, 5, none⟩) (Nat.le_refl _) _)) lgv).trans y3, (Below.cell (B := wr.heap.size) (p := ⟨gv, 4, none⟩) ((((((((Below.refl _ _).setCell (p := ⟨wr.heap.size, 0, none⟩) (Nat.le_refl _) _).setCell (p := ⟨wr.heap.size, 1, none⟩) (Nat.le_refl _) _).setCell (p := ⟨wr.heap.size, 2, none⟩) (Nat.le_refl _) _).setCell (p := ⟨wr.heap.size, 3, none⟩) (Nat.le_refl _) _).setCell (p := ⟨wr.heap.size, 4, none⟩) (Nat.le_refl _) _).setCell (p := ⟨wr.heap.size, 5, none⟩) (Nat.le_refl _) _)) lgv).trans y4, (Below.cell (B := wr.heap.size) (p := ⟨gv, 5, none⟩) ((((((((Below.refl _ _).setCell (p := ⟨wr.heap.size, 0, none⟩) (Nat.le_refl _) _).setCell (p := ⟨wr.heap.size, 1, none⟩) (Nat.le_refl _) _).setCell (p := ⟨wr.heap.size, 2, none⟩) (Nat.le_refl _) _).setCell (p := ⟨wr.heap.size, 3, none⟩) (Nat.le_refl _) _).setCell (p := ⟨wr.heap.size, 4, none⟩) (Nat.le_refl _) _).setCell (p := ⟨wr.heap.size, 5, none⟩) (Nat.le_refl _) _)) lgv).trans y5⟩)
        (first | (go_at_call 70; refine (HU.out _).mono ?_; rintro e wB ⟨rfl, hbB⟩; replace bkX := bkX.later hbB; replace bvX := bvX.later hbB; replace bwX := bwX.trans (hbB.mono bwX.size); have y0 := (hbB.cell (p := ⟨gv, 0, none⟩) (Nat.lt_trans lgv hlv)).trans x0; have y1 := (hbB.cell (p := ⟨gv, 1, none⟩) (Nat.lt_trans lgv hlv)).trans x1; have y2 := (hbB.cell (p := ⟨gv, 2, none⟩) (Nat.lt_trans lgv hlv)).trans x2; have y3 := (hbB.cell (p := ⟨gv, 3, none⟩) (Nat.lt_trans lgv hlv)).trans x3; have y4 := (hbB.cell (p := ⟨gv, 4, none⟩) (Nat.lt_trans lgv hlv)).trans x4; have y5 := (hbB.cell (p := ⟨gv, 5, none⟩) (Nat.lt_trans lgv hlv)).trans x5; clear hbB; have cvB := bvX.cell; have fvB := bvX.frozen; have lvB := bvX.lt))
       go_wp2_with fail
       go_meet
       exact ⟨_, rfl, .inl rfl, ((((((bwX.setCell (p := ⟨wr.heap.size, 0, none⟩) (Nat.le_refl _) _).setCell (p := ⟨wr.heap.size, 1, none⟩) (Nat.le_refl _) _).setCell (p := ⟨wr.heap.size, 2, none⟩) (Nat.le_refl _) _).setCell (p := ⟨wr.heap.size, 3, none⟩) (Nat.le_refl _) _).setCell (p := ⟨wr.heap.size, 4, none⟩) (Nat.le_refl _) _).setCell (p := ⟨wr.heap.size, 5, none⟩) (Nat.le_refl _) _), ((((((bvX.set_ 0 (.int .i64 kv)).set_ 1 (.int .i64 nv)).set_ 2 (.int .i64 0)).set_ 3 (.string sv)).set_ 4 (.int .i64 lv)).set_ 5 (.int .i64 hv0))⟩
     | false =>
       have hu := of_decide_eq_false hbu.out
       by_cases ht2 : 20 ≤ c.op ∧ c.op ≤ 54 ∧ ¬ c.op = 51
       ·obtain ⟨a, b', hka1⟩ := HAR.out.2 ht2
        obtain ⟨ka, na, sa, la, ha, e1, e2⟩ := (litOf a).cells_form
        obtain ⟨kb, nb, sb, lb, hb, f1, f2⟩ := (litOf b').cells_form
        have hm : a ∈ c.kids := by rw [hka1]; simp
        have hm' : b' ∈ c.kids := by rw [hka1]; simp
        have HLC' : Hid (litCells c.kids = [Value.int .i64 ka, .int .i64 na, .int .i64 0, .string sa, .int .i64 la, .int .i64 ha, .int .i64 kb, .int .i64 nb, .int .i64 0, .string sb, .int .i64 lb, .int .i64 hb]) := by show _ = _; rw [hka1]; simp [litCells, e2, f2]
        have HU : Hid (∀ W : World, Calls Tryz.prog 71 #[.int .i64 c.op, .agg #[.int .i64 ka, .int .i64 na, .int .i64 0, .string sa, .int .i64 la, .int .i64 ha], .agg #[.int .i64 kb, .int .i64 nb, .int .i64 0, .string sb, .int .i64 lb, .int .i64 hb]] W fun e w' => e = .returned (.tuple #[.agg #[.int .i64 kv, .int .i64 nv, .int .i64 0, .string sv, .int .i64 lv, .int .i64 hv0], .int .i64 (opR c).2]) ∧ Below W.heap.size W w') := fun W => by
         have h := spec_Binary c.op (litOf a) (litOf b') (HLC.out a hm).1 (HLC.out b' hm').1 W HOP.out ht2.1 ht2.2.1 ht2.2.2
         rw [← opR_two hka1 ht2] at h
         unfold Pair pairV at h
         rw [EV.out, e1, f1] at h
         exact h
        have hl3 : 1 < c.kids.length := by rw [hka1]; simp
        have hl2 : (1 : Int) < (c.kids.length : Int) := by omega
        have hl1 : 0 < c.kids.length := by omega
        have hl0 : (0 : Int) < (c.kids.length : Int) := by omega
        have t1 := ht2.1
        have t2 := ht2.2.1
        have t3 : (c.op != 51) = true := by simp [ht2.2.2]
        clear hu ht2 hka1 e1 e2 f1 f2 hm hm'
        obtain ⟨gv, cap, hv, -⟩ := ownW.form (by omega)
        injection hv with hv1 hv2 hv3
        subst hv1 hv3
        clear hv2
        have d0 : W0.cell? ⟨gv, 0, none⟩ = some (.int .i64 ka) := (ownW.cellAt 0 (by omega)).trans (by rw [HLC'.out]; rfl)
        have d1 : W0.cell? ⟨gv, 1, none⟩ = some (.int .i64 na) := (ownW.cellAt 1 (by omega)).trans (by rw [HLC'.out]; rfl)
        have d2 : W0.cell? ⟨gv, 2, none⟩ = some (.int .i64 0) := (ownW.cellAt 2 (by omega)).trans (by rw [HLC'.out]; rfl)
        have d3 : W0.cell? ⟨gv, 3, none⟩ = some (.string sa) := (ownW.cellAt 3 (by omega)).trans (by rw [HLC'.out]; rfl)
        have d4 : W0.cell? ⟨gv, 4, none⟩ = some (.int .i64 la) := (ownW.cellAt 4 (by omega)).trans (by rw [HLC'.out]; rfl)
        have d5 : W0.cell? ⟨gv, 5, none⟩ = some (.int .i64 ha) := (ownW.cellAt 5 (by omega)).trans (by rw [HLC'.out]; rfl)
        have d6 : W0.cell? ⟨gv, 6, none⟩ = some (.int .i64 kb) := (ownW.cellAt 6 (by omega)).trans (by rw [HLC'.out]; rfl)
        have d7 : W0.cell? ⟨gv, 7, none⟩ = some (.int .i64 nb) := (ownW.cellAt 7 (by omega)).trans (by rw [HLC'.out]; rfl)
        have d8 : W0.cell? ⟨gv, 8, none⟩ = some (.int .i64 0) := (ownW.cellAt 8 (by omega)).trans (by rw [HLC'.out]; rfl)
        have d9 : W0.cell? ⟨gv, 9, none⟩ = some (.string sb) := (ownW.cellAt 9 (by omega)).trans (by rw [HLC'.out]; rfl)
        have d10 : W0.cell? ⟨gv, 10, none⟩ = some (.int .i64 lb) := (ownW.cellAt 10 (by omega)).trans (by rw [HLC'.out]; rfl)
        have d11 : W0.cell? ⟨gv, 11, none⟩ = some (.int .i64 hb) := (ownW.cellAt 11 (by omega)).trans (by rw [HLC'.out]; rfl)
        have lgv : gv < wr.heap.size := (HL.out.lt gv rfl).2
        have hnv : gv ≠ wr.heap.size := by omega
        have x0 : W0.drew.cell? ⟨gv, 0, none⟩ = some (.int .i64 ka) := d0
        have x1 : W0.drew.cell? ⟨gv, 1, none⟩ = some (.int .i64 na) := d1
        have x2 : W0.drew.cell? ⟨gv, 2, none⟩ = some (.int .i64 0) := d2
        have x3 : W0.drew.cell? ⟨gv, 3, none⟩ = some (.string sa) := d3
        have x4 : W0.drew.cell? ⟨gv, 4, none⟩ = some (.int .i64 la) := d4
        have x5 : W0.drew.cell? ⟨gv, 5, none⟩ = some (.int .i64 ha) := d5
        have x6 : W0.drew.cell? ⟨gv, 6, none⟩ = some (.int .i64 kb) := d6
        have x7 : W0.drew.cell? ⟨gv, 7, none⟩ = some (.int .i64 nb) := d7
        have x8 : W0.drew.cell? ⟨gv, 8, none⟩ = some (.int .i64 0) := d8
        have x9 : W0.drew.cell? ⟨gv, 9, none⟩ = some (.string sb) := d9
        have x10 : W0.drew.cell? ⟨gv, 10, none⟩ = some (.int .i64 lb) := d10
        have x11 : W0.drew.cell? ⟨gv, 11, none⟩ = some (.int .i64 hb) := d11
        have cbX := bkX.cell
        clear HLC' ownW
        go_wp2_with fail
        go_region_held3 (fun w' => (∀ i, w'.cell? ⟨w.heap.size, i, none⟩ = #[Value.int .i64 c.kind, .int .i64 c.op, .int .i64 c.number, .int .i64 c.line, .string c.text, .slice A c.kids.length n][i]?) ∧ w'.cell? ⟨gv, 0, none⟩ = some (.int .i64 ka) ∧ w'.cell? ⟨gv, 1, none⟩ = some (.int .i64 na) ∧ w'.cell? ⟨gv, 2, none⟩ = some (.int .i64 0) ∧ w'.cell? ⟨gv, 3, none⟩ = some (.string sa) ∧ w'.cell? ⟨gv, 4, none⟩ = some (.int .i64 la) ∧ w'.cell? ⟨gv, 5, none⟩ = some (.int .i64 ha) ∧ w'.cell? ⟨gv, 6, none⟩ = some (.int .i64 kb) ∧ w'.cell? ⟨gv, 7, none⟩ = some (.int .i64 nb) ∧ w'.cell? ⟨gv, 8, none⟩ = some (.int .i64 0) ∧ w'.cell? ⟨gv, 9, none⟩ = some (.string sb) ∧ w'.cell? ⟨gv, 10, none⟩ = some (.int .i64 lb) ∧ w'.cell? ⟨gv, 11, none⟩ = some (.int .i64 hb))
         (first | with_reducible exact ⟨cbX, x0, x1, x2, x3, x4, x5, x6, x7, x8, x9, x10, x11⟩ | with_reducible exact ⟨bkX.cell, y0, y1, y2, y3, y4, y5, y6, y7, y8, y9, y10, y11⟩ | exact ⟨(((((((bkX.far hne _).far hne _).far hne _).far hne _).far hne _).far hne _)).cell, (Below.cell (B := wr.heap.size) (p := ⟨gv, 0, none⟩) ((((((((Below.refl _ _).setCell (p := ⟨wr.heap.size, 0, none⟩) (Nat.le_refl _) _).setCell (p := ⟨wr.heap.size, 1, none⟩) (Nat.le_refl _) _).setCell (p := ⟨wr.heap.size, 2, none⟩) (Nat.le_refl _) _).setCell (p := ⟨wr.heap.size, 3, none⟩) (Nat.le_refl _) _).setCell (p := ⟨wr.heap.size, 4, none⟩) (Nat.le_refl _) _).setCell (p := ⟨wr.heap.size, 5, none⟩) (Nat.le_refl _) _)) lgv).trans y0, (Below.cell (B := wr.heap.size) (p := ⟨gv, 1, none⟩) ((((((((Below.refl _ _).setCell (p := ⟨wr.heap.size, 0, none⟩) (Nat.le_refl _) _).setCell (p := ⟨wr.heap.size, 1, none⟩) (Nat.le_refl _) _).setCell (p := ⟨wr.heap.size, 2, none⟩) (Nat.le_refl _) _).setCell (p := ⟨wr.heap.size, 3, none⟩) (Nat.le_refl _) _).setCell (p := ⟨wr.heap.size, 4, none⟩) (Nat.le_refl _) _).setCell (p := ⟨wr.heap.size, 5, none⟩) (Nat.le_refl _) _)) lgv).trans y1, (Below.cell (B := wr.heap.size) (p := ⟨gv, 2, none⟩) ((((((((Below.refl _ _).setCell (p := ⟨wr.heap.size, 0, none⟩) (Nat.le_refl _) _).setCell (p := ⟨wr.heap.size, 1, none⟩) (Nat.le_refl _) _).setCell (p := ⟨wr.heap.size, 2, none⟩) (Nat.le_refl _) _).setCell (p := ⟨wr.heap.size, 3, none⟩) (Nat.le_refl _) _).setCell (p := ⟨wr.heap.size, 4, none⟩) (Nat.le_refl _) _).setCell (p := ⟨wr.heap.size, 5, none⟩) (Nat.le_refl _) _)) lgv).trans y2, (Below.cell (B := wr.heap.size) (p := ⟨gv, 3, none⟩) ((((((((Below.refl _ _).setCell (p := ⟨wr.heap.size, 0, none⟩) (Nat.le_refl _) _).setCell (p := ⟨wr.heap.size, 1, none⟩) (Nat.le_refl _) _).setCell (p := ⟨wr.heap.size, 2, none⟩) (Nat.le_refl _) _).setCell (p := ⟨wr.heap.size, 3, none⟩) (Nat.le_refl _) _).setCell (p := ⟨wr.heap.size, 4, none⟩) (Nat.le_refl _) _).setCell (p := ⟨wr.heap.size, 5, none⟩) (Nat.le_refl _) _)) lgv).trans y3, (Below.cell (B := wr.heap.size) (p := ⟨gv, 4, none⟩) ((((((((Below.refl _ _).setCell (p := ⟨wr.heap.size, 0, none⟩) (Nat.le_refl _) _).setCell (p := ⟨wr.heap.size, 1, none⟩) (Nat.le_refl _) _).setCell (p := ⟨wr.heap.size, 2, none⟩) (Nat.le_refl _) _).setCell (p := ⟨wr.heap.size, 3, none⟩) (Nat.le_refl _) _).setCell (p := ⟨wr.heap.size, 4, none⟩) (Nat.le_refl _) _).setCell (p := ⟨wr.heap.size, 5, none⟩) (Nat.le_refl _) _)) lgv).trans y4, (Below.cell (B := wr.heap.size) (p := ⟨gv, 5, none⟩) ((((((((Below.refl _ _).setCell (p := ⟨wr.heap.size, 0, none⟩) (Nat.le_refl _) _).setCell (p := ⟨wr.heap.size, 1, none⟩) (Nat.le_refl _) _).setCell (p := ⟨wr.heap.size, 2, none⟩) (Nat.le_refl _) _).setCell (p := ⟨wr.heap.size, 3, none⟩) (Nat.le_refl _) _).setCell (p := ⟨wr.heap.size, 4, none⟩) (Nat.le_refl _) _).setCell (p := ⟨wr.heap.size, 5, none⟩) (Nat.le_refl _) _)) lgv).trans y5, (Below.cell (B := wr.heap.size) (p := ⟨gv, 6, none⟩) ((((((((Below.refl _ _).setCell (p := ⟨wr.heap.size, 0, none⟩) (Nat.le_refl _) _).setCell (p := ⟨wr.heap.size, 1, none⟩) (Nat.le_refl _) _).setCell (p := ⟨wr.heap.size, 2, none⟩) (Nat.le_refl _) _).setCell (p := ⟨wr.heap.size, 3, none⟩) (Nat.le_refl _) _).setCell (p := ⟨wr.heap.size, 4, none⟩) (Nat.le_refl _) _).setCell (p := ⟨wr.heap.size, 5, none⟩) (Nat.le_refl _) _)) lgv).trans y6, (Below.cell (B := wr.heap.size) (p := ⟨gv, 7, none⟩) ((((((((Below.refl _ _).setCell (p := ⟨wr.heap.size, 0, none⟩) (Nat.le_refl _) _).setCell (p := ⟨wr.heap.size, 1, none⟩) (Nat.le_refl _) _).setCell (p := ⟨wr.heap.size, 2, none⟩) (Nat.le_refl _) _).setCell (p := ⟨wr.heap.size, 3, none⟩) (Nat.le_refl _) _).setCell (p := ⟨wr.heap.size, 4, none⟩) (Nat.le_refl _) _).setCell (p := ⟨wr.heap.size, 5, none⟩) (Nat.le_refl _) _)) lgv).trans y7, (Below.cell (B := wr.heap.size) (p := ⟨gv, 8, none⟩) ((((((((Below.refl _ _).setCell (p := ⟨wr.heap.size, 0, none⟩) (Nat.le_refl _) _).setCell (p := ⟨wr.heap.size, 1, none⟩) (Nat.le_refl _) _).setCell (p := ⟨wr.heap.size, 2, none⟩) (Nat.le_refl _) _).setCell (p := ⟨wr.heap.size, 3, none⟩) (Nat.le_refl _) _).setCell (p := ⟨wr.heap.size, 4, none⟩) (Nat.le_refl _) _).setCell (p := ⟨wr.heap.size, 5, none⟩) (Nat.le_refl _) _)) lgv).trans y8, (Below.cell (B := wr.heap.size) (p := ⟨gv, 9, none⟩) ((((((((Below.refl _ _).setCell (p := ⟨wr.heap.size, 0, none⟩) (Nat.le_refl _) _).setCell (p := ⟨wr.heap.size, 1, none⟩) (Nat.le_refl _) _).setCell (p := ⟨wr.heap.size, 2, none⟩) (Nat.le_refl _) _).setCell (p := ⟨wr.heap.size, 3, none⟩) (Nat.le_refl _) _).setCell (p := ⟨wr.heap.size, 4, none⟩) (Nat.le_refl _) _).setCell (p := ⟨wr.heap.size, 5, none⟩) (Nat.le_refl _) _)) lgv).trans y9, (Below.cell (B := wr.heap.size) (p := ⟨gv, 10, none⟩) ((((((((Below.refl _ _).setCell (p := ⟨wr.heap.size, 0, none⟩) (Nat.le_refl _) _).setCell (p := ⟨wr.heap.size, 1, none⟩) (Nat.le_refl _) _).setCell (p := ⟨wr.heap.size, 2, none⟩) (Nat.le_refl _) _).setCell (p := ⟨wr.heap.size, 3, none⟩) (Nat.le_refl _) _).setCell (p := ⟨wr.heap.size, 4, none⟩) (Nat.le_refl _) _).setCell (p := ⟨wr.heap.size, 5, none⟩) (Nat.le_refl _) _)) lgv).trans y10, (Below.cell (B := wr.heap.size) (p := ⟨gv, 11, none⟩) ((((((((Below.refl _ _).setCell (p := ⟨wr.heap.size, 0, none⟩) (Nat.le_refl _) _).setCell (p := ⟨wr.heap.size, 1, none⟩) (Nat.le_refl _) _).setCell (p := ⟨wr.heap.size, 2, none⟩) (Nat.le_refl _) _).setCell (p := ⟨wr.heap.size, 3, none⟩) (Nat.le_refl _) _).setCell (p := ⟨wr.heap.size, 4, none⟩) (Nat.le_refl _) _).setCell (p := ⟨wr.heap.size, 5, none⟩) (Nat.le_refl _) _)) lgv).trans y11⟩)
         (first | (go_at_call 71; refine (HU.out _).mono ?_; rintro e wB ⟨rfl, hbB⟩; replace bkX := bkX.later hbB; replace bvX := bvX.later hbB; replace bwX := bwX.trans (hbB.mono bwX.size); have y0 := (hbB.cell (p := ⟨gv, 0, none⟩) (Nat.lt_trans lgv hlv)).trans x0; have y1 := (hbB.cell (p := ⟨gv, 1, none⟩) (Nat.lt_trans lgv hlv)).trans x1; have y2 := (hbB.cell (p := ⟨gv, 2, none⟩) (Nat.lt_trans lgv hlv)).trans x2; have y3 := (hbB.cell (p := ⟨gv, 3, none⟩) (Nat.lt_trans lgv hlv)).trans x3; have y4 := (hbB.cell (p := ⟨gv, 4, none⟩) (Nat.lt_trans lgv hlv)).trans x4; have y5 := (hbB.cell (p := ⟨gv, 5, none⟩) (Nat.lt_trans lgv hlv)).trans x5; have y6 := (hbB.cell (p := ⟨gv, 6, none⟩) (Nat.lt_trans lgv hlv)).trans x6; have y7 := (hbB.cell (p := ⟨gv, 7, none⟩) (Nat.lt_trans lgv hlv)).trans x7; have y8 := (hbB.cell (p := ⟨gv, 8, none⟩) (Nat.lt_trans lgv hlv)).trans x8; have y9 := (hbB.cell (p := ⟨gv, 9, none⟩) (Nat.lt_trans lgv hlv)).trans x9; have y10 := (hbB.cell (p := ⟨gv, 10, none⟩) (Nat.lt_trans lgv hlv)).trans x10; have y11 := (hbB.cell (p := ⟨gv, 11, none⟩) (Nat.lt_trans lgv hlv)).trans x11; clear hbB; have cvB := bvX.cell; have fvB := bvX.frozen; have lvB := bvX.lt))
        go_wp2_with fail
        go_meet
        exact ⟨_, rfl, .inl rfl, ((((((bwX.setCell (p := ⟨wr.heap.size, 0, none⟩) (Nat.le_refl _) _).setCell (p := ⟨wr.heap.size, 1, none⟩) (Nat.le_refl _) _).setCell (p := ⟨wr.heap.size, 2, none⟩) (Nat.le_refl _) _).setCell (p := ⟨wr.heap.size, 3, none⟩) (Nat.le_refl _) _).setCell (p := ⟨wr.heap.size, 4, none⟩) (Nat.le_refl _) _).setCell (p := ⟨wr.heap.size, 5, none⟩) (Nat.le_refl _) _), ((((((bvX.set_ 0 (.int .i64 kv)).set_ 1 (.int .i64 nv)).set_ 2 (.int .i64 0)).set_ 3 (.string sv)).set_ 4 (.int .i64 lv)).set_ 5 (.int .i64 hv0))⟩
       ·have HR := opR_no hu ht2
        have EZ : (#[Value.int .i64 kv, .int .i64 nv, .int .i64 0, .string sv, .int .i64 lv, .int .i64 hv0] : Array Value) = #[.int .i64 0, .int .i64 0, .int .i64 0, .string ⟨#[]⟩, .int .i64 0, .int .i64 0] := Value.agg.inj (EV.out.symm.trans (by rw [HR]; rfl))
        have EK : Hid ((1 : Int) = (opR c).2 ∨ ((0 : Int) < 1 ∧ 0 < (opR c).2)) := by show _ ∨ _; rw [HR]; right; simp
        rw [← EZ] at bv
        clear HR EZ
        by_cases t1 : 20 ≤ c.op
        ·by_cases t2 : c.op ≤ 54
         ·have h51 : c.op = 51 := by omega
          have t3 : (c.op != 51) = false := by simp [h51]
          clear hu ht2 h51
          go_wp2_with fail
          go_meet
          exact ⟨_, rfl, EK, bw, bv⟩
         ·clear hu ht2
          go_wp2_with fail
          go_meet
          exact ⟨_, rfl, EK, bw, bv⟩
        ·clear hu ht2
         go_wp2_with fail
         go_meet
         exact ⟨_, rfl, EK, bw, bv⟩
    case rest =>
     obtain ⟨q, rfl, hq, hcw, bv1⟩ := hcut
     clear bv bw HL HOP HAR HLC hk
     have B2 : Below w.heap.size w wc := B1.trans (hcw.mono (by omega))
     have bk2 := bk.below hcw lbk
     have br2 := br.below hcw lbr
     clear cbk fbk lbk cbr fbr lbr hcw bk br
     obtain ⟨cbk, lbk, fbk⟩ := bk2.all
     obtain ⟨cbr, lbr, fbr⟩ := br2.all
     obtain ⟨cbv, lbv, fbv⟩ := bv1.all
     by_cases kp : 0 < (opR c).2
     ·have q0 : 0 < q := by rcases hq.out with h | h <;> omega
      have HV := Lib.hid (foldOpV_no (A := A) (n := n) (c := c) (by rw [HFE.out HALL.out]; simp; omega))
      clear kp
      go_wp2_with fail
      have hF := ((((((br2.set_ 0 (.int .i64 c.kind)).set_ 1 (.int .i64 c.op)).set_ 2 (.int .i64 c.number)).set_ 3 (.int .i64 c.line)).set_ 4 (.string c.text)).set_ 5 (.slice A c.kids.length n))
      have cF := hF.cell
      refine bodyPost_ret (v := .agg #[.int .i64 c.kind, .int .i64 c.op, .int .i64 c.number, .int .i64 c.line, .string c.text, .slice A c.kids.length n]) ?_ rfl ⟨?_, ?_⟩
      ·simp [results, Tryz.results41, go_sem, cF]
      ·rw [HV.out]
      ·repeat' first | with_reducible exact B2 | with_reducible refine Below.setCell ?_ (by have hs := B2.size; first | exact Nat.le_refl _ | omega | (simp; omega) | simp) _ | with_reducible refine Below.alloc ?_ (by have hs := B2.size; first | omega | (simp; omega) | simp) _
     ·obtain rfl : q = (opR c).2 := by rcases hq.out with h | h <;> omega
      by_cases km : (opR c).2 = -1
      ·have HV : Hid (foldOpV c A n = .agg #[.int .i64 28, .int .i64 0, .int .i64 0, .int .i64 c.line, .string ⟨#[]⟩, .slice none 0 0]) := by show _ = _; rw [foldOpV_yes (by rw [HFE.out HALL.out, km]; rfl), foldOp_none HALL.out km]; rfl
       rw [km]
       clear km kp hq
       go_wp2_with fail
       have hF := ((((((br2.set_ 0 (.int .i64 28)).set_ 1 (.int .i64 0)).set_ 2 (.int .i64 0)).set_ 3 (.int .i64 c.line)).set_ 4 (.string ⟨#[]⟩)).set_ 5 (.slice none 0 0))
       have cF := hF.cell
       refine bodyPost_ret (v := .agg #[.int .i64 28, .int .i64 0, .int .i64 0, .int .i64 c.line, .string ⟨#[]⟩, .slice none 0 0]) ?_ rfl ⟨?_, ?_⟩
       ·simp [results, Tryz.results41, go_sem, cF]
       ·rw [HV.out]
       ·repeat' first | with_reducible exact B2 | with_reducible refine Below.setCell ?_ (by have hs := B2.size; first | exact Nat.le_refl _ | omega | (simp; omega) | simp) _ | with_reducible refine Below.alloc ?_ (by have hs := B2.size; first | omega | (simp; omega) | simp) _
      ·have kz : (opR c).2 = 0 := by rcases opR_code c with h | h | h <;> omega
       have HV := Lib.hid (foldOpV_yes (A := A) (n := n) (c := c) (by rw [HFE.out HALL.out, kz]; rfl))
       have HZ := Lib.hid (foldOp_lit HALL.out kz)
       rw [kz]
       clear km kp hq kz
       have hE := EV.out
       cases hlit : (opR c).1 with
       | null =>
         rw [hlit] at hE HZ
         unfold LitT.val at hE
         have hE := congrArg Array.toList (Value.agg.inj hE)
         simp only [List.cons.injEq, Value.int.injEq, Value.string.injEq, true_and, and_true] at hE
         obtain ⟨rfl, rfl, rfl, rfl, rfl⟩ := hE
         have HR : Hid (foldOpV c A n = .agg #[.int .i64 4, .int .i64 0, .int .i64 0, .int .i64 c.line, .string ⟨#[]⟩, .slice none 0 0]) := by show _ = _; rw [HV.out, HZ.out]; rfl
         clear hlit HV HZ
         go_wp2_with fail
         have hF := (((((((br2.set_ 0 (.int .i64 4)).set_ 1 (.int .i64 0)).set_ 2 (.int .i64 0)).set_ 3 (.int .i64 c.line)).set_ 4 (.string ⟨#[]⟩)).set_ 5 (.slice none 0 0)).alloc (.cells #[.int .i64 4, .int .i64 0, .int .i64 0, .int .i64 c.line, .string ⟨#[]⟩, .slice none 0 0] 45))
         have cF := hF.cell
         refine bodyPost_ret (v := .agg #[.int .i64 4, .int .i64 0, .int .i64 0, .int .i64 c.line, .string ⟨#[]⟩, .slice none 0 0]) ?_ rfl ⟨?_, ?_⟩
         ·simp [results, Tryz.results41, go_sem, cF]
         ·rw [HR.out]
         ·repeat' first | with_reducible exact B2 | with_reducible refine Below.setCell ?_ (by have hs := B2.size; first | exact Nat.le_refl _ | omega | (simp; omega) | simp) _ | with_reducible refine Below.alloc ?_ (by have hs := B2.size; first | omega | (simp; omega) | simp) _
       | int z =>
         rw [hlit] at hE HZ
         unfold LitT.val at hE
         have hE := congrArg Array.toList (Value.agg.inj hE)
         simp only [List.cons.injEq, Value.int.injEq, Value.string.injEq, true_and, and_true] at hE
         obtain ⟨rfl, rfl, rfl, rfl, rfl⟩ := hE
         have HR : Hid (foldOpV c A n = .agg #[.int .i64 1, .int .i64 0, .int .i64 z, .int .i64 c.line, .string ⟨#[]⟩, .slice none 0 0]) := by show _ = _; rw [HV.out, HZ.out]; rfl
         clear hlit HV HZ
         go_wp2_with fail
         have hF := (((((((br2.set_ 0 (.int .i64 1)).set_ 1 (.int .i64 0)).set_ 2 (.int .i64 z)).set_ 3 (.int .i64 c.line)).set_ 4 (.string ⟨#[]⟩)).set_ 5 (.slice none 0 0)).alloc (.cells #[.int .i64 1, .int .i64 0, .int .i64 z, .int .i64 c.line, .string ⟨#[]⟩, .slice none 0 0] 45))
         have cF := hF.cell
         refine bodyPost_ret (v := .agg #[.int .i64 1, .int .i64 0, .int .i64 z, .int .i64 c.line, .string ⟨#[]⟩, .slice none 0 0]) ?_ rfl ⟨?_, ?_⟩
         ·simp [results, Tryz.results41, go_sem, cF]
         ·rw [HR.out]
         ·repeat' first | with_reducible exact B2 | with_reducible refine Below.setCell ?_ (by have hs := B2.size; first | exact Nat.le_refl _ | omega | (simp; omega) | simp) _ | with_reducible refine Below.alloc ?_ (by have hs := B2.size; first | omega | (simp; omega) | simp) _
       | text s =>
         rw [hlit] at hE HZ
         unfold LitT.val at hE
         have hE := congrArg Array.toList (Value.agg.inj hE)
         simp only [List.cons.injEq, Value.int.injEq, Value.string.injEq, true_and, and_true] at hE
         obtain ⟨rfl, rfl, rfl, rfl, rfl⟩ := hE
         have HR : Hid (foldOpV c A n = .agg #[.int .i64 2, .int .i64 0, .int .i64 0, .int .i64 c.line, .string s, .slice none 0 0]) := by show _ = _; rw [HV.out, HZ.out]; rfl
         clear hlit HV HZ
         go_wp2_with fail
         have hF := (((((((br2.set_ 0 (.int .i64 2)).set_ 1 (.int .i64 0)).set_ 2 (.int .i64 0)).set_ 3 (.int .i64 c.line)).set_ 4 (.string s)).set_ 5 (.slice none 0 0)).alloc (.cells #[.int .i64 2, .int .i64 0, .int .i64 0, .int .i64 c.line, .string s, .slice none 0 0] 45))
         have cF := hF.cell
         refine bodyPost_ret (v := .agg #[.int .i64 2, .int .i64 0, .int .i64 0, .int .i64 c.line, .string s, .slice none 0 0]) ?_ rfl ⟨?_, ?_⟩
         ·simp [results, Tryz.results41, go_sem, cF]
         ·rw [HR.out]
         ·repeat' first | with_reducible exact B2 | with_reducible refine Below.setCell ?_ (by have hs := B2.size; first | exact Nat.le_refl _ | omega | (simp; omega) | simp) _ | with_reducible refine Below.alloc ?_ (by have hs := B2.size; first | omega | (simp; omega) | simp) _
       | set z =>
         rw [hlit] at hE HZ
         unfold LitT.val at hE
         have hE := congrArg Array.toList (Value.agg.inj hE)
         simp only [List.cons.injEq, Value.int.injEq, Value.string.injEq, true_and, and_true] at hE
         obtain ⟨rfl, rfl, rfl, rfl, rfl⟩ := hE
         have HR : Hid (foldOpV c A n = .agg #[.int .i64 3, .int .i64 0, .int .i64 0, .int .i64 c.line, .string (csetText z), .slice none 0 0]) := by show _ = _; rw [HV.out, HZ.out]; rfl
         clear hlit HV HZ
         have HC : Hid (∀ W : World, Calls Tryz.prog 68 #[.agg #[.int .i64 z.lo.toInt, .int .i64 z.hi.toInt]] W fun e w' => e = .returned (.string (csetText z)) ∧ Below W.heap.size W w') := fun W => spec_CsetText z W
         have b3 : Below wc.heap.size wc (wc.alloc (.cells #[.int .i64 3, .int .i64 0, .int .i64 0, .int .i64 c.line, .string ⟨#[]⟩, .slice none 0 0] 45)) := (Below.refl _ _).alloc (Nat.le_refl _) _
         have bo := Blk.new wc 45 #[.int .i64 3, .int .i64 0, .int .i64 0, .int .i64 c.line, .string ⟨#[]⟩, .slice none 0 0]
         go_wp2_with fail
         refine (HC.out _).mono ?_; rintro e w2 ⟨rfl, hb2⟩
         have bX := b3.trans (hb2.mono b3.size)
         have B3 : Below w.heap.size w w2 := B2.trans (bX.mono B2.size)
         have br3 := br2.below bX lbr
         have bo3 := bo.later hb2
         have bv3 := bv1.below bX lbv
         clear cbk fbk lbk cbv fbv lbv cbr fbr
         obtain ⟨cbo, lbo, fbo⟩ := bo3.all
         obtain ⟨cbr, lbr3, fbr⟩ := br3.all
         have cbv := bv3.cell
         go_wp2_with fail
         have hF := (((((((br3.far (p := ⟨wc.heap.size, 4, none⟩) (by simp; omega) (.string (csetText z))).set_ 0 (.int .i64 3)).set_ 1 (.int .i64 0)).set_ 2 (.int .i64 0)).set_ 3 (.int .i64 c.line)).set_ 4 (.string (csetText z))).set_ 5 (.slice none 0 0))
         have cF := hF.cell
         refine bodyPost_ret (v := .agg #[.int .i64 3, .int .i64 0, .int .i64 0, .int .i64 c.line, .string (csetText z), .slice none 0 0]) ?_ rfl ⟨?_, ?_⟩
         ·simp [results, Tryz.results41, go_sem, cF]
         ·rw [HR.out]
         ·repeat' first | with_reducible exact B3 | with_reducible refine Below.setCell ?_ (by have hs := B2.size; first | exact Nat.le_refl _ | omega | (simp; omega) | simp) _
end Go.Proofs.YtjeomamdlmoghaaGreatDoor
end
