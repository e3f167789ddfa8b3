/- foldOperate of the program. -/
import Derived.Test.YtjeomamdlmoghaaGreatDoorQ00
import Derived.Test.YtjeomamdlmoghaaGreatDoorQSq
import Derived.Test.YtjeomamdlmoghaaGreatDoorQ22
import Derived.Test.YtjeomamdlmoghaaGreatDoorQ25
import Derived.Deep.RegionHeld3
set_option maxRecDepth 100000
set_option maxHeartbeats 8000000
set_option linter.unusedVariables false
set_option linter.unusedSimpArgs false
section
namespace Go.Proofs.YtjeomamdlmoghaaGreatDoor
open Go.RowKit
theorem impl_foldOperate (c : CoreT) (A : Option Addr) (n : Nat) (w : World) (lo hi : Nat) (hk : LRep w lo hi 6 CoreT.dats (.slice A c.kids.length n) c.kids) (hhi : hi ≤ w.heap.size) (hop : opOk c.op = true) (har : arityLo c.op ≤ c.kids.length ∧ (c.kids.length : Int) ≤ arityHi c.op) (hlc : ∀ x ∈ c.kids, LitC x) (hst : SpaceTab w) (ht : PowTab w) :
 Calls Tryz.prog 52 #[.agg #[.int .i64 c.kind, .int .i64 c.op, .int .i64 c.number, .int .i64 c.line, .string c.text, .slice A c.kids.length n]] w (Gives (foldOpV c A n) w) := by
 have hkA := hk
 obtain ⟨A', n', hv, hc1, hc2⟩ := hk.shape
 injection hv with hv1 hv2 hv3
 subst hv1 hv3
 unfold maxLen at hc2
 have HAR := Lib.hid (fold_arity hop har)
 have HLC := Lib.hid hlc
 have HFN : Hid (∀ x ∈ c.kids, litB x = false → foldsB c = false) := fun x hm h => folds_no hm h
 have HFE : Hid (c.kids.all litB = true → foldsB c = (decide ((opR c).2 = -1) || decide ((opR c).2 = 0))) := folds_eq
 have HOP := Lib.hid hop
 obtain ⟨kv, nv, sv, lv, hv0, ev⟩ := (opR c).1.form
 have EV := Lib.hid ev
 clear har hlc hop ev
 obtain ⟨bk, br, B0⟩ := boxes2 w 45 #[.int .i64 c.kind, .int .i64 c.op, .int .i64 c.number, .int .i64 c.line, .string c.text, .slice A c.kids.length n] 45 #[.int .i64 0, .int .i64 0, .int .i64 0, .int .i64 0, .string ⟨#[]⟩, .slice none 0 0]
 go_enter Tryz.func52, Tryz.ntmps52
 go_wp2_with fail
 go_loopw [12] (fun i wr => ∃ k : Nat, k ≤ c.kids.length ∧ i = .int .i64 k ∧ Hid ((c.kids.take k).all litB = true) ∧ Below ((w.alloc (.cells #[.int .i64 c.kind, .int .i64 c.op, .int .i64 c.number, .int .i64 c.line, .string c.text, .slice A c.kids.length n] 45)).alloc (.cells #[.int .i64 0, .int .i64 0, .int .i64 0, .int .i64 0, .string ⟨#[]⟩, .slice none 0 0] 45)).heap.size ((w.alloc (.cells #[.int .i64 c.kind, .int .i64 c.op, .int .i64 c.number, .int .i64 c.line, .string c.text, .slice A c.kids.length n] 45)).alloc (.cells #[.int .i64 0, .int .i64 0, .int .i64 0, .int .i64 0, .string ⟨#[]⟩, .slice none 0 0] 45)) wr) (fun i _ => c.kids.length - (intOf i).toNat)
 case atStart => exact ⟨0, Nat.zero_le _, rfl, by simp [Hid], Below.refl _ _⟩
 case round =>
  obtain ⟨k, hkl, rfl, hgo, hb⟩ := hrel
  have B1 := B0.trans (hb.mono B0.size)
  replace bk := bk.later hb
  replace br := br.later hb
  obtain ⟨cbk, lbk, fbk⟩ := bk.all
  obtain ⟨cbr, lbr, fbr⟩ := br.all
  have hkr := hk.below B1 hhi
  have hiw : hi ≤ wr.heap.size := Nat.le_trans hhi B1.size
  by_cases hlt : k < c.kids.length
  ·obtain ⟨x, hx⟩ : ∃ x, c.kids[k]? = some x := ⟨_, List.getElem?_eq_getElem hlt⟩
   obtain ⟨g, off, Ax, nx, rfl, hg1, hg2, hmem, -, q0, q1, q2, q3, q4, q5⟩ := CoreT.at_ hkr hx
   have HS := Lib.hid (all_snoc (q := litB) hx)
   have HC := Lib.hid (fun W : World => impl_coreLiteral x Ax x.kids.length nx W)
   cases hl : litB x with
   | false =>
     have HV := Lib.hid (HFN.out x hmem hl)
     rw [hl] at HC
     clear hx hl hgo HS
     go_wp2_with fail
     refine (HC.out _).mono ?_; rintro e w2 ⟨rfl, hb⟩
     have B2 : Below w.heap.size w w2 := (B1.alloc (by have hs := B1.size; first | exact hs | omega | (simp; omega)) _).trans (hb.mono (by have hs := B1.size; first | exact hs | omega | (simp; omega)))
     try clear cbk lbk fbk
     try clear cbr lbr fbr
     replace bk := ((bk.alloc _)).later hb
     replace br := ((br.alloc _)).later hb
     clear hb
     obtain ⟨cbk, lbk, fbk⟩ := bk.all
     obtain ⟨cbr, lbr, fbr⟩ := br.all
     go_wp2_with fail
     have hF := ((((((br.set_ 0 (.int .i64 c.kind)).set_ 1 (.int .i64 c.op)).set_ 2 (.int .i64 c.number)).set_ 3 (.int .i64 c.line)).set_ 4 (.string c.text)).set_ 5 (.slice (some ⟨g, off, none⟩) c.kids.length n))
     have cF := hF.cell
     refine bodyPost_ret (v := .agg #[.int .i64 c.kind, .int .i64 c.op, .int .i64 c.number, .int .i64 c.line, .string c.text, .slice (some ⟨g, off, none⟩) c.kids.length n]) ?_ rfl ⟨?_, ?_⟩
     ·simp [results, Tryz.results52, go_sem, cF]
     ·rw [foldOpV_no HV.out]
     ·repeat' first | with_reducible exact B2 | with_reducible refine Below.setCell ?_ (by have hs := B2.size; first | omega | (simp; omega) | simp) _ | with_reducible refine Below.alloc ?_ (by have hs := B2.size; first | omega | (simp; omega) | simp) _
     | true =>
       have HG : Hid ((c.kids.take (k + 1)).all litB = true) := by show _ = _; rw [HS.out, hgo.out, hl]; rfl
       rw [hl] at HC
       clear hx hl hgo HS
       go_wp2_with fail
       refine (HC.out _).mono ?_; rintro e w2 ⟨rfl, hb2⟩
       have hb3 := (hb.alloc hb.size (.cells #[.int .i64 x.kind, .int .i64 x.op, .int .i64 x.number, .int .i64 x.line, .string x.text, .slice Ax x.kids.length nx] 45)).trans (hb2.mono (by have hs := hb.size; simp at hs ⊢; omega))
       clear q0 q1 q2 q3 q4 q5 cbk cbr fbk fbr lbk lbr
       go_wp2_with fail
       go_roundw
       case rel => exact ⟨k + 1, by omega, by go_num, HG, hb3⟩
       case measure => simp [intOf] <;> omega
  ·obtain rfl : k = c.kids.length := by omega
   have HALL : Hid (c.kids.all litB = true) := by have := hgo; rwa [List.take_length] at this
   clear hgo hlt
   have hst1 := hst.below B1 hst.2
   have ht1 := ht.below B1 ht.2
   have b0 : w.heap.size ≤ wr.heap.size := B1.size
   have bv := Blk.new wr 76 #[.int .i64 0, .int .i64 0, .int .i64 0, .string ⟨#[]⟩, .int .i64 0, .int .i64 0]
   have HIN : Hid (∀ (j : Nat) (x : CoreT), c.kids[j]? = some x → litB x = true) := fun j x hj => by have := HALL.out; rw [List.all_eq_true] at this; exact this x (List.mem_of_getElem? hj)
   go_upto_block 2 with fail
   go_cut [6] (fun v wx => v = .int .i64 (opR c).2 ∧ Below wr.heap.size wr wx ∧ Blk wx wr.heap.size 76 #[.int .i64 kv, .int .i64 nv, .int .i64 0, .string sv, .int .i64 lv, .int .i64 hv0])
   case first =>
    go_upto_region 9 with fail
    go_cut [22] (fun v wx => (∃ b : Bool, Hid (decide (c.op = 1 ∨ c.op = 2 ∨ c.op = 6) = b) ∧ v = .bool b) ∧ Below wr.heap.size wr wx ∧ Blk wx wr.heap.size 76 #[.int .i64 0, .int .i64 0, .int .i64 0, .string ⟨#[]⟩, .int .i64 0, .int .i64 0])
    case first =>
     have bw : Below wr.heap.size wr (wr.alloc (.cells #[.int .i64 0, .int .i64 0, .int .i64 0, .string ⟨#[]⟩, .int .i64 0, .int .i64 0] 76)) := (Below.refl wr.heap.size wr).alloc (Nat.le_refl _) _
     have cbk0 := (bk.alloc (.cells #[.int .i64 0, .int .i64 0, .int .i64 0, .string ⟨#[]⟩, .int .i64 0, .int .i64 0] 76)).cell
     by_cases h1 : c.op = 1
     ·have e1 : (c.op == 1) = true := by simp [h1]
      have hd : Hid (decide (c.op = 1 ∨ c.op = 2 ∨ c.op = 6) = true) := decide_eq_true (.inl h1)
      clear h1
      as_aux_lemma =>
       go_wp2_with fail
       go_meet
       exact ⟨⟨_, hd, rfl⟩, bw, bv⟩
     ·have e1 : (c.op == 1) = false := by simpa using h1
      by_cases h2 : c.op = 2
      ·have e2 : (c.op == 2) = true := by simp [h2]
       have hd : Hid (decide (c.op = 1 ∨ c.op = 2 ∨ c.op = 6) = true) := decide_eq_true (.inr (.inl h2))
       clear h1 h2
       as_aux_lemma =>
        go_wp2_with fail
        go_meet
        exact ⟨⟨_, hd, rfl⟩, bw, bv⟩
      ·have e2 : (c.op == 2) = false := by simpa using h2
       have hd : Hid (decide (c.op = 1 ∨ c.op = 2 ∨ c.op = 6) = (c.op == 6)) := by show _ = _; rw [Bool.eq_iff_iff]; simp; omega
       clear h1 h2
       as_aux_lemma =>
        go_wp2_with fail
        go_meet
        exact ⟨⟨_, hd, rfl⟩, bw, bv⟩
    case rest =>
     clear bv
     obtain ⟨⟨b, hbu, rfl⟩, bw, bv⟩ := hcut
     clear hk hkA B0 hb cbk fbk lbk cbr fbr lbr hkl hc1
     have bk0 := bk.below bw bk.lt
     have br0 := br.below bw br.lt
     have cx := bk0.cell
     have fx := bv.frozen
     have lx := bv.lt
     cases b with
     | true =>
       have hu := of_decide_eq_true hbu.out
       obtain ⟨a, hka1⟩ := HAR.out.1 hu
       have hx : c.kids[0]? = some a := by rw [hka1]; rfl
       have hl0 : (0 : Int) < (c.kids.length : Int) := by rw [hka1]; simp
       have hl1 : 0 < c.kids.length := by rw [hka1]; simp
       obtain ⟨g, off, Ax, nx, rfl, hg1, hg2, hmem, -, q0, q1, q2, q3, q4, q5⟩ := CoreT.at_ hkr hx
       have HL1 : Hid (∀ W : World, Below wr.heap.size wr W → Calls Tryz.prog 82 #[.pointer (some ⟨g, off, none⟩), .int .i64 0] W (Gives (litOf a).val W)) := fun W hW => impl_leafValue a (HIN.out 0 a hx) (HLC.out a hmem).2 g off W (by have := hW.size; omega) ((hW.cell (p := ⟨g, _, none⟩) (by show g < _; omega)).trans (by simpa using q0)) ((hW.cell (p := ⟨g, _, none⟩) (by show g < _; omega)).trans (by simpa using q2)) ((hW.cell (p := ⟨g, _, none⟩) (by show g < _; omega)).trans (by simpa using q4))
       have HU : Hid (∀ W : World, Below wr.heap.size wr W → Calls Tryz.prog 81 #[.int .i64 c.op, (litOf a).val] W fun e w' => e = .returned (.tuple #[.agg #[.int .i64 kv, .int .i64 nv, .int .i64 0, .string sv, .int .i64 lv, .int .i64 hv0], .int .i64 (opR c).2]) ∧ Below W.heap.size W w') := fun W hW => by
        have h := impl_Unary c.op (litOf a) (HLC.out a hmem).1 W (ht1.later hW) hu
        rw [← opR_one hka1 hu] at h
        unfold Pair pairV at h
        rw [EV.out] at h
        exact h
       have hne : w.heap.size ≠ wr.heap.size := by have := bk.lt; omega
       have cxd := bk0.drew.cell
       clear hx hka1 q0 q1 q2 q3 q4 q5 HAR hu
       go_wp2_with fail
       go_region_held3 (fun w' => ∀ i, w'.cell? ⟨w.heap.size, i, none⟩ = #[Value.int .i64 c.kind, .int .i64 c.op, .int .i64 c.number, .int .i64 c.line, .string c.text, .slice (some ⟨g, off, none⟩) c.kids.length n][i]?)
        (first | with_reducible exact cxd | with_reducible exact (bk0.drew.later hbA).cell | with_reducible exact ((bk0.drew.later hbA).later hbB).cell | exact (((((((((bk0.drew.later hbA).later hbB).far hne _).far hne _).far hne _).far hne _).far hne _).far hne _)).cell)
        (first | (go_at_call 82; refine (HL1.out _ bw.drew).mono ?_; rintro e wA ⟨rfl, hbA⟩) | (go_at_call 81; refine (HU.out _ (bw.drew.trans (hbA.mono bw.size))).mono ?_; rintro e wB ⟨rfl, hbB⟩; have cvB := ((bv.drew.later hbA).later hbB).cell; have fvB := ((bv.drew.later hbA).later hbB).frozen; have lvB := ((bv.drew.later hbA).later hbB).lt))
       have bA := bw.drew.trans (hbA.mono bw.size)
       have bB := bA.trans (hbB.mono bA.size)
       have bvB := (bv.drew.later hbA).later hbB
       obtain ⟨cv, lv0, fv⟩ := bvB.all
       go_wp2_with fail
       go_meet
       exact ⟨rfl, ((((((bB.setCell (p := ⟨wr.heap.size, 0, none⟩) (Nat.le_refl _) _).setCell (p := ⟨wr.heap.size, 1, none⟩) (Nat.le_refl _) _).setCell (p := ⟨wr.heap.size, 2, none⟩) (Nat.le_refl _) _).setCell (p := ⟨wr.heap.size, 3, none⟩) (Nat.le_refl _) _).setCell (p := ⟨wr.heap.size, 4, none⟩) (Nat.le_refl _) _).setCell (p := ⟨wr.heap.size, 5, none⟩) (Nat.le_refl _) _), ((((((bvB.set_ 0 (.int .i64 kv)).set_ 1 (.int .i64 nv)).set_ 2 (.int .i64 0)).set_ 3 (.string sv)).set_ 4 (.int .i64 lv)).set_ 5 (.int .i64 hv0))⟩
     | false =>
       have hu := of_decide_eq_false hbu.out
       by_cases ht2 : 20 ≤ c.op ∧ c.op ≤ 54 ∧ ¬ c.op = 51
       ·obtain ⟨a, a', hka1⟩ := HAR.out.2 ht2
        have hx : c.kids[0]? = some a := by rw [hka1]; rfl
        have hx' : c.kids[1]? = some a' := by rw [hka1]; rfl
        have hl0 : (0 : Int) < (c.kids.length : Int) := by rw [hka1]; simp
        have hl1 : 0 < c.kids.length := by rw [hka1]; simp
        have hl2 : (1 : Int) < (c.kids.length : Int) := by rw [hka1]; simp
        have hl3 : 1 < c.kids.length := by rw [hka1]; simp
        obtain ⟨g, off, Ax, nx, rfl, hg1, hg2, hmem, -, q0, q1, q2, q3, q4, q5⟩ := CoreT.at_ hkr hx
        obtain ⟨g', off', Ay, ny, hA2, -, -, hmem', -, r0, r1, r2, r3, r4, r5⟩ := CoreT.at_ hkr hx'
        injection hA2 with hA2
        injection hA2 with hA3 hA4
        subst hA3 hA4
        have HL1 : Hid (∀ W : World, Below wr.heap.size wr W → Calls Tryz.prog 82 #[.pointer (some ⟨g, off, none⟩), .int .i64 0] W (Gives (litOf a).val W)) := fun W hW => impl_leafValue a (HIN.out 0 a hx) (HLC.out a hmem).2 g off W (by have := hW.size; omega) ((hW.cell (p := ⟨g, _, none⟩) (by show g < _; omega)).trans (by simpa using q0)) ((hW.cell (p := ⟨g, _, none⟩) (by show g < _; omega)).trans (by simpa using q2)) ((hW.cell (p := ⟨g, _, none⟩) (by show g < _; omega)).trans (by simpa using q4))
        have HL2 : Hid (∀ W : World, Below wr.heap.size wr W → Calls Tryz.prog 82 #[.pointer (some ⟨g, off + 6, none⟩), .int .i64 0] W (Gives (litOf a').val W)) := fun W hW => impl_leafValue a' (HIN.out 1 a' hx') (HLC.out a' hmem').2 g (off + 6) W (by have := hW.size; omega) ((hW.cell (p := ⟨g, _, none⟩) (by show g < _; omega)).trans (by simpa using r0)) ((hW.cell (p := ⟨g, _, none⟩) (by show g < _; omega)).trans (by simpa using r2)) ((hW.cell (p := ⟨g, _, none⟩) (by show g < _; omega)).trans (by simpa using r4))
        obtain ⟨lv1, hlv⟩ : ∃ lv1 : Nat → Value, Hid (lv1 off = (litOf a).val ∧ lv1 (off + 6) = (litOf a').val) := ⟨fun q => if q = off then (litOf a).val else (litOf a').val, if_pos rfl, if_neg (by omega)⟩
        have HL : Hid (∀ (q : Nat) (W : World), Below wr.heap.size wr W → (q = off ∨ q = off + 6) → Calls Tryz.prog 82 #[.pointer (some ⟨g, q, none⟩), .int .i64 0] W fun e w' => e = .returned (lv1 q) ∧ Below W.heap.size W w') := fun q W hW hq => by
         rcases hq with rfl | rfl
         ·have h := HL1.out W hW
          rw [← hlv.out.1] at h
          exact h
         ·have h := HL2.out W hW
          rw [← hlv.out.2] at h
          exact h
        have HU : Hid (∀ W : World, Below wr.heap.size wr W → Calls Tryz.prog 83 #[.int .i64 c.op, lv1 off, lv1 (off + 6)] W fun e w' => e = .returned (.tuple #[.agg #[.int .i64 kv, .int .i64 nv, .int .i64 0, .string sv, .int .i64 lv, .int .i64 hv0], .int .i64 (opR c).2]) ∧ Below W.heap.size W w') := fun W hW => by
         have h := impl_Binary c.op (litOf a) (litOf a') (HLC.out a hmem).1 (HLC.out a' hmem').1 W (ht1.later hW) HOP.out ht2.1 ht2.2.1 ht2.2.2 (hst1.later hW)
         rw [← opR_two hka1 ht2] at h
         unfold Pair pairV at h
         rw [EV.out, ← hlv.out.1, ← hlv.out.2] at h
         exact h
        clear HL1 HL2
        have bkX := bk0.drew
        have bvX := bv.drew
        have bwX := bw.drew
        have hne : w.heap.size ≠ wr.heap.size := by have := bk.lt; omega
        have cxd := bk0.drew.cell
        have t1 := ht2.1
        have t2 := ht2.2.1
        have t3 : (c.op != 51) = true := by simp [ht2.2.2]
        clear hx hx' hka1 q0 q1 q2 q3 q4 q5 r0 r1 r2 r3 r4 r5 HAR hu ht2
        go_wp2_with fail
        go_region_held3 (fun w' => ∀ i, w'.cell? ⟨w.heap.size, i, none⟩ = #[Value.int .i64 c.kind, .int .i64 c.op, .int .i64 c.number, .int .i64 c.line, .string c.text, .slice (some ⟨g, off, none⟩) c.kids.length n][i]?)
         (first | with_reducible exact bkX.cell | exact (((((((bkX.far hne _).far hne _).far hne _).far hne _).far hne _).far hne _)).cell)
         (first
          | (go_at_call 82; refine (HL.out _ _ bwX (by omega)).mono ?_; rintro e wA ⟨rfl, hbA⟩; replace bkX := bkX.later hbA; replace bvX := bvX.later hbA; replace bwX := bwX.trans (hbA.mono bwX.size); clear hbA)
          | (go_at_call 83; refine (HU.out _ bwX).mono ?_; rintro e wB ⟨rfl, hbB⟩; replace bkX := bkX.later hbB; replace bvX := bvX.later hbB; replace bwX := bwX.trans (hbB.mono bwX.size); clear hbB; have cvB := bvX.cell; have fvB := bvX.frozen; have lvB := bvX.lt))
        all_goals
         go_wp2_with fail
         go_meet
         exact ⟨rfl, ((((((bwX.setCell (p := ⟨wr.heap.size, 0, none⟩) (Nat.le_refl _) _).setCell (p := ⟨wr.heap.size, 1, none⟩) (Nat.le_refl _) _).setCell (p := ⟨wr.heap.size, 2, none⟩) (Nat.le_refl _) _).setCell (p := ⟨wr.heap.size, 3, none⟩) (Nat.le_refl _) _).setCell (p := ⟨wr.heap.size, 4, none⟩) (Nat.le_refl _) _).setCell (p := ⟨wr.heap.size, 5, none⟩) (Nat.le_refl _) _), ((((((bvX.set_ 0 (.int .i64 kv)).set_ 1 (.int .i64 nv)).set_ 2 (.int .i64 0)).set_ 3 (.string sv)).set_ 4 (.int .i64 lv)).set_ 5 (.int .i64 hv0))⟩
       ·have HR := opR_no hu ht2
        have EZ : (#[Value.int .i64 kv, .int .i64 nv, .int .i64 0, .string sv, .int .i64 lv, .int .i64 hv0] : Array Value) = #[.int .i64 0, .int .i64 0, .int .i64 0, .string ⟨#[]⟩, .int .i64 0, .int .i64 0] := Value.agg.inj (EV.out.symm.trans (by rw [HR]; rfl))
        have EK : Hid ((205 : Int) = (opR c).2) := by show _ = _; rw [HR]
        rw [← EZ] at bv
        have HZ := Lib.hid EZ
        clear HR EZ
        by_cases t1 : 20 ≤ c.op
        ·by_cases t2 : c.op ≤ 54
         ·have h51 : c.op = 51 := by omega
          have t3 : (c.op != 51) = false := by simp [h51]
          clear hu ht2 h51
          go_wp2_with fail
          go_meet
          exact ⟨congrArg (Value.int .i64) EK.out, bw, bv⟩
         ·clear hu ht2
          go_wp2_with fail
          go_meet
          exact ⟨congrArg (Value.int .i64) EK.out, bw, bv⟩
        ·clear hu ht2
         go_wp2_with fail
         go_meet
         exact ⟨congrArg (Value.int .i64) EK.out, bw, bv⟩
   case rest =>
    clear bv cbk lbk fbk cbr lbr fbr hk hkA B0 hb hkl hc1 hkr HIN HAR HOP
    obtain ⟨rfl, hcw, bv⟩ := hcut
    have B2 : Below w.heap.size w wc := B1.trans (hcw.mono b0)
    replace bk := bk.below hcw bk.lt
    replace br := br.below hcw br.lt
    have HL : Hid (∀ W : World, Calls Tryz.prog 84 #[.agg #[.int .i64 kv, .int .i64 nv, .int .i64 0, .string sv, .int .i64 lv, .int .i64 hv0], .int .i64 c.line] W fun e w' => e = .returned (.tuple #[leafV (coreOfLit c.line (opR c).1), .bool true]) ∧ Below W.heap.size W w') := fun W => by
     have h := impl_literalOf (opR c).1 c.line W
     rw [EV.out] at h
     exact h
    unfold leafV at HL
    clear hcw B1 hst1 ht1
    obtain ⟨cbk, lbk, fbk⟩ := bk.all
    obtain ⟨cbr, lbr, fbr⟩ := br.all
    obtain ⟨cbv, lbv, fbv⟩ := bv.all
    by_cases km : (opR c).2 = -1
    ·have em : ((opR c).2 == -1) = true := by simp [km]
     have HV : Hid (foldOpV c A n = .agg #[.int .i64 28, .int .i64 0, .int .i64 0, .int .i64 c.line, .string ⟨#[]⟩, .slice none 0 0]) := by show _ = _; rw [foldOpV_yes (by rw [HFE.out HALL.out, km]; rfl), foldOp_none HALL.out km]; rfl
     clear km
     go_wp2_with fail
     have hF := ((((((br.set_ 0 (.int .i64 28)).set_ 1 (.int .i64 0)).set_ 2 (.int .i64 0)).set_ 3 (.int .i64 c.line)).set_ 4 (.string ⟨#[]⟩)).set_ 5 (.slice none 0 0))
     have cF := hF.cell
     refine bodyPost_ret (v := .agg #[.int .i64 28, .int .i64 0, .int .i64 0, .int .i64 c.line, .string ⟨#[]⟩, .slice none 0 0]) ?_ rfl ⟨?_, ?_⟩
     ·simp [results, Tryz.results52, go_sem, cF]
     ·rw [HV.out]
     ·repeat' first | with_reducible exact B2 | with_reducible refine Below.setCell ?_ (by have hs := B2.size; first | omega | (simp; omega) | simp) _ | with_reducible refine Below.alloc ?_ (by have hs := B2.size; first | omega | (simp; omega) | simp) _
    ·have em : ((opR c).2 == -1) = false := by simpa using km
     by_cases kz : (opR c).2 = 0
     ·have ez : ((opR c).2 != 0) = false := by simp [kz]
      have HV : Hid (foldOpV c A n = leafV (coreOfLit c.line (opR c).1)) := by show _ = _; rw [foldOpV_yes (by rw [HFE.out HALL.out, kz]; rfl), foldOp_lit HALL.out kz]
      unfold leafV at HV
      generalize coreOfLit c.line (opR c).1 = z at *
      clear km kz
      go_wp2_with fail
      refine (HL.out _).mono ?_; rintro e w3 ⟨rfl, hb⟩
      have B3 : Below w.heap.size w w3 := B2.trans (hb.mono B2.size)
      try clear cbk lbk fbk
      try clear cbr lbr fbr
      try clear cbv lbv fbv
      replace bk := (bk).later hb
      replace br := (br).later hb
      replace bv := (bv).later hb
      clear hb
      obtain ⟨cbk, lbk, fbk⟩ := bk.all
      obtain ⟨cbr, lbr, fbr⟩ := br.all
      obtain ⟨cbv, lbv, fbv⟩ := bv.all
      go_wp2_with fail
      have hF := (((((((br.set_ 0 (.int .i64 z.kind)).set_ 1 (.int .i64 z.op)).set_ 2 (.int .i64 z.number)).set_ 3 (.int .i64 z.line)).set_ 4 (.string z.text)).set_ 5 (.slice none 0 0)).alloc (.cells #[.int .i64 z.kind, .int .i64 z.op, .int .i64 z.number, .int .i64 z.line, .string z.text, .slice none 0 0] 45))
      have cF := hF.cell
      refine bodyPost_ret (v := .agg #[.int .i64 z.kind, .int .i64 z.op, .int .i64 z.number, .int .i64 z.line, .string z.text, .slice none 0 0]) ?_ rfl ⟨?_, ?_⟩
      ·simp [results, Tryz.results52, go_sem, cF]
      ·rw [HV.out]
      ·repeat' first | with_reducible exact B3 | with_reducible refine Below.setCell ?_ (by have hs := B3.size; first | omega | (simp; omega) | simp) _ | with_reducible refine Below.alloc ?_ (by have hs := B3.size; first | omega | (simp; omega) | simp) _
     ·have ez : ((opR c).2 != 0) = true := by simpa using kz
      have HV := Lib.hid (foldOpV_no (A := A) (n := n) (c := c) (by rw [HFE.out HALL.out]; simp [km, kz]))
      generalize coreOfLit c.line (opR c).1 = z at *
      clear km kz
      go_wp2_with fail
      refine (HL.out _).mono ?_; rintro e w3 ⟨rfl, hb⟩
      have B3 : Below w.heap.size w w3 := B2.trans (hb.mono B2.size)
      try clear cbk lbk fbk
      try clear cbr lbr fbr
      try clear cbv lbv fbv
      replace bk := (bk).later hb
      replace br := (br).later hb
      replace bv := (bv).later hb
      clear hb
      obtain ⟨cbk, lbk, fbk⟩ := bk.all
      obtain ⟨cbr, lbr, fbr⟩ := br.all
      obtain ⟨cbv, lbv, fbv⟩ := bv.all
      go_wp2_with fail
      have hF := (((((((br.set_ 0 (.int .i64 c.kind)).set_ 1 (.int .i64 c.op)).set_ 2 (.int .i64 c.number)).set_ 3 (.int .i64 c.line)).set_ 4 (.string c.text)).set_ 5 (.slice A c.kids.length n)).alloc (.cells #[.int .i64 z.kind, .int .i64 z.op, .int .i64 z.number, .int .i64 z.line, .string z.text, .slice none 0 0] 45))
      have cF := hF.cell
      refine bodyPost_ret (v := .agg #[.int .i64 c.kind, .int .i64 c.op, .int .i64 c.number, .int .i64 c.line, .string c.text, .slice A c.kids.length n]) ?_ rfl ⟨?_, ?_⟩
      ·simp [results, Tryz.results52, go_sem, cF]
      ·rw [HV.out]
      ·repeat' first | with_reducible exact B3 | with_reducible refine Below.setCell ?_ (by have hs := B3.size; first | omega | (simp; omega) | simp) _ | with_reducible refine Below.alloc ?_ (by have hs := B3.size; first | omega | (simp; omega) | simp) _
end Go.Proofs.YtjeomamdlmoghaaGreatDoor
end
