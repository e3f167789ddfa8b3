/- The operators on literals of the program. -/
import Derived.Test.YtjeomamdlmoghaaGreatDoorQ00
import Derived.Test.YtjeomamdlmoghaaGreatDoorQSq
import Derived.Test.YtjeomamdlmoghaaGreatDoorQ19
set_option maxRecDepth 100000
set_option maxHeartbeats 8000000
set_option linter.unusedVariables false
set_option linter.unusedSimpArgs false
section
namespace Go.Proofs.YtjeomamdlmoghaaGreatDoor
open Go.RowKit
theorem LitT.form (v : LitT) : ∃ k n s l h, v.val = .agg #[.int .i64 k, .int .i64 n, .int .i64 0, .string s, .int .i64 l, .int .i64 h] := by cases v <;> exact ⟨_, _, _, _, _, rfl⟩
theorem numR_form (n : Int) : numR n = (.int n, 0) ∨ ∃ k : Int, k ≠ 0 ∧ numR n = (.null, k) := by
 unfold numR
 split
 ·exact .inl rfl
 ·exact .inr ⟨203, by decide, rfl⟩
theorem powR_form (a b : Int) : (∃ n, powR a b = (.int n, 0)) ∨ ∃ k : Int, k ≠ 0 ∧ powR a b = (.null, k) := by
 unfold powR
 split
 ·exact .inr ⟨201, by decide, rfl⟩
 split
 ·exact .inl ⟨_, rfl⟩
 split
 ·exact .inl ⟨_, rfl⟩
 split
 ·exact .inl ⟨_, rfl⟩
 split
 ·exact .inr ⟨203, by decide, rfl⟩
 ·exact .inl ⟨_, rfl⟩
theorem arithR_form (op a b : Int) : (∃ n, arithR op a b = (.int n, 0)) ∨ ∃ k : Int, k ≠ 0 ∧ arithR op a b = (.null, k) := by
 unfold arithR
 split
 ·rcases numR_form (a + b) with h | h
  ·exact .inl ⟨_, h⟩
  ·exact .inr h
 split
 ·rcases numR_form (a - b) with h | h
  ·exact .inl ⟨_, h⟩
  ·exact .inr h
 split
 ·split
  ·exact .inr ⟨203, by decide, rfl⟩
  ·exact .inl ⟨_, rfl⟩
 split
 ·exact powR_form a b
 split
 ·exact .inr ⟨201, by decide, rfl⟩
 split
 ·exact .inl ⟨_, rfl⟩
 ·exact .inl ⟨_, rfl⟩
theorem impl_nums (op : Int) (a b : LitT) (a0 : a.Ok) (b0 : b.Ok) (w : World) (ht : PowTab w) (hop : (20 ≤ op ∧ op ≤ 25) ∨ (30 ≤ op ∧ op ≤ 35)) : Calls Tryz.prog 114 #[.int .i64 op, a.val, b.val] w (Pair (numsR op a.toInt b.toInt) w) := by
 have bda : ∀ x, a.toInt = some x → x.natAbs ≤ 999999999999 := fun x h => by have := toInt_bd a0 h; omega
 have bdb : ∀ x, b.toInt = some x → x.natAbs ≤ 999999999999 := fun x h => by have := toInt_bd b0 h; omega
 have o1 : 20 ≤ op := by omega
 have o2 : op ≤ 35 := by omega
 obtain ⟨ka, na, sa, la, ha, ea⟩ := a.form
 obtain ⟨kb, nb, sb, lb, hb, eb⟩ := b.form
 have Ca : ∀ W : World, Below w.heap.size w W → Calls Tryz.prog 109 #[a.val] W (Gives (pairOf a.toInt) W) := fun W hW => impl_ToInteger a a0 W (ht.later hW)
 have Cb : ∀ W : World, Below w.heap.size w W → Calls Tryz.prog 109 #[b.val] W (Gives (pairOf b.toInt) W) := fun W hW => impl_ToInteger b b0 W (ht.later hW)
 generalize hra : a.toInt = ra at *
 rw [ea] at Ca ⊢
 generalize hrb : b.toInt = rb at *
 rw [eb] at Cb ⊢
 cases ra with
 | none =>
   cases rb with
   | none =>
     unfold pairOf at Ca Cb
     have Ha := Lib.hid Ca
     clear Ca
     have Hb := Lib.hid Cb
     clear Cb
     unfold Pair pairV numsR LitT.val
     obtain ⟨ba, bb, br, B0⟩ := boxes3 w 76 #[.int .i64 ka, .int .i64 na, .int .i64 0, .string sa, .int .i64 la, .int .i64 ha] 76 #[.int .i64 kb, .int .i64 nb, .int .i64 0, .string sb, .int .i64 lb, .int .i64 hb] 76 #[.int .i64 0, .int .i64 0, .int .i64 0, .string ⟨#[]⟩, .int .i64 0, .int .i64 0]
     go_enter Tryz.func114, Tryz.ntmps114
     go_wp2_with fail
     refine (Ha.out _ B0).mono ?_; rintro e w1 ⟨rfl, hb⟩
     have B1 : Below w.heap.size w w1 := B0.trans (hb.mono B0.size)
     try clear cba lba fba
     try clear cbb lbb fbb
     try clear cbr lbr fbr
     replace ba := (ba).later hb
     replace bb := (bb).later hb
     replace br := (br).later hb
     clear hb
     obtain ⟨cba, lba, fba⟩ := ba.all
     obtain ⟨cbb, lbb, fbb⟩ := bb.all
     obtain ⟨cbr, lbr, fbr⟩ := br.all
     go_wp2_with fail
     refine (Hb.out _ B1).mono ?_; rintro e w2 ⟨rfl, hb⟩
     have B2 : Below w.heap.size w w2 := B1.trans (hb.mono B1.size)
     try clear cba lba fba
     try clear cbb lbb fbb
     try clear cbr lbr fbr
     replace ba := (ba).later hb
     replace bb := (bb).later hb
     replace br := (br).later hb
     clear hb
     obtain ⟨cba, lba, fba⟩ := ba.all
     obtain ⟨cbb, lbb, fbb⟩ := bb.all
     obtain ⟨cbr, lbr, fbr⟩ := br.all
     go_wp2_with fail
     refine bodyPost_ret (v := .tuple #[.agg #[.int .i64 0, .int .i64 0, .int .i64 0, .string ⟨#[]⟩, .int .i64 0, .int .i64 0], .int .i64 101]) ?_ rfl ⟨?_, ?_⟩
     ·simp [results, Tryz.results114, go_sem, cbr]
     ·rfl
     ·repeat' first | with_reducible exact B2 | with_reducible refine Below.setCell ?_ (by have hs := B2.size; first | omega | (simp; omega) | simp) _ | with_reducible refine Below.alloc ?_ (by have hs := B2.size; first | omega | (simp; omega) | simp) _
   | some y =>
     unfold pairOf at Ca Cb
     have Ha := Lib.hid Ca
     clear Ca
     have Hb := Lib.hid Cb
     clear Cb
     unfold Pair pairV numsR LitT.val
     obtain ⟨ba, bb, br, B0⟩ := boxes3 w 76 #[.int .i64 ka, .int .i64 na, .int .i64 0, .string sa, .int .i64 la, .int .i64 ha] 76 #[.int .i64 kb, .int .i64 nb, .int .i64 0, .string sb, .int .i64 lb, .int .i64 hb] 76 #[.int .i64 0, .int .i64 0, .int .i64 0, .string ⟨#[]⟩, .int .i64 0, .int .i64 0]
     go_enter Tryz.func114, Tryz.ntmps114
     go_wp2_with fail
     refine (Ha.out _ B0).mono ?_; rintro e w1 ⟨rfl, hb⟩
     have B1 : Below w.heap.size w w1 := B0.trans (hb.mono B0.size)
     try clear cba lba fba
     try clear cbb lbb fbb
     try clear cbr lbr fbr
     replace ba := (ba).later hb
     replace bb := (bb).later hb
     replace br := (br).later hb
     clear hb
     obtain ⟨cba, lba, fba⟩ := ba.all
     obtain ⟨cbb, lbb, fbb⟩ := bb.all
     obtain ⟨cbr, lbr, fbr⟩ := br.all
     go_wp2_with fail
     refine (Hb.out _ B1).mono ?_; rintro e w2 ⟨rfl, hb⟩
     have B2 : Below w.heap.size w w2 := B1.trans (hb.mono B1.size)
     try clear cba lba fba
     try clear cbb lbb fbb
     try clear cbr lbr fbr
     replace ba := (ba).later hb
     replace bb := (bb).later hb
     replace br := (br).later hb
     clear hb
     obtain ⟨cba, lba, fba⟩ := ba.all
     obtain ⟨cbb, lbb, fbb⟩ := bb.all
     obtain ⟨cbr, lbr, fbr⟩ := br.all
     go_wp2_with fail
     refine bodyPost_ret (v := .tuple #[.agg #[.int .i64 0, .int .i64 0, .int .i64 0, .string ⟨#[]⟩, .int .i64 0, .int .i64 0], .int .i64 101]) ?_ rfl ⟨?_, ?_⟩
     ·simp [results, Tryz.results114, go_sem, cbr]
     ·rfl
     ·repeat' first | with_reducible exact B2 | with_reducible refine Below.setCell ?_ (by have hs := B2.size; first | omega | (simp; omega) | simp) _ | with_reducible refine Below.alloc ?_ (by have hs := B2.size; first | omega | (simp; omega) | simp) _
 | some x =>
   cases rb with
   | none =>
     unfold pairOf at Ca Cb
     have Ha := Lib.hid Ca
     clear Ca
     have Hb := Lib.hid Cb
     clear Cb
     unfold Pair pairV numsR LitT.val
     obtain ⟨ba, bb, br, B0⟩ := boxes3 w 76 #[.int .i64 ka, .int .i64 na, .int .i64 0, .string sa, .int .i64 la, .int .i64 ha] 76 #[.int .i64 kb, .int .i64 nb, .int .i64 0, .string sb, .int .i64 lb, .int .i64 hb] 76 #[.int .i64 0, .int .i64 0, .int .i64 0, .string ⟨#[]⟩, .int .i64 0, .int .i64 0]
     go_enter Tryz.func114, Tryz.ntmps114
     go_wp2_with fail
     refine (Ha.out _ B0).mono ?_; rintro e w1 ⟨rfl, hb⟩
     have B1 : Below w.heap.size w w1 := B0.trans (hb.mono B0.size)
     try clear cba lba fba
     try clear cbb lbb fbb
     try clear cbr lbr fbr
     replace ba := (ba).later hb
     replace bb := (bb).later hb
     replace br := (br).later hb
     clear hb
     obtain ⟨cba, lba, fba⟩ := ba.all
     obtain ⟨cbb, lbb, fbb⟩ := bb.all
     obtain ⟨cbr, lbr, fbr⟩ := br.all
     go_wp2_with fail
     refine (Hb.out _ B1).mono ?_; rintro e w2 ⟨rfl, hb⟩
     have B2 : Below w.heap.size w w2 := B1.trans (hb.mono B1.size)
     try clear cba lba fba
     try clear cbb lbb fbb
     try clear cbr lbr fbr
     replace ba := (ba).later hb
     replace bb := (bb).later hb
     replace br := (br).later hb
     clear hb
     obtain ⟨cba, lba, fba⟩ := ba.all
     obtain ⟨cbb, lbb, fbb⟩ := bb.all
     obtain ⟨cbr, lbr, fbr⟩ := br.all
     go_wp2_with fail
     refine bodyPost_ret (v := .tuple #[.agg #[.int .i64 0, .int .i64 0, .int .i64 0, .string ⟨#[]⟩, .int .i64 0, .int .i64 0], .int .i64 101]) ?_ rfl ⟨?_, ?_⟩
     ·simp [results, Tryz.results114, go_sem, cbr]
     ·rfl
     ·repeat' first | with_reducible exact B2 | with_reducible refine Below.setCell ?_ (by have hs := B2.size; first | omega | (simp; omega) | simp) _ | with_reducible refine Below.alloc ?_ (by have hs := B2.size; first | omega | (simp; omega) | simp) _
   | some y =>
     have hx := bda x rfl
     have hy := bdb y rfl
     unfold pairOf at Ca Cb
     have Ha := Lib.hid Ca
     clear Ca
     have Hb := Lib.hid Cb
     clear Cb
     by_cases h25 : op ≤ 25
     ·have HR : Hid (numsR op (some x) (some y) = arithR op x y) := by show _ = _; simp only [numsR]; rw [if_pos h25]
      rw [HR.out]
      clear HR
      have HA := Lib.hid (fun W : World => impl_arithmetic op x y W hx hy o1 h25)
      rcases arithR_form op x y with ⟨n, hn⟩ | ⟨k, hk, hn⟩
      ·rw [hn] at HA ⊢
       unfold Pair pairV LitT.val
       unfold Pair pairV LitT.val at HA
       obtain ⟨ba, bb, br, B0⟩ := boxes3 w 76 #[.int .i64 ka, .int .i64 na, .int .i64 0, .string sa, .int .i64 la, .int .i64 ha] 76 #[.int .i64 kb, .int .i64 nb, .int .i64 0, .string sb, .int .i64 lb, .int .i64 hb] 76 #[.int .i64 0, .int .i64 0, .int .i64 0, .string ⟨#[]⟩, .int .i64 0, .int .i64 0]
       go_enter Tryz.func114, Tryz.ntmps114
       go_wp2_with fail
       refine (Ha.out _ B0).mono ?_; rintro e w1 ⟨rfl, hb⟩
       have B1 : Below w.heap.size w w1 := B0.trans (hb.mono B0.size)
       try clear cba lba fba
       try clear cbb lbb fbb
       try clear cbr lbr fbr
       replace ba := (ba).later hb
       replace bb := (bb).later hb
       replace br := (br).later hb
       clear hb
       obtain ⟨cba, lba, fba⟩ := ba.all
       obtain ⟨cbb, lbb, fbb⟩ := bb.all
       obtain ⟨cbr, lbr, fbr⟩ := br.all
       go_wp2_with fail
       refine (Hb.out _ B1).mono ?_; rintro e w2 ⟨rfl, hb⟩
       have B2 : Below w.heap.size w w2 := B1.trans (hb.mono B1.size)
       try clear cba lba fba
       try clear cbb lbb fbb
       try clear cbr lbr fbr
       replace ba := (ba).later hb
       replace bb := (bb).later hb
       replace br := (br).later hb
       clear hb
       obtain ⟨cba, lba, fba⟩ := ba.all
       obtain ⟨cbb, lbb, fbb⟩ := bb.all
       obtain ⟨cbr, lbr, fbr⟩ := br.all
       go_wp2_with fail
       refine (HA.out _).mono ?_; rintro e w3 ⟨rfl, hb⟩
       have B3 : Below w.heap.size w w3 := B2.trans (hb.mono B2.size)
       try clear cba lba fba
       try clear cbb lbb fbb
       try clear cbr lbr fbr
       replace ba := (ba).later hb
       replace bb := (bb).later hb
       replace br := (br).later hb
       clear hb
       obtain ⟨cba, lba, fba⟩ := ba.all
       obtain ⟨cbb, lbb, fbb⟩ := bb.all
       obtain ⟨cbr, lbr, fbr⟩ := br.all
       go_wp2_with fail
       have hF := ((((((br.set_ 0 (.int .i64 1)).set_ 1 (.int .i64 (n))).set_ 2 (.int .i64 0)).set_ 3 (.string ⟨#[]⟩)).set_ 4 (.int .i64 0)).set_ 5 (.int .i64 0))
       have cF := hF.cell
       refine bodyPost_ret (v := .tuple #[.agg #[.int .i64 1, .int .i64 (n), .int .i64 0, .string ⟨#[]⟩, .int .i64 0, .int .i64 0], .int .i64 0]) ?_ rfl ⟨?_, ?_⟩
       ·simp [results, Tryz.results114, go_sem, cF]
       ·rfl
       ·repeat' first | with_reducible exact B3 | with_reducible refine Below.setCell ?_ (by have hs := B3.size; first | omega | (simp; omega) | simp) _ | with_reducible refine Below.alloc ?_ (by have hs := B3.size; first | omega | (simp; omega) | simp) _
      ·rw [hn] at HA ⊢
       unfold Pair pairV LitT.val
       unfold Pair pairV LitT.val at HA
       have fk : (k != 0) = true := by simpa using hk
       obtain ⟨ba, bb, br, B0⟩ := boxes3 w 76 #[.int .i64 ka, .int .i64 na, .int .i64 0, .string sa, .int .i64 la, .int .i64 ha] 76 #[.int .i64 kb, .int .i64 nb, .int .i64 0, .string sb, .int .i64 lb, .int .i64 hb] 76 #[.int .i64 0, .int .i64 0, .int .i64 0, .string ⟨#[]⟩, .int .i64 0, .int .i64 0]
       go_enter Tryz.func114, Tryz.ntmps114
       go_wp2_with fail
       refine (Ha.out _ B0).mono ?_; rintro e w1 ⟨rfl, hb⟩
       have B1 : Below w.heap.size w w1 := B0.trans (hb.mono B0.size)
       try clear cba lba fba
       try clear cbb lbb fbb
       try clear cbr lbr fbr
       replace ba := (ba).later hb
       replace bb := (bb).later hb
       replace br := (br).later hb
       clear hb
       obtain ⟨cba, lba, fba⟩ := ba.all
       obtain ⟨cbb, lbb, fbb⟩ := bb.all
       obtain ⟨cbr, lbr, fbr⟩ := br.all
       go_wp2_with fail
       refine (Hb.out _ B1).mono ?_; rintro e w2 ⟨rfl, hb⟩
       have B2 : Below w.heap.size w w2 := B1.trans (hb.mono B1.size)
       try clear cba lba fba
       try clear cbb lbb fbb
       try clear cbr lbr fbr
       replace ba := (ba).later hb
       replace bb := (bb).later hb
       replace br := (br).later hb
       clear hb
       obtain ⟨cba, lba, fba⟩ := ba.all
       obtain ⟨cbb, lbb, fbb⟩ := bb.all
       obtain ⟨cbr, lbr, fbr⟩ := br.all
       go_wp2_with fail
       refine (HA.out _).mono ?_; rintro e w3 ⟨rfl, hb⟩
       have B3 : Below w.heap.size w w3 := B2.trans (hb.mono B2.size)
       try clear cba lba fba
       try clear cbb lbb fbb
       try clear cbr lbr fbr
       replace ba := (ba).later hb
       replace bb := (bb).later hb
       replace br := (br).later hb
       clear hb
       obtain ⟨cba, lba, fba⟩ := ba.all
       obtain ⟨cbb, lbb, fbb⟩ := bb.all
       obtain ⟨cbr, lbr, fbr⟩ := br.all
       go_wp2_with fail
       have hF := ((((((br.set_ 0 (.int .i64 0)).set_ 1 (.int .i64 (0))).set_ 2 (.int .i64 0)).set_ 3 (.string ⟨#[]⟩)).set_ 4 (.int .i64 0)).set_ 5 (.int .i64 0))
       have cF := hF.cell
       refine bodyPost_ret (v := .tuple #[.agg #[.int .i64 0, .int .i64 (0), .int .i64 0, .string ⟨#[]⟩, .int .i64 0, .int .i64 0], .int .i64 k]) ?_ rfl ⟨?_, ?_⟩
       ·simp [results, Tryz.results114, go_sem, cF]
       ·rfl
       ·repeat' first | with_reducible exact B3 | with_reducible refine Below.setCell ?_ (by have hs := B3.size; first | omega | (simp; omega) | simp) _ | with_reducible refine Below.alloc ?_ (by have hs := B3.size; first | omega | (simp; omega) | simp) _
     ·have HR : Hid (numsR op (some x) (some y) = if holdsB (op - 30) (signI x y) = true then (.int y, 0) else (.null, -1)) := by show _ = _; simp only [numsR]; rw [if_neg h25]
      rw [HR.out]
      clear HR
      have HS := Lib.hid (fun W : World => impl_sign x y W)
      have o3 : 30 ≤ op := by omega
      have HH := Lib.hid (fun (s : Int) (W : World) => impl_holds (op - 30) s W (by omega) (by omega))
      generalize signI x y = sg at *
      have HH2 := Lib.hid (HH.out sg)
      clear HH
      cases hh : holdsB (op - 30) sg with
      | true =>
        rw [hh] at HH2
        clear hh
        rw [if_pos (by decide)]
        unfold Pair pairV LitT.val
        obtain ⟨ba, bb, br, B0⟩ := boxes3 w 76 #[.int .i64 ka, .int .i64 na, .int .i64 0, .string sa, .int .i64 la, .int .i64 ha] 76 #[.int .i64 kb, .int .i64 nb, .int .i64 0, .string sb, .int .i64 lb, .int .i64 hb] 76 #[.int .i64 0, .int .i64 0, .int .i64 0, .string ⟨#[]⟩, .int .i64 0, .int .i64 0]
        go_enter Tryz.func114, Tryz.ntmps114
        go_wp2_with fail
        refine (Ha.out _ B0).mono ?_; rintro e w1 ⟨rfl, hb⟩
        have B1 : Below w.heap.size w w1 := B0.trans (hb.mono B0.size)
        try clear cba lba fba
        try clear cbb lbb fbb
        try clear cbr lbr fbr
        replace ba := (ba).later hb
        replace bb := (bb).later hb
        replace br := (br).later hb
        clear hb
        obtain ⟨cba, lba, fba⟩ := ba.all
        obtain ⟨cbb, lbb, fbb⟩ := bb.all
        obtain ⟨cbr, lbr, fbr⟩ := br.all
        go_wp2_with fail
        refine (Hb.out _ B1).mono ?_; rintro e w2 ⟨rfl, hb⟩
        have B2 : Below w.heap.size w w2 := B1.trans (hb.mono B1.size)
        try clear cba lba fba
        try clear cbb lbb fbb
        try clear cbr lbr fbr
        replace ba := (ba).later hb
        replace bb := (bb).later hb
        replace br := (br).later hb
        clear hb
        obtain ⟨cba, lba, fba⟩ := ba.all
        obtain ⟨cbb, lbb, fbb⟩ := bb.all
        obtain ⟨cbr, lbr, fbr⟩ := br.all
        go_wp2_with fail
        refine (HS.out _).mono ?_; rintro e wz ⟨rfl, rfl⟩
        obtain ⟨cba, lba, fba⟩ := ba.all
        obtain ⟨cbb, lbb, fbb⟩ := bb.all
        obtain ⟨cbr, lbr, fbr⟩ := br.all
        go_wp2_with fail
        refine (HH2.out _).mono ?_; rintro e wz ⟨rfl, rfl⟩
        obtain ⟨cba, lba, fba⟩ := ba.all
        obtain ⟨cbb, lbb, fbb⟩ := bb.all
        obtain ⟨cbr, lbr, fbr⟩ := br.all
        go_wp2_with fail
        have hF := ((((((br.set_ 0 (.int .i64 1)).set_ 1 (.int .i64 (y))).set_ 2 (.int .i64 0)).set_ 3 (.string ⟨#[]⟩)).set_ 4 (.int .i64 0)).set_ 5 (.int .i64 0))
        have cF := hF.cell
        refine bodyPost_ret (v := .tuple #[.agg #[.int .i64 1, .int .i64 (y), .int .i64 0, .string ⟨#[]⟩, .int .i64 0, .int .i64 0], .int .i64 0]) ?_ rfl ⟨?_, ?_⟩
        ·simp [results, Tryz.results114, go_sem, cF]
        ·rfl
        ·repeat' first | with_reducible exact B2 | with_reducible refine Below.setCell ?_ (by have hs := B2.size; first | omega | (simp; omega) | simp) _ | with_reducible refine Below.alloc ?_ (by have hs := B2.size; first | omega | (simp; omega) | simp) _
      | false =>
        rw [hh] at HH2
        clear hh
        rw [if_neg (by decide)]
        unfold Pair pairV LitT.val
        obtain ⟨ba, bb, br, B0⟩ := boxes3 w 76 #[.int .i64 ka, .int .i64 na, .int .i64 0, .string sa, .int .i64 la, .int .i64 ha] 76 #[.int .i64 kb, .int .i64 nb, .int .i64 0, .string sb, .int .i64 lb, .int .i64 hb] 76 #[.int .i64 0, .int .i64 0, .int .i64 0, .string ⟨#[]⟩, .int .i64 0, .int .i64 0]
        go_enter Tryz.func114, Tryz.ntmps114
        go_wp2_with fail
        refine (Ha.out _ B0).mono ?_; rintro e w1 ⟨rfl, hb⟩
        have B1 : Below w.heap.size w w1 := B0.trans (hb.mono B0.size)
        try clear cba lba fba
        try clear cbb lbb fbb
        try clear cbr lbr fbr
        replace ba := (ba).later hb
        replace bb := (bb).later hb
        replace br := (br).later hb
        clear hb
        obtain ⟨cba, lba, fba⟩ := ba.all
        obtain ⟨cbb, lbb, fbb⟩ := bb.all
        obtain ⟨cbr, lbr, fbr⟩ := br.all
        go_wp2_with fail
        refine (Hb.out _ B1).mono ?_; rintro e w2 ⟨rfl, hb⟩
        have B2 : Below w.heap.size w w2 := B1.trans (hb.mono B1.size)
        try clear cba lba fba
        try clear cbb lbb fbb
        try clear cbr lbr fbr
        replace ba := (ba).later hb
        replace bb := (bb).later hb
        replace br := (br).later hb
        clear hb
        obtain ⟨cba, lba, fba⟩ := ba.all
        obtain ⟨cbb, lbb, fbb⟩ := bb.all
        obtain ⟨cbr, lbr, fbr⟩ := br.all
        go_wp2_with fail
        refine (HS.out _).mono ?_; rintro e wz ⟨rfl, rfl⟩
        obtain ⟨cba, lba, fba⟩ := ba.all
        obtain ⟨cbb, lbb, fbb⟩ := bb.all
        obtain ⟨cbr, lbr, fbr⟩ := br.all
        go_wp2_with fail
        refine (HH2.out _).mono ?_; rintro e wz ⟨rfl, rfl⟩
        obtain ⟨cba, lba, fba⟩ := ba.all
        obtain ⟨cbb, lbb, fbb⟩ := bb.all
        obtain ⟨cbr, lbr, fbr⟩ := br.all
        go_wp2_with fail
        refine bodyPost_ret (v := .tuple #[.agg #[.int .i64 0, .int .i64 0, .int .i64 0, .string ⟨#[]⟩, .int .i64 0, .int .i64 0], .int .i64 (-1)]) ?_ rfl ⟨?_, ?_⟩
        ·simp [results, Tryz.results114, go_sem, cbr]
        ·rfl
        ·repeat' first | with_reducible exact B2 | with_reducible refine Below.setCell ?_ (by have hs := B2.size; first | omega | (simp; omega) | simp) _ | with_reducible refine Below.alloc ?_ (by have hs := B2.size; first | omega | (simp; omega) | simp) _
theorem impl_texts (op : Int) (a b : LitT) (a0 : a.Ok) (b0 : b.Ok) (w : World) (ht : PowTab w) (hop : (40 ≤ op ∧ op ≤ 45) ∨ op = 50) : Calls Tryz.prog 114 #[.int .i64 op, a.val, b.val] w (Pair (textsR op a.toText b.toText) w) := by
 have bda : ∀ x, a.toText = some x → x.size ≤ 120 := fun x h => toText_bd a0 h
 have bdb : ∀ x, b.toText = some x → x.size ≤ 120 := fun x h => toText_bd b0 h
 have o1 : 40 ≤ op := by omega
 have o2 : op ≤ 50 := by omega
 have e46 : (op == 46) = false := beq_eq_false_iff_ne.2 (by omega)
 have e47 : (op == 47) = false := beq_eq_false_iff_ne.2 (by omega)
 obtain ⟨ka, na, sa, la, ha, ea⟩ := a.form
 obtain ⟨kb, nb, sb, lb, hb, eb⟩ := b.form
 have Ca : ∀ W : World, Below w.heap.size w W → Calls Tryz.prog 127 #[a.val] W (Gives (textV a.toText) W) := fun W hW => impl_ToText a a0 W (ht.later hW)
 have Cb : ∀ W : World, Below w.heap.size w W → Calls Tryz.prog 127 #[b.val] W (Gives (textV b.toText) W) := fun W hW => impl_ToText b b0 W (ht.later hW)
 generalize hra : a.toText = ra at *
 rw [ea] at Ca ⊢
 generalize hrb : b.toText = rb at *
 rw [eb] at Cb ⊢
 cases ra with
 | none =>
   cases rb with
   | none =>
     unfold textV at Ca Cb
     have Ha := Lib.hid Ca
     clear Ca
     have Hb := Lib.hid Cb
     clear Cb
     unfold Pair pairV textsR LitT.val
     rcases hop with hop | hop
     ·obtain ⟨o3, o4⟩ := hop
      obtain ⟨ba, bb, br, B0⟩ := boxes3 w 76 #[.int .i64 ka, .int .i64 na, .int .i64 0, .string sa, .int .i64 la, .int .i64 ha] 76 #[.int .i64 kb, .int .i64 nb, .int .i64 0, .string sb, .int .i64 lb, .int .i64 hb] 76 #[.int .i64 0, .int .i64 0, .int .i64 0, .string ⟨#[]⟩, .int .i64 0, .int .i64 0]
      go_enter Tryz.func114, Tryz.ntmps114
      go_wp2_with fail
      refine (Ha.out _ B0).mono ?_; rintro e w1 ⟨rfl, hb⟩
      have B1 : Below w.heap.size w w1 := B0.trans (hb.mono B0.size)
      try clear cba lba fba
      try clear cbb lbb fbb
      try clear cbr lbr fbr
      replace ba := (ba).later hb
      replace bb := (bb).later hb
      replace br := (br).later hb
      clear hb
      obtain ⟨cba, lba, fba⟩ := ba.all
      obtain ⟨cbb, lbb, fbb⟩ := bb.all
      obtain ⟨cbr, lbr, fbr⟩ := br.all
      go_wp2_with fail
      refine (Hb.out _ B1).mono ?_; rintro e w2 ⟨rfl, hb⟩
      have B2 : Below w.heap.size w w2 := B1.trans (hb.mono B1.size)
      try clear cba lba fba
      try clear cbb lbb fbb
      try clear cbr lbr fbr
      replace ba := (ba).later hb
      replace bb := (bb).later hb
      replace br := (br).later hb
      clear hb
      obtain ⟨cba, lba, fba⟩ := ba.all
      obtain ⟨cbb, lbb, fbb⟩ := bb.all
      obtain ⟨cbr, lbr, fbr⟩ := br.all
      go_wp2_with fail
      refine bodyPost_ret (v := .tuple #[.agg #[.int .i64 0, .int .i64 0, .int .i64 0, .string ⟨#[]⟩, .int .i64 0, .int .i64 0], .int .i64 103]) ?_ rfl ⟨?_, ?_⟩
      ·simp [results, Tryz.results114, go_sem, cbr]
      ·rfl
      ·repeat' first | with_reducible exact B2 | with_reducible refine Below.setCell ?_ (by have hs := B2.size; first | omega | (simp; omega) | simp) _ | with_reducible refine Below.alloc ?_ (by have hs := B2.size; first | omega | (simp; omega) | simp) _
     ·subst hop
      obtain ⟨ba, bb, br, B0⟩ := boxes3 w 76 #[.int .i64 ka, .int .i64 na, .int .i64 0, .string sa, .int .i64 la, .int .i64 ha] 76 #[.int .i64 kb, .int .i64 nb, .int .i64 0, .string sb, .int .i64 lb, .int .i64 hb] 76 #[.int .i64 0, .int .i64 0, .int .i64 0, .string ⟨#[]⟩, .int .i64 0, .int .i64 0]
      go_enter Tryz.func114, Tryz.ntmps114
      go_wp2_with fail
      refine (Ha.out _ B0).mono ?_; rintro e w1 ⟨rfl, hb⟩
      have B1 : Below w.heap.size w w1 := B0.trans (hb.mono B0.size)
      try clear cba lba fba
      try clear cbb lbb fbb
      try clear cbr lbr fbr
      replace ba := (ba).later hb
      replace bb := (bb).later hb
      replace br := (br).later hb
      clear hb
      obtain ⟨cba, lba, fba⟩ := ba.all
      obtain ⟨cbb, lbb, fbb⟩ := bb.all
      obtain ⟨cbr, lbr, fbr⟩ := br.all
      go_wp2_with fail
      refine (Hb.out _ B1).mono ?_; rintro e w2 ⟨rfl, hb⟩
      have B2 : Below w.heap.size w w2 := B1.trans (hb.mono B1.size)
      try clear cba lba fba
      try clear cbb lbb fbb
      try clear cbr lbr fbr
      replace ba := (ba).later hb
      replace bb := (bb).later hb
      replace br := (br).later hb
      clear hb
      obtain ⟨cba, lba, fba⟩ := ba.all
      obtain ⟨cbb, lbb, fbb⟩ := bb.all
      obtain ⟨cbr, lbr, fbr⟩ := br.all
      go_wp2_with fail
      refine bodyPost_ret (v := .tuple #[.agg #[.int .i64 0, .int .i64 0, .int .i64 0, .string ⟨#[]⟩, .int .i64 0, .int .i64 0], .int .i64 103]) ?_ rfl ⟨?_, ?_⟩
      ·simp [results, Tryz.results114, go_sem, cbr]
      ·rfl
      ·repeat' first | with_reducible exact B2 | with_reducible refine Below.setCell ?_ (by have hs := B2.size; first | omega | (simp; omega) | simp) _ | with_reducible refine Below.alloc ?_ (by have hs := B2.size; first | omega | (simp; omega) | simp) _
   | some y =>
     unfold textV at Ca Cb
     have Ha := Lib.hid Ca
     clear Ca
     have Hb := Lib.hid Cb
     clear Cb
     unfold Pair pairV textsR LitT.val
     rcases hop with hop | hop
     ·obtain ⟨o3, o4⟩ := hop
      obtain ⟨ba, bb, br, B0⟩ := boxes3 w 76 #[.int .i64 ka, .int .i64 na, .int .i64 0, .string sa, .int .i64 la, .int .i64 ha] 76 #[.int .i64 kb, .int .i64 nb, .int .i64 0, .string sb, .int .i64 lb, .int .i64 hb] 76 #[.int .i64 0, .int .i64 0, .int .i64 0, .string ⟨#[]⟩, .int .i64 0, .int .i64 0]
      go_enter Tryz.func114, Tryz.ntmps114
      go_wp2_with fail
      refine (Ha.out _ B0).mono ?_; rintro e w1 ⟨rfl, hb⟩
      have B1 : Below w.heap.size w w1 := B0.trans (hb.mono B0.size)
      try clear cba lba fba
      try clear cbb lbb fbb
      try clear cbr lbr fbr
      replace ba := (ba).later hb
      replace bb := (bb).later hb
      replace br := (br).later hb
      clear hb
      obtain ⟨cba, lba, fba⟩ := ba.all
      obtain ⟨cbb, lbb, fbb⟩ := bb.all
      obtain ⟨cbr, lbr, fbr⟩ := br.all
      go_wp2_with fail
      refine (Hb.out _ B1).mono ?_; rintro e w2 ⟨rfl, hb⟩
      have B2 : Below w.heap.size w w2 := B1.trans (hb.mono B1.size)
      try clear cba lba fba
      try clear cbb lbb fbb
      try clear cbr lbr fbr
      replace ba := (ba).later hb
      replace bb := (bb).later hb
      replace br := (br).later hb
      clear hb
      obtain ⟨cba, lba, fba⟩ := ba.all
      obtain ⟨cbb, lbb, fbb⟩ := bb.all
      obtain ⟨cbr, lbr, fbr⟩ := br.all
      go_wp2_with fail
      refine bodyPost_ret (v := .tuple #[.agg #[.int .i64 0, .int .i64 0, .int .i64 0, .string ⟨#[]⟩, .int .i64 0, .int .i64 0], .int .i64 103]) ?_ rfl ⟨?_, ?_⟩
      ·simp [results, Tryz.results114, go_sem, cbr]
      ·rfl
      ·repeat' first | with_reducible exact B2 | with_reducible refine Below.setCell ?_ (by have hs := B2.size; first | omega | (simp; omega) | simp) _ | with_reducible refine Below.alloc ?_ (by have hs := B2.size; first | omega | (simp; omega) | simp) _
     ·subst hop
      obtain ⟨ba, bb, br, B0⟩ := boxes3 w 76 #[.int .i64 ka, .int .i64 na, .int .i64 0, .string sa, .int .i64 la, .int .i64 ha] 76 #[.int .i64 kb, .int .i64 nb, .int .i64 0, .string sb, .int .i64 lb, .int .i64 hb] 76 #[.int .i64 0, .int .i64 0, .int .i64 0, .string ⟨#[]⟩, .int .i64 0, .int .i64 0]
      go_enter Tryz.func114, Tryz.ntmps114
      go_wp2_with fail
      refine (Ha.out _ B0).mono ?_; rintro e w1 ⟨rfl, hb⟩
      have B1 : Below w.heap.size w w1 := B0.trans (hb.mono B0.size)
      try clear cba lba fba
      try clear cbb lbb fbb
      try clear cbr lbr fbr
      replace ba := (ba).later hb
      replace bb := (bb).later hb
      replace br := (br).later hb
      clear hb
      obtain ⟨cba, lba, fba⟩ := ba.all
      obtain ⟨cbb, lbb, fbb⟩ := bb.all
      obtain ⟨cbr, lbr, fbr⟩ := br.all
      go_wp2_with fail
      refine (Hb.out _ B1).mono ?_; rintro e w2 ⟨rfl, hb⟩
      have B2 : Below w.heap.size w w2 := B1.trans (hb.mono B1.size)
      try clear cba lba fba
      try clear cbb lbb fbb
      try clear cbr lbr fbr
      replace ba := (ba).later hb
      replace bb := (bb).later hb
      replace br := (br).later hb
      clear hb
      obtain ⟨cba, lba, fba⟩ := ba.all
      obtain ⟨cbb, lbb, fbb⟩ := bb.all
      obtain ⟨cbr, lbr, fbr⟩ := br.all
      go_wp2_with fail
      refine bodyPost_ret (v := .tuple #[.agg #[.int .i64 0, .int .i64 0, .int .i64 0, .string ⟨#[]⟩, .int .i64 0, .int .i64 0], .int .i64 103]) ?_ rfl ⟨?_, ?_⟩
      ·simp [results, Tryz.results114, go_sem, cbr]
      ·rfl
      ·repeat' first | with_reducible exact B2 | with_reducible refine Below.setCell ?_ (by have hs := B2.size; first | omega | (simp; omega) | simp) _ | with_reducible refine Below.alloc ?_ (by have hs := B2.size; first | omega | (simp; omega) | simp) _
 | some x =>
   cases rb with
   | none =>
     unfold textV at Ca Cb
     have Ha := Lib.hid Ca
     clear Ca
     have Hb := Lib.hid Cb
     clear Cb
     unfold Pair pairV textsR LitT.val
     rcases hop with hop | hop
     ·obtain ⟨o3, o4⟩ := hop
      obtain ⟨ba, bb, br, B0⟩ := boxes3 w 76 #[.int .i64 ka, .int .i64 na, .int .i64 0, .string sa, .int .i64 la, .int .i64 ha] 76 #[.int .i64 kb, .int .i64 nb, .int .i64 0, .string sb, .int .i64 lb, .int .i64 hb] 76 #[.int .i64 0, .int .i64 0, .int .i64 0, .string ⟨#[]⟩, .int .i64 0, .int .i64 0]
      go_enter Tryz.func114, Tryz.ntmps114
      go_wp2_with fail
      refine (Ha.out _ B0).mono ?_; rintro e w1 ⟨rfl, hb⟩
      have B1 : Below w.heap.size w w1 := B0.trans (hb.mono B0.size)
      try clear cba lba fba
      try clear cbb lbb fbb
      try clear cbr lbr fbr
      replace ba := (ba).later hb
      replace bb := (bb).later hb
      replace br := (br).later hb
      clear hb
      obtain ⟨cba, lba, fba⟩ := ba.all
      obtain ⟨cbb, lbb, fbb⟩ := bb.all
      obtain ⟨cbr, lbr, fbr⟩ := br.all
      go_wp2_with fail
      refine (Hb.out _ B1).mono ?_; rintro e w2 ⟨rfl, hb⟩
      have B2 : Below w.heap.size w w2 := B1.trans (hb.mono B1.size)
      try clear cba lba fba
      try clear cbb lbb fbb
      try clear cbr lbr fbr
      replace ba := (ba).later hb
      replace bb := (bb).later hb
      replace br := (br).later hb
      clear hb
      obtain ⟨cba, lba, fba⟩ := ba.all
      obtain ⟨cbb, lbb, fbb⟩ := bb.all
      obtain ⟨cbr, lbr, fbr⟩ := br.all
      go_wp2_with fail
      refine bodyPost_ret (v := .tuple #[.agg #[.int .i64 0, .int .i64 0, .int .i64 0, .string ⟨#[]⟩, .int .i64 0, .int .i64 0], .int .i64 103]) ?_ rfl ⟨?_, ?_⟩
      ·simp [results, Tryz.results114, go_sem, cbr]
      ·rfl
      ·repeat' first | with_reducible exact B2 | with_reducible refine Below.setCell ?_ (by have hs := B2.size; first | omega | (simp; omega) | simp) _ | with_reducible refine Below.alloc ?_ (by have hs := B2.size; first | omega | (simp; omega) | simp) _
     ·subst hop
      obtain ⟨ba, bb, br, B0⟩ := boxes3 w 76 #[.int .i64 ka, .int .i64 na, .int .i64 0, .string sa, .int .i64 la, .int .i64 ha] 76 #[.int .i64 kb, .int .i64 nb, .int .i64 0, .string sb, .int .i64 lb, .int .i64 hb] 76 #[.int .i64 0, .int .i64 0, .int .i64 0, .string ⟨#[]⟩, .int .i64 0, .int .i64 0]
      go_enter Tryz.func114, Tryz.ntmps114
      go_wp2_with fail
      refine (Ha.out _ B0).mono ?_; rintro e w1 ⟨rfl, hb⟩
      have B1 : Below w.heap.size w w1 := B0.trans (hb.mono B0.size)
      try clear cba lba fba
      try clear cbb lbb fbb
      try clear cbr lbr fbr
      replace ba := (ba).later hb
      replace bb := (bb).later hb
      replace br := (br).later hb
      clear hb
      obtain ⟨cba, lba, fba⟩ := ba.all
      obtain ⟨cbb, lbb, fbb⟩ := bb.all
      obtain ⟨cbr, lbr, fbr⟩ := br.all
      go_wp2_with fail
      refine (Hb.out _ B1).mono ?_; rintro e w2 ⟨rfl, hb⟩
      have B2 : Below w.heap.size w w2 := B1.trans (hb.mono B1.size)
      try clear cba lba fba
      try clear cbb lbb fbb
      try clear cbr lbr fbr
      replace ba := (ba).later hb
      replace bb := (bb).later hb
      replace br := (br).later hb
      clear hb
      obtain ⟨cba, lba, fba⟩ := ba.all
      obtain ⟨cbb, lbb, fbb⟩ := bb.all
      obtain ⟨cbr, lbr, fbr⟩ := br.all
      go_wp2_with fail
      refine bodyPost_ret (v := .tuple #[.agg #[.int .i64 0, .int .i64 0, .int .i64 0, .string ⟨#[]⟩, .int .i64 0, .int .i64 0], .int .i64 103]) ?_ rfl ⟨?_, ?_⟩
      ·simp [results, Tryz.results114, go_sem, cbr]
      ·rfl
      ·repeat' first | with_reducible exact B2 | with_reducible refine Below.setCell ?_ (by have hs := B2.size; first | omega | (simp; omega) | simp) _ | with_reducible refine Below.alloc ?_ (by have hs := B2.size; first | omega | (simp; omega) | simp) _
   | some y =>
     have hx := bda x rfl
     have hy := bdb y rfl
     unfold textV at Ca Cb
     have Ha := Lib.hid Ca
     clear Ca
     have Hb := Lib.hid Cb
     clear Cb
     rcases hop with hop | hop
     ·obtain ⟨o3, o4⟩ := hop
      have e50 : (op == 50) = false := beq_eq_false_iff_ne.2 (by omega)
      have HR : Hid (textsR op (some x) (some y) = if holdsB (op - 40) (cmpS x y) = true then (.text y, 0) else (.null, -1)) := by show _ = _; simp only [textsR]; rw [if_neg (by omega)]
      rw [HR.out]
      clear HR
      have HS := Lib.hid (fun W : World => impl_CompareTexts x y W (by omega) (by omega))
      have HH := Lib.hid (fun (s : Int) (W : World) => impl_holds (op - 40) s W (by omega) (by omega))
      generalize cmpS x y = sg at *
      have HH2 := Lib.hid (HH.out sg)
      clear HH
      cases hh : holdsB (op - 40) sg with
      | true =>
        rw [hh] at HH2
        clear hh
        rw [if_pos (by decide)]
        unfold Pair pairV LitT.val
        obtain ⟨ba, bb, br, B0⟩ := boxes3 w 76 #[.int .i64 ka, .int .i64 na, .int .i64 0, .string sa, .int .i64 la, .int .i64 ha] 76 #[.int .i64 kb, .int .i64 nb, .int .i64 0, .string sb, .int .i64 lb, .int .i64 hb] 76 #[.int .i64 0, .int .i64 0, .int .i64 0, .string ⟨#[]⟩, .int .i64 0, .int .i64 0]
        go_enter Tryz.func114, Tryz.ntmps114
        go_wp2_with fail
        refine (Ha.out _ B0).mono ?_; rintro e w1 ⟨rfl, hb⟩
        have B1 : Below w.heap.size w w1 := B0.trans (hb.mono B0.size)
        try clear cba lba fba
        try clear cbb lbb fbb
        try clear cbr lbr fbr
        replace ba := (ba).later hb
        replace bb := (bb).later hb
        replace br := (br).later hb
        clear hb
        obtain ⟨cba, lba, fba⟩ := ba.all
        obtain ⟨cbb, lbb, fbb⟩ := bb.all
        obtain ⟨cbr, lbr, fbr⟩ := br.all
        go_wp2_with fail
        refine (Hb.out _ B1).mono ?_; rintro e w2 ⟨rfl, hb⟩
        have B2 : Below w.heap.size w w2 := B1.trans (hb.mono B1.size)
        try clear cba lba fba
        try clear cbb lbb fbb
        try clear cbr lbr fbr
        replace ba := (ba).later hb
        replace bb := (bb).later hb
        replace br := (br).later hb
        clear hb
        obtain ⟨cba, lba, fba⟩ := ba.all
        obtain ⟨cbb, lbb, fbb⟩ := bb.all
        obtain ⟨cbr, lbr, fbr⟩ := br.all
        go_wp2_with fail
        refine (HS.out _).mono ?_; rintro e w3 ⟨rfl, hb⟩
        have B3 : Below w.heap.size w w3 := B2.trans (hb.mono B2.size)
        try clear cba lba fba
        try clear cbb lbb fbb
        try clear cbr lbr fbr
        replace ba := (ba).later hb
        replace bb := (bb).later hb
        replace br := (br).later hb
        clear hb
        obtain ⟨cba, lba, fba⟩ := ba.all
        obtain ⟨cbb, lbb, fbb⟩ := bb.all
        obtain ⟨cbr, lbr, fbr⟩ := br.all
        go_wp2_with fail
        refine (HH2.out _).mono ?_; rintro e wz ⟨rfl, rfl⟩
        obtain ⟨cba, lba, fba⟩ := ba.all
        obtain ⟨cbb, lbb, fbb⟩ := bb.all
        obtain ⟨cbr, lbr, fbr⟩ := br.all
        go_wp2_with fail
        have hF := ((((((br.set_ 0 (.int .i64 2)).set_ 1 (.int .i64 (0))).set_ 2 (.int .i64 0)).set_ 3 (.string y)).set_ 4 (.int .i64 0)).set_ 5 (.int .i64 0))
        have cF := hF.cell
        refine bodyPost_ret (v := .tuple #[.agg #[.int .i64 2, .int .i64 (0), .int .i64 0, .string y, .int .i64 0, .int .i64 0], .int .i64 0]) ?_ rfl ⟨?_, ?_⟩
        ·simp [results, Tryz.results114, go_sem, cF]
        ·rfl
        ·repeat' first | with_reducible exact B3 | with_reducible refine Below.setCell ?_ (by have hs := B3.size; first | omega | (simp; omega) | simp) _ | with_reducible refine Below.alloc ?_ (by have hs := B3.size; first | omega | (simp; omega) | simp) _
      | false =>
        rw [hh] at HH2
        clear hh
        rw [if_neg (by decide)]
        unfold Pair pairV LitT.val
        obtain ⟨ba, bb, br, B0⟩ := boxes3 w 76 #[.int .i64 ka, .int .i64 na, .int .i64 0, .string sa, .int .i64 la, .int .i64 ha] 76 #[.int .i64 kb, .int .i64 nb, .int .i64 0, .string sb, .int .i64 lb, .int .i64 hb] 76 #[.int .i64 0, .int .i64 0, .int .i64 0, .string ⟨#[]⟩, .int .i64 0, .int .i64 0]
        go_enter Tryz.func114, Tryz.ntmps114
        go_wp2_with fail
        refine (Ha.out _ B0).mono ?_; rintro e w1 ⟨rfl, hb⟩
        have B1 : Below w.heap.size w w1 := B0.trans (hb.mono B0.size)
        try clear cba lba fba
        try clear cbb lbb fbb
        try clear cbr lbr fbr
        replace ba := (ba).later hb
        replace bb := (bb).later hb
        replace br := (br).later hb
        clear hb
        obtain ⟨cba, lba, fba⟩ := ba.all
        obtain ⟨cbb, lbb, fbb⟩ := bb.all
        obtain ⟨cbr, lbr, fbr⟩ := br.all
        go_wp2_with fail
        refine (Hb.out _ B1).mono ?_; rintro e w2 ⟨rfl, hb⟩
        have B2 : Below w.heap.size w w2 := B1.trans (hb.mono B1.size)
        try clear cba lba fba
        try clear cbb lbb fbb
        try clear cbr lbr fbr
        replace ba := (ba).later hb
        replace bb := (bb).later hb
        replace br := (br).later hb
        clear hb
        obtain ⟨cba, lba, fba⟩ := ba.all
        obtain ⟨cbb, lbb, fbb⟩ := bb.all
        obtain ⟨cbr, lbr, fbr⟩ := br.all
        go_wp2_with fail
        refine (HS.out _).mono ?_; rintro e w3 ⟨rfl, hb⟩
        have B3 : Below w.heap.size w w3 := B2.trans (hb.mono B2.size)
        try clear cba lba fba
        try clear cbb lbb fbb
        try clear cbr lbr fbr
        replace ba := (ba).later hb
        replace bb := (bb).later hb
        replace br := (br).later hb
        clear hb
        obtain ⟨cba, lba, fba⟩ := ba.all
        obtain ⟨cbb, lbb, fbb⟩ := bb.all
        obtain ⟨cbr, lbr, fbr⟩ := br.all
        go_wp2_with fail
        refine (HH2.out _).mono ?_; rintro e wz ⟨rfl, rfl⟩
        obtain ⟨cba, lba, fba⟩ := ba.all
        obtain ⟨cbb, lbb, fbb⟩ := bb.all
        obtain ⟨cbr, lbr, fbr⟩ := br.all
        go_wp2_with fail
        refine bodyPost_ret (v := .tuple #[.agg #[.int .i64 0, .int .i64 0, .int .i64 0, .string ⟨#[]⟩, .int .i64 0, .int .i64 0], .int .i64 (-1)]) ?_ rfl ⟨?_, ?_⟩
        ·simp [results, Tryz.results114, go_sem, cbr]
        ·rfl
        ·repeat' first | with_reducible exact B3 | with_reducible refine Below.setCell ?_ (by have hs := B3.size; first | omega | (simp; omega) | simp) _ | with_reducible refine Below.alloc ?_ (by have hs := B3.size; first | omega | (simp; omega) | simp) _
     ·subst hop
      have HC := Lib.hid (fun W : World => impl_ConcatTexts x y W hx hy)
      by_cases hq : x.size + y.size ≤ 120
      ·have HR : Hid (textsR 50 (some x) (some y) = (.text (x ++ y), 0)) := by show _ = _; simp only [textsR]; rw [if_pos trivial, if_pos hq]
       rw [HR.out]
       rw [if_pos hq, decide_eq_true hq] at HC
       clear HR hq
       unfold Pair pairV LitT.val
       obtain ⟨ba, bb, br, B0⟩ := boxes3 w 76 #[.int .i64 ka, .int .i64 na, .int .i64 0, .string sa, .int .i64 la, .int .i64 ha] 76 #[.int .i64 kb, .int .i64 nb, .int .i64 0, .string sb, .int .i64 lb, .int .i64 hb] 76 #[.int .i64 0, .int .i64 0, .int .i64 0, .string ⟨#[]⟩, .int .i64 0, .int .i64 0]
       go_enter Tryz.func114, Tryz.ntmps114
       go_wp2_with fail
       refine (Ha.out _ B0).mono ?_; rintro e w1 ⟨rfl, hb⟩
       have B1 : Below w.heap.size w w1 := B0.trans (hb.mono B0.size)
       try clear cba lba fba
       try clear cbb lbb fbb
       try clear cbr lbr fbr
       replace ba := (ba).later hb
       replace bb := (bb).later hb
       replace br := (br).later hb
       clear hb
       obtain ⟨cba, lba, fba⟩ := ba.all
       obtain ⟨cbb, lbb, fbb⟩ := bb.all
       obtain ⟨cbr, lbr, fbr⟩ := br.all
       go_wp2_with fail
       refine (Hb.out _ B1).mono ?_; rintro e w2 ⟨rfl, hb⟩
       have B2 : Below w.heap.size w w2 := B1.trans (hb.mono B1.size)
       try clear cba lba fba
       try clear cbb lbb fbb
       try clear cbr lbr fbr
       replace ba := (ba).later hb
       replace bb := (bb).later hb
       replace br := (br).later hb
       clear hb
       obtain ⟨cba, lba, fba⟩ := ba.all
       obtain ⟨cbb, lbb, fbb⟩ := bb.all
       obtain ⟨cbr, lbr, fbr⟩ := br.all
       go_wp2_with fail
       refine (HC.out _).mono ?_; rintro e wz ⟨rfl, rfl⟩
       obtain ⟨cba, lba, fba⟩ := ba.all
       obtain ⟨cbb, lbb, fbb⟩ := bb.all
       obtain ⟨cbr, lbr, fbr⟩ := br.all
       go_wp2_with fail
       have hF := ((((((br.set_ 0 (.int .i64 2)).set_ 1 (.int .i64 (0))).set_ 2 (.int .i64 0)).set_ 3 (.string (x ++ y))).set_ 4 (.int .i64 0)).set_ 5 (.int .i64 0))
       have cF := hF.cell
       refine bodyPost_ret (v := .tuple #[.agg #[.int .i64 2, .int .i64 (0), .int .i64 0, .string (x ++ y), .int .i64 0, .int .i64 0], .int .i64 0]) ?_ rfl ⟨?_, ?_⟩
       ·simp [results, Tryz.results114, go_sem, cF]
       ·rfl
       ·repeat' first | with_reducible exact B2 | with_reducible refine Below.setCell ?_ (by have hs := B2.size; first | omega | (simp; omega) | simp) _ | with_reducible refine Below.alloc ?_ (by have hs := B2.size; first | omega | (simp; omega) | simp) _
      ·have HR : Hid (textsR 50 (some x) (some y) = (.null, 302)) := by show _ = _; simp only [textsR]; rw [if_pos trivial, if_neg hq]
       rw [HR.out]
       rw [if_neg hq, decide_eq_false hq] at HC
       clear HR hq
       unfold Pair pairV LitT.val
       obtain ⟨ba, bb, br, B0⟩ := boxes3 w 76 #[.int .i64 ka, .int .i64 na, .int .i64 0, .string sa, .int .i64 la, .int .i64 ha] 76 #[.int .i64 kb, .int .i64 nb, .int .i64 0, .string sb, .int .i64 lb, .int .i64 hb] 76 #[.int .i64 0, .int .i64 0, .int .i64 0, .string ⟨#[]⟩, .int .i64 0, .int .i64 0]
       go_enter Tryz.func114, Tryz.ntmps114
       go_wp2_with fail
       refine (Ha.out _ B0).mono ?_; rintro e w1 ⟨rfl, hb⟩
       have B1 : Below w.heap.size w w1 := B0.trans (hb.mono B0.size)
       try clear cba lba fba
       try clear cbb lbb fbb
       try clear cbr lbr fbr
       replace ba := (ba).later hb
       replace bb := (bb).later hb
       replace br := (br).later hb
       clear hb
       obtain ⟨cba, lba, fba⟩ := ba.all
       obtain ⟨cbb, lbb, fbb⟩ := bb.all
       obtain ⟨cbr, lbr, fbr⟩ := br.all
       go_wp2_with fail
       refine (Hb.out _ B1).mono ?_; rintro e w2 ⟨rfl, hb⟩
       have B2 : Below w.heap.size w w2 := B1.trans (hb.mono B1.size)
       try clear cba lba fba
       try clear cbb lbb fbb
       try clear cbr lbr fbr
       replace ba := (ba).later hb
       replace bb := (bb).later hb
       replace br := (br).later hb
       clear hb
       obtain ⟨cba, lba, fba⟩ := ba.all
       obtain ⟨cbb, lbb, fbb⟩ := bb.all
       obtain ⟨cbr, lbr, fbr⟩ := br.all
       go_wp2_with fail
       refine (HC.out _).mono ?_; rintro e wz ⟨rfl, rfl⟩
       obtain ⟨cba, lba, fba⟩ := ba.all
       obtain ⟨cbb, lbb, fbb⟩ := bb.all
       obtain ⟨cbr, lbr, fbr⟩ := br.all
       go_wp2_with fail
       refine bodyPost_ret (v := .tuple #[.agg #[.int .i64 0, .int .i64 0, .int .i64 0, .string ⟨#[]⟩, .int .i64 0, .int .i64 0], .int .i64 302]) ?_ rfl ⟨?_, ?_⟩
       ·simp [results, Tryz.results114, go_sem, cbr]
       ·rfl
       ·repeat' first | with_reducible exact B2 | with_reducible refine Below.setCell ?_ (by have hs := B2.size; first | omega | (simp; omega) | simp) _ | with_reducible refine Below.alloc ?_ (by have hs := B2.size; first | omega | (simp; omega) | simp) _
theorem binR_eq46 {a b : LitT} (h : a = b) : binR 46 a b = (b, 0) := by unfold binR; simp [h]
theorem binR_ne46 {a b : LitT} (h : ¬ a = b) : binR 46 a b = (.null, -1) := by unfold binR; simp [h]
theorem binR_eq47 {a b : LitT} (h : a = b) : binR 47 a b = (.null, -1) := by unfold binR; simp [h]
theorem binR_ne47 {a b : LitT} (h : ¬ a = b) : binR 47 a b = (b, 0) := by unfold binR; simp [h]
theorem impl_bineq46 (a b : LitT) (w : World) : Calls Tryz.prog 114 #[.int .i64 46, a.val, b.val] w (Pair (binR 46 a b) w) := by
 obtain ⟨ka, na, sa, la, ha, ea⟩ := a.form
 obtain ⟨kb, nb, sb, lb, hb, eb⟩ := b.form
 have HN : ¬ (Value.agg #[.int .i64 ka, .int .i64 na, .int .i64 0, .string sa, .int .i64 la, .int .i64 ha] = Value.agg #[.int .i64 kb, .int .i64 nb, .int .i64 0, .string sb, .int .i64 lb, .int .i64 hb]) → ¬ a = b := fun h e => h (by rw [← ea, ← eb, e])
 by_cases ek : ka = kb
 ·subst ek
  by_cases en : na = nb
  ·subst en
   by_cases es : sa = sb
   ·subst es
    by_cases el : la = lb
    ·subst el
     by_cases eh : ha = hb
     ·subst eh
      have HE : a = b := LitT.val_inj (ea.trans eb.symm)
      have HR := Lib.hid (binR_eq46 HE)
      rw [HR.out]
      clear HR HN
      unfold Pair pairV
      rw [eb, ea]
      obtain ⟨ba, bb, br, B0⟩ := boxes3 w 76 #[.int .i64 ka, .int .i64 na, .int .i64 0, .string sa, .int .i64 la, .int .i64 ha] 76 #[.int .i64 ka, .int .i64 na, .int .i64 0, .string sa, .int .i64 la, .int .i64 ha] 76 #[.int .i64 0, .int .i64 0, .int .i64 0, .string ⟨#[]⟩, .int .i64 0, .int .i64 0]
      go_enter Tryz.func114, Tryz.ntmps114
      go_wp2_with fail
      refine bodyPost_ret (v := .tuple #[.agg #[.int .i64 ka, .int .i64 na, .int .i64 0, .string sa, .int .i64 la, .int .i64 ha], .int .i64 0]) ?_ rfl ⟨?_, ?_⟩
      ·simp [results, Tryz.results114, go_sem]
      ·rfl
      ·repeat' first | with_reducible exact B0 | with_reducible exact ((((Below.refl w.heap.size w).alloc (Nat.le_refl _) _).alloc (by simp <;> omega) _).alloc (by simp <;> omega) _) | with_reducible refine Below.setCell ?_ (by have hs := B0.size; first | omega | (simp; omega) | simp) _ | with_reducible refine Below.alloc ?_ (by have hs := B0.size; first | omega | (simp; omega) | simp) _
     ·have HE : ¬ a = b := HN (fun h => by simp [eh] at h)
      have HR := Lib.hid (binR_ne46 HE)
      rw [HR.out]
      clear HR HN HE
      unfold Pair pairV
      rw [ea, eb]
      simp only [LitT.val]
      obtain ⟨ba, bb, br, B0⟩ := boxes3 w 76 #[.int .i64 ka, .int .i64 na, .int .i64 0, .string sa, .int .i64 la, .int .i64 ha] 76 #[.int .i64 ka, .int .i64 na, .int .i64 0, .string sa, .int .i64 la, .int .i64 hb] 76 #[.int .i64 0, .int .i64 0, .int .i64 0, .string ⟨#[]⟩, .int .i64 0, .int .i64 0]
      go_enter Tryz.func114, Tryz.ntmps114
      go_wp2_with fail
      refine bodyPost_ret (v := .tuple #[.agg #[.int .i64 0, .int .i64 0, .int .i64 0, .string ⟨#[]⟩, .int .i64 0, .int .i64 0], .int .i64 (-1)]) ?_ rfl ⟨?_, ?_⟩
      ·simp [results, Tryz.results114, go_sem]
      ·rfl
      ·repeat' first | with_reducible exact B0 | with_reducible exact ((((Below.refl w.heap.size w).alloc (Nat.le_refl _) _).alloc (by simp <;> omega) _).alloc (by simp <;> omega) _) | with_reducible refine Below.setCell ?_ (by have hs := B0.size; first | omega | (simp; omega) | simp) _ | with_reducible refine Below.alloc ?_ (by have hs := B0.size; first | omega | (simp; omega) | simp) _
    ·have HE : ¬ a = b := HN (fun h => by simp [el] at h)
     have HR := Lib.hid (binR_ne46 HE)
     rw [HR.out]
     clear HR HN HE
     unfold Pair pairV
     rw [ea, eb]
     simp only [LitT.val]
     obtain ⟨ba, bb, br, B0⟩ := boxes3 w 76 #[.int .i64 ka, .int .i64 na, .int .i64 0, .string sa, .int .i64 la, .int .i64 ha] 76 #[.int .i64 ka, .int .i64 na, .int .i64 0, .string sa, .int .i64 lb, .int .i64 hb] 76 #[.int .i64 0, .int .i64 0, .int .i64 0, .string ⟨#[]⟩, .int .i64 0, .int .i64 0]
     go_enter Tryz.func114, Tryz.ntmps114
     go_wp2_with fail
     refine bodyPost_ret (v := .tuple #[.agg #[.int .i64 0, .int .i64 0, .int .i64 0, .string ⟨#[]⟩, .int .i64 0, .int .i64 0], .int .i64 (-1)]) ?_ rfl ⟨?_, ?_⟩
     ·simp [results, Tryz.results114, go_sem]
     ·rfl
     ·repeat' first | with_reducible exact B0 | with_reducible exact ((((Below.refl w.heap.size w).alloc (Nat.le_refl _) _).alloc (by simp <;> omega) _).alloc (by simp <;> omega) _) | with_reducible refine Below.setCell ?_ (by have hs := B0.size; first | omega | (simp; omega) | simp) _ | with_reducible refine Below.alloc ?_ (by have hs := B0.size; first | omega | (simp; omega) | simp) _
   ·have HE : ¬ a = b := HN (fun h => by simp [es] at h)
    have HR := Lib.hid (binR_ne46 HE)
    rw [HR.out]
    clear HR HN HE
    unfold Pair pairV
    rw [ea, eb]
    simp only [LitT.val]
    have es2 := str_ne es
    obtain ⟨ba, bb, br, B0⟩ := boxes3 w 76 #[.int .i64 ka, .int .i64 na, .int .i64 0, .string sa, .int .i64 la, .int .i64 ha] 76 #[.int .i64 ka, .int .i64 na, .int .i64 0, .string sb, .int .i64 lb, .int .i64 hb] 76 #[.int .i64 0, .int .i64 0, .int .i64 0, .string ⟨#[]⟩, .int .i64 0, .int .i64 0]
    go_enter Tryz.func114, Tryz.ntmps114
    go_wp2_with fail
    refine bodyPost_ret (v := .tuple #[.agg #[.int .i64 0, .int .i64 0, .int .i64 0, .string ⟨#[]⟩, .int .i64 0, .int .i64 0], .int .i64 (-1)]) ?_ rfl ⟨?_, ?_⟩
    ·simp [results, Tryz.results114, go_sem]
    ·rfl
    ·repeat' first | with_reducible exact B0 | with_reducible exact ((((Below.refl w.heap.size w).alloc (Nat.le_refl _) _).alloc (by simp <;> omega) _).alloc (by simp <;> omega) _) | with_reducible refine Below.setCell ?_ (by have hs := B0.size; first | omega | (simp; omega) | simp) _ | with_reducible refine Below.alloc ?_ (by have hs := B0.size; first | omega | (simp; omega) | simp) _
  ·have HE : ¬ a = b := HN (fun h => by simp [en] at h)
   have HR := Lib.hid (binR_ne46 HE)
   rw [HR.out]
   clear HR HN HE
   unfold Pair pairV
   rw [ea, eb]
   simp only [LitT.val]
   obtain ⟨ba, bb, br, B0⟩ := boxes3 w 76 #[.int .i64 ka, .int .i64 na, .int .i64 0, .string sa, .int .i64 la, .int .i64 ha] 76 #[.int .i64 ka, .int .i64 nb, .int .i64 0, .string sb, .int .i64 lb, .int .i64 hb] 76 #[.int .i64 0, .int .i64 0, .int .i64 0, .string ⟨#[]⟩, .int .i64 0, .int .i64 0]
   go_enter Tryz.func114, Tryz.ntmps114
   go_wp2_with fail
   refine bodyPost_ret (v := .tuple #[.agg #[.int .i64 0, .int .i64 0, .int .i64 0, .string ⟨#[]⟩, .int .i64 0, .int .i64 0], .int .i64 (-1)]) ?_ rfl ⟨?_, ?_⟩
   ·simp [results, Tryz.results114, go_sem]
   ·rfl
   ·repeat' first | with_reducible exact B0 | with_reducible exact ((((Below.refl w.heap.size w).alloc (Nat.le_refl _) _).alloc (by simp <;> omega) _).alloc (by simp <;> omega) _) | with_reducible refine Below.setCell ?_ (by have hs := B0.size; first | omega | (simp; omega) | simp) _ | with_reducible refine Below.alloc ?_ (by have hs := B0.size; first | omega | (simp; omega) | simp) _
 ·have HE : ¬ a = b := HN (fun h => by simp [ek] at h)
  have HR := Lib.hid (binR_ne46 HE)
  rw [HR.out]
  clear HR HN HE
  unfold Pair pairV
  rw [ea, eb]
  simp only [LitT.val]
  obtain ⟨ba, bb, br, B0⟩ := boxes3 w 76 #[.int .i64 ka, .int .i64 na, .int .i64 0, .string sa, .int .i64 la, .int .i64 ha] 76 #[.int .i64 kb, .int .i64 nb, .int .i64 0, .string sb, .int .i64 lb, .int .i64 hb] 76 #[.int .i64 0, .int .i64 0, .int .i64 0, .string ⟨#[]⟩, .int .i64 0, .int .i64 0]
  go_enter Tryz.func114, Tryz.ntmps114
  go_wp2_with fail
  refine bodyPost_ret (v := .tuple #[.agg #[.int .i64 0, .int .i64 0, .int .i64 0, .string ⟨#[]⟩, .int .i64 0, .int .i64 0], .int .i64 (-1)]) ?_ rfl ⟨?_, ?_⟩
  ·simp [results, Tryz.results114, go_sem]
  ·rfl
  ·repeat' first | with_reducible exact B0 | with_reducible exact ((((Below.refl w.heap.size w).alloc (Nat.le_refl _) _).alloc (by simp <;> omega) _).alloc (by simp <;> omega) _) | with_reducible refine Below.setCell ?_ (by have hs := B0.size; first | omega | (simp; omega) | simp) _ | with_reducible refine Below.alloc ?_ (by have hs := B0.size; first | omega | (simp; omega) | simp) _
theorem impl_bineq47 (a b : LitT) (w : World) : Calls Tryz.prog 114 #[.int .i64 47, a.val, b.val] w (Pair (binR 47 a b) w) := by
 obtain ⟨ka, na, sa, la, ha, ea⟩ := a.form
 obtain ⟨kb, nb, sb, lb, hb, eb⟩ := b.form
 have HN : ¬ (Value.agg #[.int .i64 ka, .int .i64 na, .int .i64 0, .string sa, .int .i64 la, .int .i64 ha] = Value.agg #[.int .i64 kb, .int .i64 nb, .int .i64 0, .string sb, .int .i64 lb, .int .i64 hb]) → ¬ a = b := fun h e => h (by rw [← ea, ← eb, e])
 by_cases ek : ka = kb
 ·subst ek
  by_cases en : na = nb
  ·subst en
   by_cases es : sa = sb
   ·subst es
    by_cases el : la = lb
    ·subst el
     by_cases eh : ha = hb
     ·subst eh
      have HE : a = b := LitT.val_inj (ea.trans eb.symm)
      have HR := Lib.hid (binR_eq47 HE)
      rw [HR.out]
      clear HR HN
      unfold Pair pairV
      rw [ea, eb]
      simp only [LitT.val]
      obtain ⟨ba, bb, br, B0⟩ := boxes3 w 76 #[.int .i64 ka, .int .i64 na, .int .i64 0, .string sa, .int .i64 la, .int .i64 ha] 76 #[.int .i64 ka, .int .i64 na, .int .i64 0, .string sa, .int .i64 la, .int .i64 ha] 76 #[.int .i64 0, .int .i64 0, .int .i64 0, .string ⟨#[]⟩, .int .i64 0, .int .i64 0]
      go_enter Tryz.func114, Tryz.ntmps114
      go_wp2_with fail
      refine bodyPost_ret (v := .tuple #[.agg #[.int .i64 0, .int .i64 0, .int .i64 0, .string ⟨#[]⟩, .int .i64 0, .int .i64 0], .int .i64 (-1)]) ?_ rfl ⟨?_, ?_⟩
      ·simp [results, Tryz.results114, go_sem]
      ·rfl
      ·repeat' first | with_reducible exact B0 | with_reducible exact ((((Below.refl w.heap.size w).alloc (Nat.le_refl _) _).alloc (by simp <;> omega) _).alloc (by simp <;> omega) _) | with_reducible refine Below.setCell ?_ (by have hs := B0.size; first | omega | (simp; omega) | simp) _ | with_reducible refine Below.alloc ?_ (by have hs := B0.size; first | omega | (simp; omega) | simp) _
     ·have HE : ¬ a = b := HN (fun h => by simp [eh] at h)
      have HR := Lib.hid (binR_ne47 HE)
      rw [HR.out]
      clear HR HN HE
      unfold Pair pairV
      rw [eb, ea]
      obtain ⟨ba, bb, br, B0⟩ := boxes3 w 76 #[.int .i64 ka, .int .i64 na, .int .i64 0, .string sa, .int .i64 la, .int .i64 ha] 76 #[.int .i64 ka, .int .i64 na, .int .i64 0, .string sa, .int .i64 la, .int .i64 hb] 76 #[.int .i64 0, .int .i64 0, .int .i64 0, .string ⟨#[]⟩, .int .i64 0, .int .i64 0]
      go_enter Tryz.func114, Tryz.ntmps114
      go_wp2_with fail
      refine bodyPost_ret (v := .tuple #[.agg #[.int .i64 ka, .int .i64 na, .int .i64 0, .string sa, .int .i64 la, .int .i64 hb], .int .i64 0]) ?_ rfl ⟨?_, ?_⟩
      ·simp [results, Tryz.results114, go_sem]
      ·rfl
      ·repeat' first | with_reducible exact B0 | with_reducible exact ((((Below.refl w.heap.size w).alloc (Nat.le_refl _) _).alloc (by simp <;> omega) _).alloc (by simp <;> omega) _) | with_reducible refine Below.setCell ?_ (by have hs := B0.size; first | omega | (simp; omega) | simp) _ | with_reducible refine Below.alloc ?_ (by have hs := B0.size; first | omega | (simp; omega) | simp) _
    ·have HE : ¬ a = b := HN (fun h => by simp [el] at h)
     have HR := Lib.hid (binR_ne47 HE)
     rw [HR.out]
     clear HR HN HE
     unfold Pair pairV
     rw [eb, ea]
     obtain ⟨ba, bb, br, B0⟩ := boxes3 w 76 #[.int .i64 ka, .int .i64 na, .int .i64 0, .string sa, .int .i64 la, .int .i64 ha] 76 #[.int .i64 ka, .int .i64 na, .int .i64 0, .string sa, .int .i64 lb, .int .i64 hb] 76 #[.int .i64 0, .int .i64 0, .int .i64 0, .string ⟨#[]⟩, .int .i64 0, .int .i64 0]
     go_enter Tryz.func114, Tryz.ntmps114
     go_wp2_with fail
     refine bodyPost_ret (v := .tuple #[.agg #[.int .i64 ka, .int .i64 na, .int .i64 0, .string sa, .int .i64 lb, .int .i64 hb], .int .i64 0]) ?_ rfl ⟨?_, ?_⟩
     ·simp [results, Tryz.results114, go_sem]
     ·rfl
     ·repeat' first | with_reducible exact B0 | with_reducible exact ((((Below.refl w.heap.size w).alloc (Nat.le_refl _) _).alloc (by simp <;> omega) _).alloc (by simp <;> omega) _) | with_reducible refine Below.setCell ?_ (by have hs := B0.size; first | omega | (simp; omega) | simp) _ | with_reducible refine Below.alloc ?_ (by have hs := B0.size; first | omega | (simp; omega) | simp) _
   ·have HE : ¬ a = b := HN (fun h => by simp [es] at h)
    have HR := Lib.hid (binR_ne47 HE)
    rw [HR.out]
    clear HR HN HE
    unfold Pair pairV
    rw [eb, ea]
    have es2 := str_ne es
    obtain ⟨ba, bb, br, B0⟩ := boxes3 w 76 #[.int .i64 ka, .int .i64 na, .int .i64 0, .string sa, .int .i64 la, .int .i64 ha] 76 #[.int .i64 ka, .int .i64 na, .int .i64 0, .string sb, .int .i64 lb, .int .i64 hb] 76 #[.int .i64 0, .int .i64 0, .int .i64 0, .string ⟨#[]⟩, .int .i64 0, .int .i64 0]
    go_enter Tryz.func114, Tryz.ntmps114
    go_wp2_with fail
    refine bodyPost_ret (v := .tuple #[.agg #[.int .i64 ka, .int .i64 na, .int .i64 0, .string sb, .int .i64 lb, .int .i64 hb], .int .i64 0]) ?_ rfl ⟨?_, ?_⟩
    ·simp [results, Tryz.results114, go_sem]
    ·rfl
    ·repeat' first | with_reducible exact B0 | with_reducible exact ((((Below.refl w.heap.size w).alloc (Nat.le_refl _) _).alloc (by simp <;> omega) _).alloc (by simp <;> omega) _) | with_reducible refine Below.setCell ?_ (by have hs := B0.size; first | omega | (simp; omega) | simp) _ | with_reducible refine Below.alloc ?_ (by have hs := B0.size; first | omega | (simp; omega) | simp) _
  ·have HE : ¬ a = b := HN (fun h => by simp [en] at h)
   have HR := Lib.hid (binR_ne47 HE)
   rw [HR.out]
   clear HR HN HE
   unfold Pair pairV
   rw [eb, ea]
   obtain ⟨ba, bb, br, B0⟩ := boxes3 w 76 #[.int .i64 ka, .int .i64 na, .int .i64 0, .string sa, .int .i64 la, .int .i64 ha] 76 #[.int .i64 ka, .int .i64 nb, .int .i64 0, .string sb, .int .i64 lb, .int .i64 hb] 76 #[.int .i64 0, .int .i64 0, .int .i64 0, .string ⟨#[]⟩, .int .i64 0, .int .i64 0]
   go_enter Tryz.func114, Tryz.ntmps114
   go_wp2_with fail
   refine bodyPost_ret (v := .tuple #[.agg #[.int .i64 ka, .int .i64 nb, .int .i64 0, .string sb, .int .i64 lb, .int .i64 hb], .int .i64 0]) ?_ rfl ⟨?_, ?_⟩
   ·simp [results, Tryz.results114, go_sem]
   ·rfl
   ·repeat' first | with_reducible exact B0 | with_reducible exact ((((Below.refl w.heap.size w).alloc (Nat.le_refl _) _).alloc (by simp <;> omega) _).alloc (by simp <;> omega) _) | with_reducible refine Below.setCell ?_ (by have hs := B0.size; first | omega | (simp; omega) | simp) _ | with_reducible refine Below.alloc ?_ (by have hs := B0.size; first | omega | (simp; omega) | simp) _
 ·have HE : ¬ a = b := HN (fun h => by simp [ek] at h)
  have HR := Lib.hid (binR_ne47 HE)
  rw [HR.out]
  clear HR HN HE
  unfold Pair pairV
  rw [eb, ea]
  obtain ⟨ba, bb, br, B0⟩ := boxes3 w 76 #[.int .i64 ka, .int .i64 na, .int .i64 0, .string sa, .int .i64 la, .int .i64 ha] 76 #[.int .i64 kb, .int .i64 nb, .int .i64 0, .string sb, .int .i64 lb, .int .i64 hb] 76 #[.int .i64 0, .int .i64 0, .int .i64 0, .string ⟨#[]⟩, .int .i64 0, .int .i64 0]
  go_enter Tryz.func114, Tryz.ntmps114
  go_wp2_with fail
  refine bodyPost_ret (v := .tuple #[.agg #[.int .i64 kb, .int .i64 nb, .int .i64 0, .string sb, .int .i64 lb, .int .i64 hb], .int .i64 0]) ?_ rfl ⟨?_, ?_⟩
  ·simp [results, Tryz.results114, go_sem]
  ·rfl
  ·repeat' first | with_reducible exact B0 | with_reducible exact ((((Below.refl w.heap.size w).alloc (Nat.le_refl _) _).alloc (by simp <;> omega) _).alloc (by simp <;> omega) _) | with_reducible refine Below.setCell ?_ (by have hs := B0.size; first | omega | (simp; omega) | simp) _ | with_reducible refine Below.alloc ?_ (by have hs := B0.size; first | omega | (simp; omega) | simp) _
end Go.Proofs.YtjeomamdlmoghaaGreatDoor
end
