/- The operators on sets, on one literal, of the program. -/
import Derived.Test.YtjeomamdlmoghaaGreatDoorQ00
import Derived.Test.YtjeomamdlmoghaaGreatDoorQSq
import Derived.Test.YtjeomamdlmoghaaGreatDoorQSr
import Derived.Test.YtjeomamdlmoghaaGreatDoorQ09
import Derived.Test.YtjeomamdlmoghaaGreatDoorQ20
set_option maxRecDepth 100000
set_option maxHeartbeats 8000000
set_option linter.unusedVariables false
set_option linter.unusedSimpArgs false
section
namespace Go.Proofs.YtjeomamdlmoghaaGreatDoor
open Go.RowKit
theorem setV_some (x : CsetT) : setV (some x) = .tuple #[.agg #[.int .i64 x.lo.toInt, .int .i64 x.hi.toInt], .bool true] := rfl
theorem setV_none : setV none = .tuple #[.agg #[.int .i64 0, .int .i64 0], .bool false] := rfl
theorem impl_sets (op : Int) (a b : LitT) (a0 : a.Ok) (b0 : b.Ok) (w : World) (ht : PowTab w) (hop : op = 52 ∨ op = 53 ∨ op = 54) : Calls Tryz.prog 114 #[.int .i64 op, a.val, b.val] w (Pair (setsR op a.toSet b.toSet) w) := by
 obtain ⟨ka, na, sa, la, ha, ea⟩ := a.form
 obtain ⟨kb, nb, sb, lb, hb, eb⟩ := b.form
 have Ca : ∀ W : World, Below w.heap.size w W → Calls Tryz.prog 107 #[a.val] W (Gives (setV a.toSet) W) := fun W hW => impl_ToCset a a0 W (ht.later hW)
 have Cb : ∀ W : World, Below w.heap.size w W → Calls Tryz.prog 107 #[b.val] W (Gives (setV b.toSet) W) := fun W hW => impl_ToCset b b0 W (ht.later hW)
 generalize hra : a.toSet = ra at *
 rw [ea] at Ca ⊢
 generalize hrb : b.toSet = rb at *
 rw [eb] at Cb ⊢
 cases ra with
 | none =>
   cases rb with
   | none =>
     rw [setV_none] at Ca Cb
     have Ha := Lib.hid Ca
     clear Ca
     have Hb := Lib.hid Cb
     clear Cb
     unfold Pair pairV setsR LitT.val
     obtain rfl | rfl | rfl := hop
     ·skip
      obtain ⟨ba, bb, br, B0⟩ := boxes3 w 76 #[.int .i64 ka, .int .i64 na, .int .i64 0, .string sa, .int .i64 la, .int .i64 ha] 76 #[.int .i64 kb, .int .i64 nb, .int .i64 0, .string sb, .int .i64 lb, .int .i64 hb] 76 #[.int .i64 0, .int .i64 0, .int .i64 0, .string ⟨#[]⟩, .int .i64 0, .int .i64 0]
      go_enter Tryz.func114, Tryz.ntmps114
      go_wp2_with fail
      refine (Ha.out _ B0).mono ?_; rintro e w1 ⟨rfl, hb⟩
      have B1 : Below w.heap.size w w1 := B0.trans (hb.mono B0.size)
      try clear cba lba fba
      try clear cbb lbb fbb
      try clear cbr lbr fbr
      replace ba := (ba).later hb
      replace bb := (bb).later hb
      replace br := (br).later hb
      clear hb
      obtain ⟨cba, lba, fba⟩ := ba.all
      obtain ⟨cbb, lbb, fbb⟩ := bb.all
      obtain ⟨cbr, lbr, fbr⟩ := br.all
      go_wp2_with fail
      have bx := Blk.new w1 74 #[.int .i64 0, .int .i64 0]
      refine (Hb.out _ (B1.alloc (by have hs := B1.size; first | exact hs | omega | (simp; omega)) _)).mono ?_; rintro e w2 ⟨rfl, hb⟩
      have B2 : Below w.heap.size w w2 := (B1.alloc (by have hs := B1.size; first | exact hs | omega | (simp; omega)) _).trans (hb.mono (by have hs := B1.size; first | exact hs | omega | (simp; omega)))
      try clear cba lba fba
      try clear cbb lbb fbb
      try clear cbr lbr fbr
      replace ba := ((ba.alloc _)).later hb
      replace bb := ((bb.alloc _)).later hb
      replace br := ((br.alloc _)).later hb
      replace bx := bx.later hb
      clear hb
      obtain ⟨cbx, lbx, fbx⟩ := bx.all
      obtain ⟨cba, lba, fba⟩ := ba.all
      obtain ⟨cbb, lbb, fbb⟩ := bb.all
      obtain ⟨cbr, lbr, fbr⟩ := br.all
      go_wp2_with fail
      have hF := (((((((br.set_ 0 (.int .i64 0)).set_ 1 (.int .i64 (0))).set_ 2 (.int .i64 0)).set_ 3 (.string ⟨#[]⟩)).set_ 4 (.int .i64 0)).set_ 5 (.int .i64 0)).alloc (.cells #[.int .i64 0, .int .i64 0] 74))
      have cF := hF.cell
      refine bodyPost_ret (v := .tuple #[.agg #[.int .i64 0, .int .i64 0, .int .i64 0, .string ⟨#[]⟩, .int .i64 0, .int .i64 0], .int .i64 104]) ?_ rfl ⟨?_, ?_⟩
      ·simp [results, Tryz.results114, go_sem, cF]
      ·rfl
      ·repeat' first | with_reducible exact B2 | with_reducible refine Below.setCell ?_ (by have hs := B2.size; first | omega | (simp; omega) | simp) _ | with_reducible refine Below.alloc ?_ (by have hs := B2.size; first | omega | (simp; omega) | simp) _
     ·skip
      obtain ⟨ba, bb, br, B0⟩ := boxes3 w 76 #[.int .i64 ka, .int .i64 na, .int .i64 0, .string sa, .int .i64 la, .int .i64 ha] 76 #[.int .i64 kb, .int .i64 nb, .int .i64 0, .string sb, .int .i64 lb, .int .i64 hb] 76 #[.int .i64 0, .int .i64 0, .int .i64 0, .string ⟨#[]⟩, .int .i64 0, .int .i64 0]
      go_enter Tryz.func114, Tryz.ntmps114
      go_wp2_with fail
      refine (Ha.out _ B0).mono ?_; rintro e w1 ⟨rfl, hb⟩
      have B1 : Below w.heap.size w w1 := B0.trans (hb.mono B0.size)
      try clear cba lba fba
      try clear cbb lbb fbb
      try clear cbr lbr fbr
      replace ba := (ba).later hb
      replace bb := (bb).later hb
      replace br := (br).later hb
      clear hb
      obtain ⟨cba, lba, fba⟩ := ba.all
      obtain ⟨cbb, lbb, fbb⟩ := bb.all
      obtain ⟨cbr, lbr, fbr⟩ := br.all
      go_wp2_with fail
      have bx := Blk.new w1 74 #[.int .i64 0, .int .i64 0]
      refine (Hb.out _ (B1.alloc (by have hs := B1.size; first | exact hs | omega | (simp; omega)) _)).mono ?_; rintro e w2 ⟨rfl, hb⟩
      have B2 : Below w.heap.size w w2 := (B1.alloc (by have hs := B1.size; first | exact hs | omega | (simp; omega)) _).trans (hb.mono (by have hs := B1.size; first | exact hs | omega | (simp; omega)))
      try clear cba lba fba
      try clear cbb lbb fbb
      try clear cbr lbr fbr
      replace ba := ((ba.alloc _)).later hb
      replace bb := ((bb.alloc _)).later hb
      replace br := ((br.alloc _)).later hb
      replace bx := bx.later hb
      clear hb
      obtain ⟨cbx, lbx, fbx⟩ := bx.all
      obtain ⟨cba, lba, fba⟩ := ba.all
      obtain ⟨cbb, lbb, fbb⟩ := bb.all
      obtain ⟨cbr, lbr, fbr⟩ := br.all
      go_wp2_with fail
      have hF := (((((((br.set_ 0 (.int .i64 0)).set_ 1 (.int .i64 (0))).set_ 2 (.int .i64 0)).set_ 3 (.string ⟨#[]⟩)).set_ 4 (.int .i64 0)).set_ 5 (.int .i64 0)).alloc (.cells #[.int .i64 0, .int .i64 0] 74))
      have cF := hF.cell
      refine bodyPost_ret (v := .tuple #[.agg #[.int .i64 0, .int .i64 0, .int .i64 0, .string ⟨#[]⟩, .int .i64 0, .int .i64 0], .int .i64 104]) ?_ rfl ⟨?_, ?_⟩
      ·simp [results, Tryz.results114, go_sem, cF]
      ·rfl
      ·repeat' first | with_reducible exact B2 | with_reducible refine Below.setCell ?_ (by have hs := B2.size; first | omega | (simp; omega) | simp) _ | with_reducible refine Below.alloc ?_ (by have hs := B2.size; first | omega | (simp; omega) | simp) _
     ·skip
      obtain ⟨ba, bb, br, B0⟩ := boxes3 w 76 #[.int .i64 ka, .int .i64 na, .int .i64 0, .string sa, .int .i64 la, .int .i64 ha] 76 #[.int .i64 kb, .int .i64 nb, .int .i64 0, .string sb, .int .i64 lb, .int .i64 hb] 76 #[.int .i64 0, .int .i64 0, .int .i64 0, .string ⟨#[]⟩, .int .i64 0, .int .i64 0]
      go_enter Tryz.func114, Tryz.ntmps114
      go_wp2_with fail
      refine (Ha.out _ B0).mono ?_; rintro e w1 ⟨rfl, hb⟩
      have B1 : Below w.heap.size w w1 := B0.trans (hb.mono B0.size)
      try clear cba lba fba
      try clear cbb lbb fbb
      try clear cbr lbr fbr
      replace ba := (ba).later hb
      replace bb := (bb).later hb
      replace br := (br).later hb
      clear hb
      obtain ⟨cba, lba, fba⟩ := ba.all
      obtain ⟨cbb, lbb, fbb⟩ := bb.all
      obtain ⟨cbr, lbr, fbr⟩ := br.all
      go_wp2_with fail
      have bx := Blk.new w1 74 #[.int .i64 0, .int .i64 0]
      refine (Hb.out _ (B1.alloc (by have hs := B1.size; first | exact hs | omega | (simp; omega)) _)).mono ?_; rintro e w2 ⟨rfl, hb⟩
      have B2 : Below w.heap.size w w2 := (B1.alloc (by have hs := B1.size; first | exact hs | omega | (simp; omega)) _).trans (hb.mono (by have hs := B1.size; first | exact hs | omega | (simp; omega)))
      try clear cba lba fba
      try clear cbb lbb fbb
      try clear cbr lbr fbr
      replace ba := ((ba.alloc _)).later hb
      replace bb := ((bb.alloc _)).later hb
      replace br := ((br.alloc _)).later hb
      replace bx := bx.later hb
      clear hb
      obtain ⟨cbx, lbx, fbx⟩ := bx.all
      obtain ⟨cba, lba, fba⟩ := ba.all
      obtain ⟨cbb, lbb, fbb⟩ := bb.all
      obtain ⟨cbr, lbr, fbr⟩ := br.all
      go_wp2_with fail
      have hF := (((((((br.set_ 0 (.int .i64 0)).set_ 1 (.int .i64 (0))).set_ 2 (.int .i64 0)).set_ 3 (.string ⟨#[]⟩)).set_ 4 (.int .i64 0)).set_ 5 (.int .i64 0)).alloc (.cells #[.int .i64 0, .int .i64 0] 74))
      have cF := hF.cell
      refine bodyPost_ret (v := .tuple #[.agg #[.int .i64 0, .int .i64 0, .int .i64 0, .string ⟨#[]⟩, .int .i64 0, .int .i64 0], .int .i64 104]) ?_ rfl ⟨?_, ?_⟩
      ·simp [results, Tryz.results114, go_sem, cF]
      ·rfl
      ·repeat' first | with_reducible exact B2 | with_reducible refine Below.setCell ?_ (by have hs := B2.size; first | omega | (simp; omega) | simp) _ | with_reducible refine Below.alloc ?_ (by have hs := B2.size; first | omega | (simp; omega) | simp) _
   | some y =>
     rw [setV_none] at Ca
     rw [setV_some] at Cb
     have Ha := Lib.hid Ca
     clear Ca
     have Hb := Lib.hid Cb
     clear Cb
     unfold Pair pairV setsR LitT.val
     obtain rfl | rfl | rfl := hop
     ·skip
      obtain ⟨ba, bb, br, B0⟩ := boxes3 w 76 #[.int .i64 ka, .int .i64 na, .int .i64 0, .string sa, .int .i64 la, .int .i64 ha] 76 #[.int .i64 kb, .int .i64 nb, .int .i64 0, .string sb, .int .i64 lb, .int .i64 hb] 76 #[.int .i64 0, .int .i64 0, .int .i64 0, .string ⟨#[]⟩, .int .i64 0, .int .i64 0]
      go_enter Tryz.func114, Tryz.ntmps114
      go_wp2_with fail
      refine (Ha.out _ B0).mono ?_; rintro e w1 ⟨rfl, hb⟩
      have B1 : Below w.heap.size w w1 := B0.trans (hb.mono B0.size)
      try clear cba lba fba
      try clear cbb lbb fbb
      try clear cbr lbr fbr
      replace ba := (ba).later hb
      replace bb := (bb).later hb
      replace br := (br).later hb
      clear hb
      obtain ⟨cba, lba, fba⟩ := ba.all
      obtain ⟨cbb, lbb, fbb⟩ := bb.all
      obtain ⟨cbr, lbr, fbr⟩ := br.all
      go_wp2_with fail
      have bx := Blk.new w1 74 #[.int .i64 0, .int .i64 0]
      refine (Hb.out _ (B1.alloc (by have hs := B1.size; first | exact hs | omega | (simp; omega)) _)).mono ?_; rintro e w2 ⟨rfl, hb⟩
      have B2 : Below w.heap.size w w2 := (B1.alloc (by have hs := B1.size; first | exact hs | omega | (simp; omega)) _).trans (hb.mono (by have hs := B1.size; first | exact hs | omega | (simp; omega)))
      try clear cba lba fba
      try clear cbb lbb fbb
      try clear cbr lbr fbr
      replace ba := ((ba.alloc _)).later hb
      replace bb := ((bb.alloc _)).later hb
      replace br := ((br.alloc _)).later hb
      replace bx := bx.later hb
      clear hb
      obtain ⟨cbx, lbx, fbx⟩ := bx.all
      obtain ⟨cba, lba, fba⟩ := ba.all
      obtain ⟨cbb, lbb, fbb⟩ := bb.all
      obtain ⟨cbr, lbr, fbr⟩ := br.all
      go_wp2_with fail
      have hF := (((((((br.set_ 0 (.int .i64 0)).set_ 1 (.int .i64 (0))).set_ 2 (.int .i64 0)).set_ 3 (.string ⟨#[]⟩)).set_ 4 (.int .i64 0)).set_ 5 (.int .i64 0)).alloc (.cells #[.int .i64 y.lo.toInt, .int .i64 y.hi.toInt] 74))
      have cF := hF.cell
      refine bodyPost_ret (v := .tuple #[.agg #[.int .i64 0, .int .i64 0, .int .i64 0, .string ⟨#[]⟩, .int .i64 0, .int .i64 0], .int .i64 104]) ?_ rfl ⟨?_, ?_⟩
      ·simp [results, Tryz.results114, go_sem, cF]
      ·rfl
      ·repeat' first | with_reducible exact B2 | with_reducible refine Below.setCell ?_ (by have hs := B2.size; first | omega | (simp; omega) | simp) _ | with_reducible refine Below.alloc ?_ (by have hs := B2.size; first | omega | (simp; omega) | simp) _
     ·skip
      obtain ⟨ba, bb, br, B0⟩ := boxes3 w 76 #[.int .i64 ka, .int .i64 na, .int .i64 0, .string sa, .int .i64 la, .int .i64 ha] 76 #[.int .i64 kb, .int .i64 nb, .int .i64 0, .string sb, .int .i64 lb, .int .i64 hb] 76 #[.int .i64 0, .int .i64 0, .int .i64 0, .string ⟨#[]⟩, .int .i64 0, .int .i64 0]
      go_enter Tryz.func114, Tryz.ntmps114
      go_wp2_with fail
      refine (Ha.out _ B0).mono ?_; rintro e w1 ⟨rfl, hb⟩
      have B1 : Below w.heap.size w w1 := B0.trans (hb.mono B0.size)
      try clear cba lba fba
      try clear cbb lbb fbb
      try clear cbr lbr fbr
      replace ba := (ba).later hb
      replace bb := (bb).later hb
      replace br := (br).later hb
      clear hb
      obtain ⟨cba, lba, fba⟩ := ba.all
      obtain ⟨cbb, lbb, fbb⟩ := bb.all
      obtain ⟨cbr, lbr, fbr⟩ := br.all
      go_wp2_with fail
      have bx := Blk.new w1 74 #[.int .i64 0, .int .i64 0]
      refine (Hb.out _ (B1.alloc (by have hs := B1.size; first | exact hs | omega | (simp; omega)) _)).mono ?_; rintro e w2 ⟨rfl, hb⟩
      have B2 : Below w.heap.size w w2 := (B1.alloc (by have hs := B1.size; first | exact hs | omega | (simp; omega)) _).trans (hb.mono (by have hs := B1.size; first | exact hs | omega | (simp; omega)))
      try clear cba lba fba
      try clear cbb lbb fbb
      try clear cbr lbr fbr
      replace ba := ((ba.alloc _)).later hb
      replace bb := ((bb.alloc _)).later hb
      replace br := ((br.alloc _)).later hb
      replace bx := bx.later hb
      clear hb
      obtain ⟨cbx, lbx, fbx⟩ := bx.all
      obtain ⟨cba, lba, fba⟩ := ba.all
      obtain ⟨cbb, lbb, fbb⟩ := bb.all
      obtain ⟨cbr, lbr, fbr⟩ := br.all
      go_wp2_with fail
      have hF := (((((((br.set_ 0 (.int .i64 0)).set_ 1 (.int .i64 (0))).set_ 2 (.int .i64 0)).set_ 3 (.string ⟨#[]⟩)).set_ 4 (.int .i64 0)).set_ 5 (.int .i64 0)).alloc (.cells #[.int .i64 y.lo.toInt, .int .i64 y.hi.toInt] 74))
      have cF := hF.cell
      refine bodyPost_ret (v := .tuple #[.agg #[.int .i64 0, .int .i64 0, .int .i64 0, .string ⟨#[]⟩, .int .i64 0, .int .i64 0], .int .i64 104]) ?_ rfl ⟨?_, ?_⟩
      ·simp [results, Tryz.results114, go_sem, cF]
      ·rfl
      ·repeat' first | with_reducible exact B2 | with_reducible refine Below.setCell ?_ (by have hs := B2.size; first | omega | (simp; omega) | simp) _ | with_reducible refine Below.alloc ?_ (by have hs := B2.size; first | omega | (simp; omega) | simp) _
     ·skip
      obtain ⟨ba, bb, br, B0⟩ := boxes3 w 76 #[.int .i64 ka, .int .i64 na, .int .i64 0, .string sa, .int .i64 la, .int .i64 ha] 76 #[.int .i64 kb, .int .i64 nb, .int .i64 0, .string sb, .int .i64 lb, .int .i64 hb] 76 #[.int .i64 0, .int .i64 0, .int .i64 0, .string ⟨#[]⟩, .int .i64 0, .int .i64 0]
      go_enter Tryz.func114, Tryz.ntmps114
      go_wp2_with fail
      refine (Ha.out _ B0).mono ?_; rintro e w1 ⟨rfl, hb⟩
      have B1 : Below w.heap.size w w1 := B0.trans (hb.mono B0.size)
      try clear cba lba fba
      try clear cbb lbb fbb
      try clear cbr lbr fbr
      replace ba := (ba).later hb
      replace bb := (bb).later hb
      replace br := (br).later hb
      clear hb
      obtain ⟨cba, lba, fba⟩ := ba.all
      obtain ⟨cbb, lbb, fbb⟩ := bb.all
      obtain ⟨cbr, lbr, fbr⟩ := br.all
      go_wp2_with fail
      have bx := Blk.new w1 74 #[.int .i64 0, .int .i64 0]
      refine (Hb.out _ (B1.alloc (by have hs := B1.size; first | exact hs | omega | (simp; omega)) _)).mono ?_; rintro e w2 ⟨rfl, hb⟩
      have B2 : Below w.heap.size w w2 := (B1.alloc (by have hs := B1.size; first | exact hs | omega | (simp; omega)) _).trans (hb.mono (by have hs := B1.size; first | exact hs | omega | (simp; omega)))
      try clear cba lba fba
      try clear cbb lbb fbb
      try clear cbr lbr fbr
      replace ba := ((ba.alloc _)).later hb
      replace bb := ((bb.alloc _)).later hb
      replace br := ((br.alloc _)).later hb
      replace bx := bx.later hb
      clear hb
      obtain ⟨cbx, lbx, fbx⟩ := bx.all
      obtain ⟨cba, lba, fba⟩ := ba.all
      obtain ⟨cbb, lbb, fbb⟩ := bb.all
      obtain ⟨cbr, lbr, fbr⟩ := br.all
      go_wp2_with fail
      have hF := (((((((br.set_ 0 (.int .i64 0)).set_ 1 (.int .i64 (0))).set_ 2 (.int .i64 0)).set_ 3 (.string ⟨#[]⟩)).set_ 4 (.int .i64 0)).set_ 5 (.int .i64 0)).alloc (.cells #[.int .i64 y.lo.toInt, .int .i64 y.hi.toInt] 74))
      have cF := hF.cell
      refine bodyPost_ret (v := .tuple #[.agg #[.int .i64 0, .int .i64 0, .int .i64 0, .string ⟨#[]⟩, .int .i64 0, .int .i64 0], .int .i64 104]) ?_ rfl ⟨?_, ?_⟩
      ·simp [results, Tryz.results114, go_sem, cF]
      ·rfl
      ·repeat' first | with_reducible exact B2 | with_reducible refine Below.setCell ?_ (by have hs := B2.size; first | omega | (simp; omega) | simp) _ | with_reducible refine Below.alloc ?_ (by have hs := B2.size; first | omega | (simp; omega) | simp) _
 | some x =>
   cases rb with
   | none =>
     rw [setV_none] at Cb
     rw [setV_some] at Ca
     have Ha := Lib.hid Ca
     clear Ca
     have Hb := Lib.hid Cb
     clear Cb
     unfold Pair pairV setsR LitT.val
     obtain rfl | rfl | rfl := hop
     ·skip
      obtain ⟨ba, bb, br, B0⟩ := boxes3 w 76 #[.int .i64 ka, .int .i64 na, .int .i64 0, .string sa, .int .i64 la, .int .i64 ha] 76 #[.int .i64 kb, .int .i64 nb, .int .i64 0, .string sb, .int .i64 lb, .int .i64 hb] 76 #[.int .i64 0, .int .i64 0, .int .i64 0, .string ⟨#[]⟩, .int .i64 0, .int .i64 0]
      go_enter Tryz.func114, Tryz.ntmps114
      go_wp2_with fail
      refine (Ha.out _ B0).mono ?_; rintro e w1 ⟨rfl, hb⟩
      have B1 : Below w.heap.size w w1 := B0.trans (hb.mono B0.size)
      try clear cba lba fba
      try clear cbb lbb fbb
      try clear cbr lbr fbr
      replace ba := (ba).later hb
      replace bb := (bb).later hb
      replace br := (br).later hb
      clear hb
      obtain ⟨cba, lba, fba⟩ := ba.all
      obtain ⟨cbb, lbb, fbb⟩ := bb.all
      obtain ⟨cbr, lbr, fbr⟩ := br.all
      go_wp2_with fail
      have bx := Blk.new w1 74 #[.int .i64 x.lo.toInt, .int .i64 x.hi.toInt]
      refine (Hb.out _ (B1.alloc (by have hs := B1.size; first | exact hs | omega | (simp; omega)) _)).mono ?_; rintro e w2 ⟨rfl, hb⟩
      have B2 : Below w.heap.size w w2 := (B1.alloc (by have hs := B1.size; first | exact hs | omega | (simp; omega)) _).trans (hb.mono (by have hs := B1.size; first | exact hs | omega | (simp; omega)))
      try clear cba lba fba
      try clear cbb lbb fbb
      try clear cbr lbr fbr
      replace ba := ((ba.alloc _)).later hb
      replace bb := ((bb.alloc _)).later hb
      replace br := ((br.alloc _)).later hb
      replace bx := bx.later hb
      clear hb
      obtain ⟨cbx, lbx, fbx⟩ := bx.all
      obtain ⟨cba, lba, fba⟩ := ba.all
      obtain ⟨cbb, lbb, fbb⟩ := bb.all
      obtain ⟨cbr, lbr, fbr⟩ := br.all
      go_wp2_with fail
      have hF := (((((((br.set_ 0 (.int .i64 0)).set_ 1 (.int .i64 (0))).set_ 2 (.int .i64 0)).set_ 3 (.string ⟨#[]⟩)).set_ 4 (.int .i64 0)).set_ 5 (.int .i64 0)).alloc (.cells #[.int .i64 0, .int .i64 0] 74))
      have cF := hF.cell
      refine bodyPost_ret (v := .tuple #[.agg #[.int .i64 0, .int .i64 0, .int .i64 0, .string ⟨#[]⟩, .int .i64 0, .int .i64 0], .int .i64 104]) ?_ rfl ⟨?_, ?_⟩
      ·simp [results, Tryz.results114, go_sem, cF]
      ·rfl
      ·repeat' first | with_reducible exact B2 | with_reducible refine Below.setCell ?_ (by have hs := B2.size; first | omega | (simp; omega) | simp) _ | with_reducible refine Below.alloc ?_ (by have hs := B2.size; first | omega | (simp; omega) | simp) _
     ·skip
      obtain ⟨ba, bb, br, B0⟩ := boxes3 w 76 #[.int .i64 ka, .int .i64 na, .int .i64 0, .string sa, .int .i64 la, .int .i64 ha] 76 #[.int .i64 kb, .int .i64 nb, .int .i64 0, .string sb, .int .i64 lb, .int .i64 hb] 76 #[.int .i64 0, .int .i64 0, .int .i64 0, .string ⟨#[]⟩, .int .i64 0, .int .i64 0]
      go_enter Tryz.func114, Tryz.ntmps114
      go_wp2_with fail
      refine (Ha.out _ B0).mono ?_; rintro e w1 ⟨rfl, hb⟩
      have B1 : Below w.heap.size w w1 := B0.trans (hb.mono B0.size)
      try clear cba lba fba
      try clear cbb lbb fbb
      try clear cbr lbr fbr
      replace ba := (ba).later hb
      replace bb := (bb).later hb
      replace br := (br).later hb
      clear hb
      obtain ⟨cba, lba, fba⟩ := ba.all
      obtain ⟨cbb, lbb, fbb⟩ := bb.all
      obtain ⟨cbr, lbr, fbr⟩ := br.all
      go_wp2_with fail
      have bx := Blk.new w1 74 #[.int .i64 x.lo.toInt, .int .i64 x.hi.toInt]
      refine (Hb.out _ (B1.alloc (by have hs := B1.size; first | exact hs | omega | (simp; omega)) _)).mono ?_; rintro e w2 ⟨rfl, hb⟩
      have B2 : Below w.heap.size w w2 := (B1.alloc (by have hs := B1.size; first | exact hs | omega | (simp; omega)) _).trans (hb.mono (by have hs := B1.size; first | exact hs | omega | (simp; omega)))
      try clear cba lba fba
      try clear cbb lbb fbb
      try clear cbr lbr fbr
      replace ba := ((ba.alloc _)).later hb
      replace bb := ((bb.alloc _)).later hb
      replace br := ((br.alloc _)).later hb
      replace bx := bx.later hb
      clear hb
      obtain ⟨cbx, lbx, fbx⟩ := bx.all
      obtain ⟨cba, lba, fba⟩ := ba.all
      obtain ⟨cbb, lbb, fbb⟩ := bb.all
      obtain ⟨cbr, lbr, fbr⟩ := br.all
      go_wp2_with fail
      have hF := (((((((br.set_ 0 (.int .i64 0)).set_ 1 (.int .i64 (0))).set_ 2 (.int .i64 0)).set_ 3 (.string ⟨#[]⟩)).set_ 4 (.int .i64 0)).set_ 5 (.int .i64 0)).alloc (.cells #[.int .i64 0, .int .i64 0] 74))
      have cF := hF.cell
      refine bodyPost_ret (v := .tuple #[.agg #[.int .i64 0, .int .i64 0, .int .i64 0, .string ⟨#[]⟩, .int .i64 0, .int .i64 0], .int .i64 104]) ?_ rfl ⟨?_, ?_⟩
      ·simp [results, Tryz.results114, go_sem, cF]
      ·rfl
      ·repeat' first | with_reducible exact B2 | with_reducible refine Below.setCell ?_ (by have hs := B2.size; first | omega | (simp; omega) | simp) _ | with_reducible refine Below.alloc ?_ (by have hs := B2.size; first | omega | (simp; omega) | simp) _
     ·skip
      obtain ⟨ba, bb, br, B0⟩ := boxes3 w 76 #[.int .i64 ka, .int .i64 na, .int .i64 0, .string sa, .int .i64 la, .int .i64 ha] 76 #[.int .i64 kb, .int .i64 nb, .int .i64 0, .string sb, .int .i64 lb, .int .i64 hb] 76 #[.int .i64 0, .int .i64 0, .int .i64 0, .string ⟨#[]⟩, .int .i64 0, .int .i64 0]
      go_enter Tryz.func114, Tryz.ntmps114
      go_wp2_with fail
      refine (Ha.out _ B0).mono ?_; rintro e w1 ⟨rfl, hb⟩
      have B1 : Below w.heap.size w w1 := B0.trans (hb.mono B0.size)
      try clear cba lba fba
      try clear cbb lbb fbb
      try clear cbr lbr fbr
      replace ba := (ba).later hb
      replace bb := (bb).later hb
      replace br := (br).later hb
      clear hb
      obtain ⟨cba, lba, fba⟩ := ba.all
      obtain ⟨cbb, lbb, fbb⟩ := bb.all
      obtain ⟨cbr, lbr, fbr⟩ := br.all
      go_wp2_with fail
      have bx := Blk.new w1 74 #[.int .i64 x.lo.toInt, .int .i64 x.hi.toInt]
      refine (Hb.out _ (B1.alloc (by have hs := B1.size; first | exact hs | omega | (simp; omega)) _)).mono ?_; rintro e w2 ⟨rfl, hb⟩
      have B2 : Below w.heap.size w w2 := (B1.alloc (by have hs := B1.size; first | exact hs | omega | (simp; omega)) _).trans (hb.mono (by have hs := B1.size; first | exact hs | omega | (simp; omega)))
      try clear cba lba fba
      try clear cbb lbb fbb
      try clear cbr lbr fbr
      replace ba := ((ba.alloc _)).later hb
      replace bb := ((bb.alloc _)).later hb
      replace br := ((br.alloc _)).later hb
      replace bx := bx.later hb
      clear hb
      obtain ⟨cbx, lbx, fbx⟩ := bx.all
      obtain ⟨cba, lba, fba⟩ := ba.all
      obtain ⟨cbb, lbb, fbb⟩ := bb.all
      obtain ⟨cbr, lbr, fbr⟩ := br.all
      go_wp2_with fail
      have hF := (((((((br.set_ 0 (.int .i64 0)).set_ 1 (.int .i64 (0))).set_ 2 (.int .i64 0)).set_ 3 (.string ⟨#[]⟩)).set_ 4 (.int .i64 0)).set_ 5 (.int .i64 0)).alloc (.cells #[.int .i64 0, .int .i64 0] 74))
      have cF := hF.cell
      refine bodyPost_ret (v := .tuple #[.agg #[.int .i64 0, .int .i64 0, .int .i64 0, .string ⟨#[]⟩, .int .i64 0, .int .i64 0], .int .i64 104]) ?_ rfl ⟨?_, ?_⟩
      ·simp [results, Tryz.results114, go_sem, cF]
      ·rfl
      ·repeat' first | with_reducible exact B2 | with_reducible refine Below.setCell ?_ (by have hs := B2.size; first | omega | (simp; omega) | simp) _ | with_reducible refine Below.alloc ?_ (by have hs := B2.size; first | omega | (simp; omega) | simp) _
   | some y =>
     rw [setV_some] at Ca Cb
     have Ha := Lib.hid Ca
     clear Ca
     have Hb := Lib.hid Cb
     clear Cb
     obtain rfl | rfl | rfl := hop
     ·have HR : Hid (setsR 52 (some x) (some y) = (.set (x.or_ y), 0)) := by show _ = _; simp [setsR]
      rw [HR.out]
      clear HR
      have HU : Hid (∀ W : World, Calls Tryz.prog 135 #[.agg #[.int .i64 x.lo.toInt, .int .i64 x.hi.toInt], .agg #[.int .i64 y.lo.toInt, .int .i64 y.hi.toInt]] W fun e w' => e = .returned (.agg #[.int .i64 (x.or_ y).lo.toInt, .int .i64 (x.or_ y).hi.toInt]) ∧ Below W.heap.size W w') := fun W => impl_UnionCsets x y W
      unfold Pair pairV LitT.val
      generalize x.or_ y = z at *
      obtain ⟨ba, bb, br, B0⟩ := boxes3 w 76 #[.int .i64 ka, .int .i64 na, .int .i64 0, .string sa, .int .i64 la, .int .i64 ha] 76 #[.int .i64 kb, .int .i64 nb, .int .i64 0, .string sb, .int .i64 lb, .int .i64 hb] 76 #[.int .i64 0, .int .i64 0, .int .i64 0, .string ⟨#[]⟩, .int .i64 0, .int .i64 0]
      go_enter Tryz.func114, Tryz.ntmps114
      go_wp2_with fail
      refine (Ha.out _ B0).mono ?_; rintro e w1 ⟨rfl, hb⟩
      have B1 : Below w.heap.size w w1 := B0.trans (hb.mono B0.size)
      try clear cba lba fba
      try clear cbb lbb fbb
      try clear cbr lbr fbr
      replace ba := (ba).later hb
      replace bb := (bb).later hb
      replace br := (br).later hb
      clear hb
      obtain ⟨cba, lba, fba⟩ := ba.all
      obtain ⟨cbb, lbb, fbb⟩ := bb.all
      obtain ⟨cbr, lbr, fbr⟩ := br.all
      go_wp2_with fail
      have bx := Blk.new w1 74 #[.int .i64 x.lo.toInt, .int .i64 x.hi.toInt]
      refine (Hb.out _ (B1.alloc (by have hs := B1.size; first | exact hs | omega | (simp; omega)) _)).mono ?_; rintro e w2 ⟨rfl, hb⟩
      have B2 : Below w.heap.size w w2 := (B1.alloc (by have hs := B1.size; first | exact hs | omega | (simp; omega)) _).trans (hb.mono (by have hs := B1.size; first | exact hs | omega | (simp; omega)))
      try clear cba lba fba
      try clear cbb lbb fbb
      try clear cbr lbr fbr
      replace ba := ((ba.alloc _)).later hb
      replace bb := ((bb.alloc _)).later hb
      replace br := ((br.alloc _)).later hb
      replace bx := bx.later hb
      clear hb
      obtain ⟨cbx, lbx, fbx⟩ := bx.all
      obtain ⟨cba, lba, fba⟩ := ba.all
      obtain ⟨cbb, lbb, fbb⟩ := bb.all
      obtain ⟨cbr, lbr, fbr⟩ := br.all
      go_wp2_with fail
      refine (HU.out _).mono ?_; rintro e w3 ⟨rfl, hb⟩
      have B3 : Below w.heap.size w w3 := (B2.alloc (by have hs := B2.size; first | exact hs | omega | (simp; omega)) _).trans (hb.mono (by have hs := B2.size; first | exact hs | omega | (simp; omega)))
      try clear cbx lbx fbx
      try clear cba lba fba
      try clear cbb lbb fbb
      try clear cbr lbr fbr
      replace bx := ((bx.alloc _)).later hb
      replace ba := ((ba.alloc _)).later hb
      replace bb := ((bb.alloc _)).later hb
      replace br := ((br.alloc _)).later hb
      clear hb
      obtain ⟨cbx, lbx, fbx⟩ := bx.all
      obtain ⟨cba, lba, fba⟩ := ba.all
      obtain ⟨cbb, lbb, fbb⟩ := bb.all
      obtain ⟨cbr, lbr, fbr⟩ := br.all
      go_wp2_with fail
      have hF := ((((((br.set_ 0 (.int .i64 3)).set_ 1 (.int .i64 (0))).set_ 2 (.int .i64 0)).set_ 3 (.string ⟨#[]⟩)).set_ 4 (.int .i64 z.lo.toInt)).set_ 5 (.int .i64 z.hi.toInt))
      have cF := hF.cell
      refine bodyPost_ret (v := .tuple #[.agg #[.int .i64 3, .int .i64 (0), .int .i64 0, .string ⟨#[]⟩, .int .i64 z.lo.toInt, .int .i64 z.hi.toInt], .int .i64 0]) ?_ rfl ⟨?_, ?_⟩
      ·simp [results, Tryz.results114, go_sem, cF]
      ·rfl
      ·repeat' first | with_reducible exact B3 | with_reducible refine Below.setCell ?_ (by have hs := B3.size; first | omega | (simp; omega) | simp) _ | with_reducible refine Below.alloc ?_ (by have hs := B3.size; first | omega | (simp; omega) | simp) _
     ·have HR : Hid (setsR 53 (some x) (some y) = (.set (x.sub_ y), 0)) := by show _ = _; simp [setsR]
      rw [HR.out]
      clear HR
      have HU : Hid (∀ W : World, Calls Tryz.prog 136 #[.agg #[.int .i64 x.lo.toInt, .int .i64 x.hi.toInt], .agg #[.int .i64 y.lo.toInt, .int .i64 y.hi.toInt]] W fun e w' => e = .returned (.agg #[.int .i64 (x.sub_ y).lo.toInt, .int .i64 (x.sub_ y).hi.toInt]) ∧ Below W.heap.size W w') := fun W => impl_SubtractCsets x y W
      unfold Pair pairV LitT.val
      generalize x.sub_ y = z at *
      obtain ⟨ba, bb, br, B0⟩ := boxes3 w 76 #[.int .i64 ka, .int .i64 na, .int .i64 0, .string sa, .int .i64 la, .int .i64 ha] 76 #[.int .i64 kb, .int .i64 nb, .int .i64 0, .string sb, .int .i64 lb, .int .i64 hb] 76 #[.int .i64 0, .int .i64 0, .int .i64 0, .string ⟨#[]⟩, .int .i64 0, .int .i64 0]
      go_enter Tryz.func114, Tryz.ntmps114
      go_wp2_with fail
      refine (Ha.out _ B0).mono ?_; rintro e w1 ⟨rfl, hb⟩
      have B1 : Below w.heap.size w w1 := B0.trans (hb.mono B0.size)
      try clear cba lba fba
      try clear cbb lbb fbb
      try clear cbr lbr fbr
      replace ba := (ba).later hb
      replace bb := (bb).later hb
      replace br := (br).later hb
      clear hb
      obtain ⟨cba, lba, fba⟩ := ba.all
      obtain ⟨cbb, lbb, fbb⟩ := bb.all
      obtain ⟨cbr, lbr, fbr⟩ := br.all
      go_wp2_with fail
      have bx := Blk.new w1 74 #[.int .i64 x.lo.toInt, .int .i64 x.hi.toInt]
      refine (Hb.out _ (B1.alloc (by have hs := B1.size; first | exact hs | omega | (simp; omega)) _)).mono ?_; rintro e w2 ⟨rfl, hb⟩
      have B2 : Below w.heap.size w w2 := (B1.alloc (by have hs := B1.size; first | exact hs | omega | (simp; omega)) _).trans (hb.mono (by have hs := B1.size; first | exact hs | omega | (simp; omega)))
      try clear cba lba fba
      try clear cbb lbb fbb
      try clear cbr lbr fbr
      replace ba := ((ba.alloc _)).later hb
      replace bb := ((bb.alloc _)).later hb
      replace br := ((br.alloc _)).later hb
      replace bx := bx.later hb
      clear hb
      obtain ⟨cbx, lbx, fbx⟩ := bx.all
      obtain ⟨cba, lba, fba⟩ := ba.all
      obtain ⟨cbb, lbb, fbb⟩ := bb.all
      obtain ⟨cbr, lbr, fbr⟩ := br.all
      go_wp2_with fail
      refine (HU.out _).mono ?_; rintro e w3 ⟨rfl, hb⟩
      have B3 : Below w.heap.size w w3 := (B2.alloc (by have hs := B2.size; first | exact hs | omega | (simp; omega)) _).trans (hb.mono (by have hs := B2.size; first | exact hs | omega | (simp; omega)))
      try clear cbx lbx fbx
      try clear cba lba fba
      try clear cbb lbb fbb
      try clear cbr lbr fbr
      replace bx := ((bx.alloc _)).later hb
      replace ba := ((ba.alloc _)).later hb
      replace bb := ((bb.alloc _)).later hb
      replace br := ((br.alloc _)).later hb
      clear hb
      obtain ⟨cbx, lbx, fbx⟩ := bx.all
      obtain ⟨cba, lba, fba⟩ := ba.all
      obtain ⟨cbb, lbb, fbb⟩ := bb.all
      obtain ⟨cbr, lbr, fbr⟩ := br.all
      go_wp2_with fail
      have hF := ((((((br.set_ 0 (.int .i64 3)).set_ 1 (.int .i64 (0))).set_ 2 (.int .i64 0)).set_ 3 (.string ⟨#[]⟩)).set_ 4 (.int .i64 z.lo.toInt)).set_ 5 (.int .i64 z.hi.toInt))
      have cF := hF.cell
      refine bodyPost_ret (v := .tuple #[.agg #[.int .i64 3, .int .i64 (0), .int .i64 0, .string ⟨#[]⟩, .int .i64 z.lo.toInt, .int .i64 z.hi.toInt], .int .i64 0]) ?_ rfl ⟨?_, ?_⟩
      ·simp [results, Tryz.results114, go_sem, cF]
      ·rfl
      ·repeat' first | with_reducible exact B3 | with_reducible refine Below.setCell ?_ (by have hs := B3.size; first | omega | (simp; omega) | simp) _ | with_reducible refine Below.alloc ?_ (by have hs := B3.size; first | omega | (simp; omega) | simp) _
     ·have HR : Hid (setsR 54 (some x) (some y) = (.set (x.and_ y), 0)) := by show _ = _; simp [setsR]
      rw [HR.out]
      clear HR
      have HU : Hid (∀ W : World, Calls Tryz.prog 137 #[.agg #[.int .i64 x.lo.toInt, .int .i64 x.hi.toInt], .agg #[.int .i64 y.lo.toInt, .int .i64 y.hi.toInt]] W fun e w' => e = .returned (.agg #[.int .i64 (x.and_ y).lo.toInt, .int .i64 (x.and_ y).hi.toInt]) ∧ Below W.heap.size W w') := fun W => impl_IntersectCsets x y W
      unfold Pair pairV LitT.val
      generalize x.and_ y = z at *
      obtain ⟨ba, bb, br, B0⟩ := boxes3 w 76 #[.int .i64 ka, .int .i64 na, .int .i64 0, .string sa, .int .i64 la, .int .i64 ha] 76 #[.int .i64 kb, .int .i64 nb, .int .i64 0, .string sb, .int .i64 lb, .int .i64 hb] 76 #[.int .i64 0, .int .i64 0, .int .i64 0, .string ⟨#[]⟩, .int .i64 0, .int .i64 0]
      go_enter Tryz.func114, Tryz.ntmps114
      go_wp2_with fail
      refine (Ha.out _ B0).mono ?_; rintro e w1 ⟨rfl, hb⟩
      have B1 : Below w.heap.size w w1 := B0.trans (hb.mono B0.size)
      try clear cba lba fba
      try clear cbb lbb fbb
      try clear cbr lbr fbr
      replace ba := (ba).later hb
      replace bb := (bb).later hb
      replace br := (br).later hb
      clear hb
      obtain ⟨cba, lba, fba⟩ := ba.all
      obtain ⟨cbb, lbb, fbb⟩ := bb.all
      obtain ⟨cbr, lbr, fbr⟩ := br.all
      go_wp2_with fail
      have bx := Blk.new w1 74 #[.int .i64 x.lo.toInt, .int .i64 x.hi.toInt]
      refine (Hb.out _ (B1.alloc (by have hs := B1.size; first | exact hs | omega | (simp; omega)) _)).mono ?_; rintro e w2 ⟨rfl, hb⟩
      have B2 : Below w.heap.size w w2 := (B1.alloc (by have hs := B1.size; first | exact hs | omega | (simp; omega)) _).trans (hb.mono (by have hs := B1.size; first | exact hs | omega | (simp; omega)))
      try clear cba lba fba
      try clear cbb lbb fbb
      try clear cbr lbr fbr
      replace ba := ((ba.alloc _)).later hb
      replace bb := ((bb.alloc _)).later hb
      replace br := ((br.alloc _)).later hb
      replace bx := bx.later hb
      clear hb
      obtain ⟨cbx, lbx, fbx⟩ := bx.all
      obtain ⟨cba, lba, fba⟩ := ba.all
      obtain ⟨cbb, lbb, fbb⟩ := bb.all
      obtain ⟨cbr, lbr, fbr⟩ := br.all
      go_wp2_with fail
      refine (HU.out _).mono ?_; rintro e w3 ⟨rfl, hb⟩
      have B3 : Below w.heap.size w w3 := (B2.alloc (by have hs := B2.size; first | exact hs | omega | (simp; omega)) _).trans (hb.mono (by have hs := B2.size; first | exact hs | omega | (simp; omega)))
      try clear cbx lbx fbx
      try clear cba lba fba
      try clear cbb lbb fbb
      try clear cbr lbr fbr
      replace bx := ((bx.alloc _)).later hb
      replace ba := ((ba.alloc _)).later hb
      replace bb := ((bb.alloc _)).later hb
      replace br := ((br.alloc _)).later hb
      clear hb
      obtain ⟨cbx, lbx, fbx⟩ := bx.all
      obtain ⟨cba, lba, fba⟩ := ba.all
      obtain ⟨cbb, lbb, fbb⟩ := bb.all
      obtain ⟨cbr, lbr, fbr⟩ := br.all
      go_wp2_with fail
      have hF := ((((((br.set_ 0 (.int .i64 3)).set_ 1 (.int .i64 (0))).set_ 2 (.int .i64 0)).set_ 3 (.string ⟨#[]⟩)).set_ 4 (.int .i64 z.lo.toInt)).set_ 5 (.int .i64 z.hi.toInt))
      have cF := hF.cell
      refine bodyPost_ret (v := .tuple #[.agg #[.int .i64 3, .int .i64 (0), .int .i64 0, .string ⟨#[]⟩, .int .i64 z.lo.toInt, .int .i64 z.hi.toInt], .int .i64 0]) ?_ rfl ⟨?_, ?_⟩
      ·simp [results, Tryz.results114, go_sem, cF]
      ·rfl
      ·repeat' first | with_reducible exact B3 | with_reducible refine Below.setCell ?_ (by have hs := B3.size; first | omega | (simp; omega) | simp) _ | with_reducible refine Below.alloc ?_ (by have hs := B3.size; first | omega | (simp; omega) | simp) _
theorem impl_IsWellFormed (v : LitT) (hv : v.Ok) (w : World) : Calls Tryz.prog 106 #[v.val] w (Gives (.bool true) w) := by
 cases v with
 | null =>
   unfold LitT.val
   obtain ⟨ba, B0⟩ := boxes1 w 76 #[.int .i64 0, .int .i64 0, .int .i64 0, .string ⟨#[]⟩, .int .i64 0, .int .i64 0]
   go_enter Tryz.func106, Tryz.ntmps106
   go_wp2_with fail
   all_goals
    go_ret
    first | exact ⟨rfl, ((Below.refl w.heap.size w).alloc (Nat.le_refl _) _)⟩ | exact ⟨ret_bool (decide_eq_true (by omega)), ((Below.refl w.heap.size w).alloc (Nat.le_refl _) _)⟩
 | int n =>
   have h1 : -999999999999 ≤ n := hv.1
   have h2 : n ≤ 999999999999 := hv.2
   unfold LitT.val
   obtain ⟨ba, B0⟩ := boxes1 w 76 #[.int .i64 1, .int .i64 n, .int .i64 0, .string ⟨#[]⟩, .int .i64 0, .int .i64 0]
   go_enter Tryz.func106, Tryz.ntmps106
   go_wp2_with fail
   all_goals
    go_ret
    first | exact ⟨rfl, ((Below.refl w.heap.size w).alloc (Nat.le_refl _) _)⟩ | exact ⟨ret_bool (decide_eq_true (by omega)), ((Below.refl w.heap.size w).alloc (Nat.le_refl _) _)⟩
 | text s =>
   have h1 : s.size ≤ 120 := hv
   unfold LitT.val
   obtain ⟨ba, B0⟩ := boxes1 w 76 #[.int .i64 2, .int .i64 0, .int .i64 0, .string s, .int .i64 0, .int .i64 0]
   go_enter Tryz.func106, Tryz.ntmps106
   go_wp2_with fail
   all_goals
    go_ret
    first | exact ⟨rfl, ((Below.refl w.heap.size w).alloc (Nat.le_refl _) _)⟩ | exact ⟨ret_bool (decide_eq_true (by omega)), ((Below.refl w.heap.size w).alloc (Nat.le_refl _) _)⟩
 | set c =>
   unfold LitT.val
   obtain ⟨ba, B0⟩ := boxes1 w 76 #[.int .i64 3, .int .i64 0, .int .i64 0, .string ⟨#[]⟩, .int .i64 c.lo.toInt, .int .i64 c.hi.toInt]
   go_enter Tryz.func106, Tryz.ntmps106
   go_wp2_with fail
   all_goals
    go_ret
    first | exact ⟨rfl, ((Below.refl w.heap.size w).alloc (Nat.le_refl _) _)⟩ | exact ⟨ret_bool (decide_eq_true (by omega)), ((Below.refl w.heap.size w).alloc (Nat.le_refl _) _)⟩
theorem unR6_some {v : LitT} {c : CsetT} (h : v.toSet = some c) : unR 6 v = (.set c.not_, 0) := by unfold unR; simp [h]
theorem unR6_none {v : LitT} (h : v.toSet = none) : unR 6 v = (.null, 104) := by unfold unR; simp [h]
theorem unR_some {op : Int} {v : LitT} {n : Int} (h6 : ¬ op = 6) (h : v.toInt = some n) : unR op v = (.int (if op = 1 then -n else n), 0) := by unfold unR; simp [h, h6]
theorem unR_none {op : Int} {v : LitT} (h6 : ¬ op = 6) (h : v.toInt = none) : unR op v = (.null, 101) := by unfold unR; simp [h, h6]
theorem impl_Unary (op : Int) (a : LitT) (a0 : a.Ok) (w : World) (ht : PowTab w) (hop : op = 1 ∨ op = 2 ∨ op = 6) : Calls Tryz.prog 81 #[.int .i64 op, a.val] w (Pair (unR op a) w) := by
 have HW : ∀ W : World, Calls Tryz.prog 106 #[a.val] W (Gives (.bool true) W) := fun W => impl_IsWellFormed a a0 W
 by_cases h6 : op = 6
 ·subst h6
  obtain ⟨ka, na, sa, la, ha, ea⟩ := a.form
  have Ca : ∀ W : World, Below w.heap.size w W → Calls Tryz.prog 107 #[a.val] W (Gives (setV a.toSet) W) := fun W hW => impl_ToCset a a0 W (ht.later hW)
  generalize hra : a.toSet = ra at *
  rw [ea] at Ca ⊢
  rw [ea] at HW
  have HWF := Lib.hid HW
  clear HW
  cases ra with
  | none =>
    rw [setV_none] at Ca
    rw [unR6_none hra]
    have Ha := Lib.hid Ca
    clear Ca
    unfold Pair pairV LitT.val
    obtain ⟨ba, br, B0⟩ := boxes2 w 76 #[.int .i64 ka, .int .i64 na, .int .i64 0, .string sa, .int .i64 la, .int .i64 ha] 76 #[.int .i64 0, .int .i64 0, .int .i64 0, .string ⟨#[]⟩, .int .i64 0, .int .i64 0]
    go_enter Tryz.func81, Tryz.ntmps81
    go_wp2_with fail
    refine (HWF.out _).mono ?_; rintro e w1 ⟨rfl, hb⟩
    have B1 : Below w.heap.size w w1 := B0.trans (hb.mono B0.size)
    try clear cba lba fba
    try clear cbr lbr fbr
    replace ba := (ba).later hb
    replace br := (br).later hb
    clear hb
    obtain ⟨cba, lba, fba⟩ := ba.all
    obtain ⟨cbr, lbr, fbr⟩ := br.all
    go_wp2_with fail
    refine (Ha.out _ B1).mono ?_; rintro e w2 ⟨rfl, hb⟩
    have B2 : Below w.heap.size w w2 := B1.trans (hb.mono B1.size)
    try clear cba lba fba
    try clear cbr lbr fbr
    replace ba := (ba).later hb
    replace br := (br).later hb
    clear hb
    obtain ⟨cba, lba, fba⟩ := ba.all
    obtain ⟨cbr, lbr, fbr⟩ := br.all
    go_wp2_with fail
    have hF := (((((((br.set_ 0 (.int .i64 0)).set_ 1 (.int .i64 (0))).set_ 2 (.int .i64 0)).set_ 3 (.string ⟨#[]⟩)).set_ 4 (.int .i64 0)).set_ 5 (.int .i64 0)).alloc (.cells #[.int .i64 0, .int .i64 0] 74))
    have cF := hF.cell
    refine bodyPost_ret (v := .tuple #[.agg #[.int .i64 0, .int .i64 0, .int .i64 0, .string ⟨#[]⟩, .int .i64 0, .int .i64 0], .int .i64 104]) ?_ rfl ⟨?_, ?_⟩
    ·simp [results, Tryz.results81, go_sem, cF]
    ·rfl
    ·repeat' first | with_reducible exact B2 | with_reducible refine Below.setCell ?_ (by have hs := B2.size; first | omega | (simp; omega) | simp) _ | with_reducible refine Below.alloc ?_ (by have hs := B2.size; first | omega | (simp; omega) | simp) _
  | some x =>
    rw [setV_some] at Ca
    rw [unR6_some hra]
    have Ha := Lib.hid Ca
    clear Ca
    have HN : Hid (∀ W : World, Calls Tryz.prog 108 #[.agg #[.int .i64 x.lo.toInt, .int .i64 x.hi.toInt]] W fun e w' => e = .returned (.agg #[.int .i64 x.not_.lo.toInt, .int .i64 x.not_.hi.toInt]) ∧ Below W.heap.size W w') := fun W => impl_ComplementCset x W
    unfold Pair pairV LitT.val
    skip
    generalize x.not_ = z at *
    obtain ⟨ba, br, B0⟩ := boxes2 w 76 #[.int .i64 ka, .int .i64 na, .int .i64 0, .string sa, .int .i64 la, .int .i64 ha] 76 #[.int .i64 0, .int .i64 0, .int .i64 0, .string ⟨#[]⟩, .int .i64 0, .int .i64 0]
    go_enter Tryz.func81, Tryz.ntmps81
    go_wp2_with fail
    refine (HWF.out _).mono ?_; rintro e w1 ⟨rfl, hb⟩
    have B1 : Below w.heap.size w w1 := B0.trans (hb.mono B0.size)
    try clear cba lba fba
    try clear cbr lbr fbr
    replace ba := (ba).later hb
    replace br := (br).later hb
    clear hb
    obtain ⟨cba, lba, fba⟩ := ba.all
    obtain ⟨cbr, lbr, fbr⟩ := br.all
    go_wp2_with fail
    refine (Ha.out _ B1).mono ?_; rintro e w2 ⟨rfl, hb⟩
    have B2 : Below w.heap.size w w2 := B1.trans (hb.mono B1.size)
    try clear cba lba fba
    try clear cbr lbr fbr
    replace ba := (ba).later hb
    replace br := (br).later hb
    clear hb
    obtain ⟨cba, lba, fba⟩ := ba.all
    obtain ⟨cbr, lbr, fbr⟩ := br.all
    go_wp2_with fail
    refine (HN.out _).mono ?_; rintro e w3 ⟨rfl, hb⟩
    have B3 : Below w.heap.size w w3 := (B2.alloc (by have hs := B2.size; first | exact hs | omega | (simp; omega)) _).trans (hb.mono (by have hs := B2.size; first | exact hs | omega | (simp; omega)))
    try clear cba lba fba
    try clear cbr lbr fbr
    replace ba := ((ba.alloc _)).later hb
    replace br := ((br.alloc _)).later hb
    clear hb
    obtain ⟨cba, lba, fba⟩ := ba.all
    obtain ⟨cbr, lbr, fbr⟩ := br.all
    go_wp2_with fail
    have hF := ((((((br.set_ 0 (.int .i64 3)).set_ 1 (.int .i64 (0))).set_ 2 (.int .i64 0)).set_ 3 (.string ⟨#[]⟩)).set_ 4 (.int .i64 z.lo.toInt)).set_ 5 (.int .i64 z.hi.toInt))
    have cF := hF.cell
    refine bodyPost_ret (v := .tuple #[.agg #[.int .i64 3, .int .i64 (0), .int .i64 0, .string ⟨#[]⟩, .int .i64 z.lo.toInt, .int .i64 z.hi.toInt], .int .i64 0]) ?_ rfl ⟨?_, ?_⟩
    ·simp [results, Tryz.results81, go_sem, cF]
    ·rfl
    ·repeat' first | with_reducible exact B3 | with_reducible refine Below.setCell ?_ (by have hs := B3.size; first | omega | (simp; omega) | simp) _ | with_reducible refine Below.alloc ?_ (by have hs := B3.size; first | omega | (simp; omega) | simp) _
 obtain ⟨ka, na, sa, la, ha, ea⟩ := a.form
 have Ca : ∀ W : World, Below w.heap.size w W → Calls Tryz.prog 109 #[a.val] W (Gives (pairOf a.toInt) W) := fun W hW => impl_ToInteger a a0 W (ht.later hW)
 generalize hra : a.toInt = ra at *
 rw [ea] at Ca ⊢
 rw [ea] at HW
 have HWF := Lib.hid HW
 clear HW
 have bda : ∀ x, ra = some x → x.natAbs ≤ 999999999999 := fun x h => by have := toInt_bd a0 (hra.trans h); omega
 have f6 : (op == 6) = false := beq_eq_false_iff_ne.2 h6
 cases ra with
 | none =>
   unfold pairOf at Ca
   rw [unR_none h6 hra]
   have Ha := Lib.hid Ca
   clear Ca
   obtain rfl | rfl : op = 1 ∨ op = 2 := by omega
   ·unfold Pair pairV LitT.val
    obtain ⟨ba, br, B0⟩ := boxes2 w 76 #[.int .i64 ka, .int .i64 na, .int .i64 0, .string sa, .int .i64 la, .int .i64 ha] 76 #[.int .i64 0, .int .i64 0, .int .i64 0, .string ⟨#[]⟩, .int .i64 0, .int .i64 0]
    go_enter Tryz.func81, Tryz.ntmps81
    go_wp2_with fail
    refine (HWF.out _).mono ?_; rintro e w1 ⟨rfl, hb⟩
    have B1 : Below w.heap.size w w1 := B0.trans (hb.mono B0.size)
    try clear cba lba fba
    try clear cbr lbr fbr
    replace ba := (ba).later hb
    replace br := (br).later hb
    clear hb
    obtain ⟨cba, lba, fba⟩ := ba.all
    obtain ⟨cbr, lbr, fbr⟩ := br.all
    go_wp2_with fail
    refine (Ha.out _ B1).mono ?_; rintro e w2 ⟨rfl, hb⟩
    have B2 : Below w.heap.size w w2 := B1.trans (hb.mono B1.size)
    try clear cba lba fba
    try clear cbr lbr fbr
    replace ba := (ba).later hb
    replace br := (br).later hb
    clear hb
    obtain ⟨cba, lba, fba⟩ := ba.all
    obtain ⟨cbr, lbr, fbr⟩ := br.all
    go_wp2_with fail
    refine bodyPost_ret (v := .tuple #[.agg #[.int .i64 0, .int .i64 0, .int .i64 0, .string ⟨#[]⟩, .int .i64 0, .int .i64 0], .int .i64 101]) ?_ rfl ⟨?_, ?_⟩
    ·simp [results, Tryz.results81, go_sem, cbr]
    ·rfl
    ·repeat' first | with_reducible exact B2 | with_reducible refine Below.setCell ?_ (by have hs := B2.size; first | omega | (simp; omega) | simp) _ | with_reducible refine Below.alloc ?_ (by have hs := B2.size; first | omega | (simp; omega) | simp) _
   ·unfold Pair pairV LitT.val
    obtain ⟨ba, br, B0⟩ := boxes2 w 76 #[.int .i64 ka, .int .i64 na, .int .i64 0, .string sa, .int .i64 la, .int .i64 ha] 76 #[.int .i64 0, .int .i64 0, .int .i64 0, .string ⟨#[]⟩, .int .i64 0, .int .i64 0]
    go_enter Tryz.func81, Tryz.ntmps81
    go_wp2_with fail
    refine (HWF.out _).mono ?_; rintro e w1 ⟨rfl, hb⟩
    have B1 : Below w.heap.size w w1 := B0.trans (hb.mono B0.size)
    try clear cba lba fba
    try clear cbr lbr fbr
    replace ba := (ba).later hb
    replace br := (br).later hb
    clear hb
    obtain ⟨cba, lba, fba⟩ := ba.all
    obtain ⟨cbr, lbr, fbr⟩ := br.all
    go_wp2_with fail
    refine (Ha.out _ B1).mono ?_; rintro e w2 ⟨rfl, hb⟩
    have B2 : Below w.heap.size w w2 := B1.trans (hb.mono B1.size)
    try clear cba lba fba
    try clear cbr lbr fbr
    replace ba := (ba).later hb
    replace br := (br).later hb
    clear hb
    obtain ⟨cba, lba, fba⟩ := ba.all
    obtain ⟨cbr, lbr, fbr⟩ := br.all
    go_wp2_with fail
    refine bodyPost_ret (v := .tuple #[.agg #[.int .i64 0, .int .i64 0, .int .i64 0, .string ⟨#[]⟩, .int .i64 0, .int .i64 0], .int .i64 101]) ?_ rfl ⟨?_, ?_⟩
    ·simp [results, Tryz.results81, go_sem, cbr]
    ·rfl
    ·repeat' first | with_reducible exact B2 | with_reducible refine Below.setCell ?_ (by have hs := B2.size; first | omega | (simp; omega) | simp) _ | with_reducible refine Below.alloc ?_ (by have hs := B2.size; first | omega | (simp; omega) | simp) _
 | some x =>
   have hx := bda x rfl
   unfold pairOf at Ca
   rw [unR_some h6 hra]
   have Ha := Lib.hid Ca
   clear Ca
   obtain rfl | rfl : op = 1 ∨ op = 2 := by omega
   ·have HR : (LitT.int (if (1 : Int) = 1 then -x else x), (0 : Int)) = (.int (-x), 0) := by rw [if_pos rfl]
    show Calls _ _ _ _ (Pair (LitT.int (if (1 : Int) = 1 then -x else x), (0 : Int)) w)
    rw [HR]
    unfold Pair pairV LitT.val
    obtain ⟨ba, br, B0⟩ := boxes2 w 76 #[.int .i64 ka, .int .i64 na, .int .i64 0, .string sa, .int .i64 la, .int .i64 ha] 76 #[.int .i64 0, .int .i64 0, .int .i64 0, .string ⟨#[]⟩, .int .i64 0, .int .i64 0]
    go_enter Tryz.func81, Tryz.ntmps81
    go_wp2_with fail
    refine (HWF.out _).mono ?_; rintro e w1 ⟨rfl, hb⟩
    have B1 : Below w.heap.size w w1 := B0.trans (hb.mono B0.size)
    try clear cba lba fba
    try clear cbr lbr fbr
    replace ba := (ba).later hb
    replace br := (br).later hb
    clear hb
    obtain ⟨cba, lba, fba⟩ := ba.all
    obtain ⟨cbr, lbr, fbr⟩ := br.all
    go_wp2_with fail
    refine (Ha.out _ B1).mono ?_; rintro e w2 ⟨rfl, hb⟩
    have B2 : Below w.heap.size w w2 := B1.trans (hb.mono B1.size)
    try clear cba lba fba
    try clear cbr lbr fbr
    replace ba := (ba).later hb
    replace br := (br).later hb
    clear hb
    obtain ⟨cba, lba, fba⟩ := ba.all
    obtain ⟨cbr, lbr, fbr⟩ := br.all
    go_wp2_with fail
    have hF := ((((((br.set_ 0 (.int .i64 1)).set_ 1 (.int .i64 (-x))).set_ 2 (.int .i64 0)).set_ 3 (.string ⟨#[]⟩)).set_ 4 (.int .i64 0)).set_ 5 (.int .i64 0))
    have cF := hF.cell
    refine bodyPost_ret (v := .tuple #[.agg #[.int .i64 1, .int .i64 (-x), .int .i64 0, .string ⟨#[]⟩, .int .i64 0, .int .i64 0], .int .i64 0]) ?_ rfl ⟨?_, ?_⟩
    ·simp [results, Tryz.results81, go_sem, cF]
    ·rfl
    ·repeat' first | with_reducible exact B2 | with_reducible refine Below.setCell ?_ (by have hs := B2.size; first | omega | (simp; omega) | simp) _ | with_reducible refine Below.alloc ?_ (by have hs := B2.size; first | omega | (simp; omega) | simp) _
   ·have HR : (LitT.int (if (2 : Int) = 1 then -x else x), (0 : Int)) = (.int (x), 0) := by rw [if_neg (by decide)]
    show Calls _ _ _ _ (Pair (LitT.int (if (2 : Int) = 1 then -x else x), (0 : Int)) w)
    rw [HR]
    unfold Pair pairV LitT.val
    obtain ⟨ba, br, B0⟩ := boxes2 w 76 #[.int .i64 ka, .int .i64 na, .int .i64 0, .string sa, .int .i64 la, .int .i64 ha] 76 #[.int .i64 0, .int .i64 0, .int .i64 0, .string ⟨#[]⟩, .int .i64 0, .int .i64 0]
    go_enter Tryz.func81, Tryz.ntmps81
    go_wp2_with fail
    refine (HWF.out _).mono ?_; rintro e w1 ⟨rfl, hb⟩
    have B1 : Below w.heap.size w w1 := B0.trans (hb.mono B0.size)
    try clear cba lba fba
    try clear cbr lbr fbr
    replace ba := (ba).later hb
    replace br := (br).later hb
    clear hb
    obtain ⟨cba, lba, fba⟩ := ba.all
    obtain ⟨cbr, lbr, fbr⟩ := br.all
    go_wp2_with fail
    refine (Ha.out _ B1).mono ?_; rintro e w2 ⟨rfl, hb⟩
    have B2 : Below w.heap.size w w2 := B1.trans (hb.mono B1.size)
    try clear cba lba fba
    try clear cbr lbr fbr
    replace ba := (ba).later hb
    replace br := (br).later hb
    clear hb
    obtain ⟨cba, lba, fba⟩ := ba.all
    obtain ⟨cbr, lbr, fbr⟩ := br.all
    go_wp2_with fail
    have hF := ((((((br.set_ 0 (.int .i64 1)).set_ 1 (.int .i64 (x))).set_ 2 (.int .i64 0)).set_ 3 (.string ⟨#[]⟩)).set_ 4 (.int .i64 0)).set_ 5 (.int .i64 0))
    have cF := hF.cell
    refine bodyPost_ret (v := .tuple #[.agg #[.int .i64 1, .int .i64 (x), .int .i64 0, .string ⟨#[]⟩, .int .i64 0, .int .i64 0], .int .i64 0]) ?_ rfl ⟨?_, ?_⟩
    ·simp [results, Tryz.results81, go_sem, cF]
    ·rfl
    ·repeat' first | with_reducible exact B2 | with_reducible refine Below.setCell ?_ (by have hs := B2.size; first | omega | (simp; omega) | simp) _ | with_reducible refine Below.alloc ?_ (by have hs := B2.size; first | omega | (simp; omega) | simp) _
theorem binR_nums {op : Int} {a b : LitT} (h1 : 20 ≤ op) (h2 : op ≤ 35) : binR op a b = numsR op a.toInt b.toInt := by unfold binR; rw [if_pos ⟨h1, h2⟩]
theorem binR_texts {op : Int} {a b : LitT} (h : (40 ≤ op ∧ op ≤ 45) ∨ op = 50) : binR op a b = textsR op a.toText b.toText := by unfold binR; rw [if_neg (by omega), if_neg (by omega), if_pos h]
theorem binR_sets {op : Int} {a b : LitT} (h : op = 52 ∨ op = 53 ∨ op = 54) : binR op a b = setsR op a.toSet b.toSet := by unfold binR; rw [if_neg (by omega), if_neg (by omega), if_neg (by omega)]
theorem op_cases {op : Int} (h : opOk op = true) (h1 : 20 ≤ op) (h2 : op ≤ 54) (h3 : ¬ op = 51) : ((20 ≤ op ∧ op ≤ 25) ∨ (30 ≤ op ∧ op ≤ 35)) ∨ ((40 ≤ op ∧ op ≤ 45) ∨ op = 50) ∨ op = 46 ∨ op = 47 ∨ op = 52 ∨ op = 53 ∨ op = 54 := by
 unfold opOk at h
 have := of_decide_eq_true h
 omega
theorem impl_bin (op : Int) (a b : LitT) (a0 : a.Ok) (b0 : b.Ok) (w : World) (ht : PowTab w) (hop : opOk op = true) (h1 : 20 ≤ op) (h2 : op ≤ 54) (h3 : ¬ op = 51) : Calls Tryz.prog 114 #[.int .i64 op, a.val, b.val] w (Pair (binR op a b) w) := by
 rcases op_cases hop h1 h2 h3 with h | h | rfl | rfl | h
 ·rw [binR_nums (by omega) (by omega)]; exact impl_nums op a b a0 b0 w ht h
 ·rw [binR_texts h]; exact impl_texts op a b a0 b0 w ht h
 ·exact impl_bineq46 a b w
 ·exact impl_bineq47 a b w
 ·rw [binR_sets h]; exact impl_sets op a b a0 b0 w ht h
theorem impl_Binary (op : Int) (a b : LitT) (a0 : a.Ok) (b0 : b.Ok) (w : World) (ht : PowTab w) (hop : opOk op = true) (h1 : 20 ≤ op) (h2 : op ≤ 54) (h3 : ¬ op = 51) (hst : SpaceTab w) : Calls Tryz.prog 83 #[.int .i64 op, a.val, b.val] w (Pair (binR op a b) w) := by
 have HA : ∀ W : World, Calls Tryz.prog 106 #[a.val] W (Gives (.bool true) W) := fun W => impl_IsWellFormed a a0 W
 have HB : ∀ W : World, Calls Tryz.prog 106 #[b.val] W (Gives (.bool true) W) := fun W => impl_IsWellFormed b b0 W
 have HT : Hid (∀ W : World, Below w.heap.size w W → Calls Tryz.prog 113 #[.int .i64 op] W (OpText op W)) := fun W hW => impl_OperatorText op W (hst.later hW)
 have HC : ∀ W : World, Below w.heap.size w W → Calls Tryz.prog 114 #[.int .i64 op, a.val, b.val] W (Pair (binR op a b) W) := fun W hW => impl_bin op a b a0 b0 W (ht.later hW) hop h1 h2 h3
 obtain ⟨ka, na, sa, la, ha, ea⟩ := a.form
 obtain ⟨kb, nb, sb, lb, hb, eb⟩ := b.form
 rw [ea] at HA
 rw [eb] at HB
 rw [ea, eb] at HC ⊢
 generalize binR op a b = r at *
 obtain ⟨v, k⟩ := r
 obtain ⟨kv, nv, sv, lv, hv, ev⟩ := v.form
 unfold Pair pairV at HC ⊢
 simp only [ev] at HC ⊢
 have HAH := Lib.hid HA
 have HBH := Lib.hid HB
 have HCH := Lib.hid HC
 clear HA HB HC ea eb ev
 have f51 : (op == 51) = false := beq_eq_false_iff_ne.2 h3
 obtain ⟨ba, bb, br, B0⟩ := boxes3 w 76 #[.int .i64 ka, .int .i64 na, .int .i64 0, .string sa, .int .i64 la, .int .i64 ha] 76 #[.int .i64 kb, .int .i64 nb, .int .i64 0, .string sb, .int .i64 lb, .int .i64 hb] 76 #[.int .i64 0, .int .i64 0, .int .i64 0, .string ⟨#[]⟩, .int .i64 0, .int .i64 0]
 go_enter Tryz.func83, Tryz.ntmps83
 go_wp2_with fail
 refine (HT.out _ B0).mono ?_; rintro e w1 ⟨t, rfl, ht0, hts, hb⟩
 have B1 : Below w.heap.size w w1 := B0.trans (hb.mono B0.size)
 try clear cba lba fba
 try clear cbb lbb fbb
 try clear cbr lbr fbr
 replace ba := (ba).later hb
 replace bb := (bb).later hb
 replace br := (br).later hb
 clear hb
 rw [hop] at ht0
 simp only [Bool.not_true] at ht0
 have hte : ¬ t.toList = [] := by intro h; rw [h] at ht0; cases ht0
 obtain ⟨cba, lba, fba⟩ := ba.all
 obtain ⟨cbb, lbb, fbb⟩ := bb.all
 obtain ⟨cbr, lbr, fbr⟩ := br.all
 go_wp2_with fail
 refine (HAH.out _).mono ?_; rintro e w2 ⟨rfl, hb⟩
 have B2 : Below w.heap.size w w2 := B1.trans (hb.mono B1.size)
 try clear cba lba fba
 try clear cbb lbb fbb
 try clear cbr lbr fbr
 replace ba := (ba).later hb
 replace bb := (bb).later hb
 replace br := (br).later hb
 clear hb
 obtain ⟨cba, lba, fba⟩ := ba.all
 obtain ⟨cbb, lbb, fbb⟩ := bb.all
 obtain ⟨cbr, lbr, fbr⟩ := br.all
 go_wp2_with fail
 refine (HBH.out _).mono ?_; rintro e w3 ⟨rfl, hb⟩
 have B3 : Below w.heap.size w w3 := B2.trans (hb.mono B2.size)
 try clear cba lba fba
 try clear cbb lbb fbb
 try clear cbr lbr fbr
 replace ba := (ba).later hb
 replace bb := (bb).later hb
 replace br := (br).later hb
 clear hb
 obtain ⟨cba, lba, fba⟩ := ba.all
 obtain ⟨cbb, lbb, fbb⟩ := bb.all
 obtain ⟨cbr, lbr, fbr⟩ := br.all
 go_wp2_with fail
 refine (HCH.out _ B3).mono ?_; rintro e w4 ⟨rfl, hb⟩
 have B4 : Below w.heap.size w w4 := B3.trans (hb.mono B3.size)
 try clear cba lba fba
 try clear cbb lbb fbb
 try clear cbr lbr fbr
 replace ba := (ba).later hb
 replace bb := (bb).later hb
 replace br := (br).later hb
 clear hb
 obtain ⟨cba, lba, fba⟩ := ba.all
 obtain ⟨cbb, lbb, fbb⟩ := bb.all
 obtain ⟨cbr, lbr, fbr⟩ := br.all
 go_wp2_with fail
 have hF := (((((((br.set_ 0 (.int .i64 kv)).set_ 1 (.int .i64 (nv))).set_ 2 (.int .i64 0)).set_ 3 (.string sv)).set_ 4 (.int .i64 lv)).set_ 5 (.int .i64 hv)).alloc (.cells #[.int .i64 kv, .int .i64 nv, .int .i64 0, .string sv, .int .i64 lv, .int .i64 hv] 76))
 have cF := hF.cell
 refine bodyPost_ret (v := .tuple #[.agg #[.int .i64 kv, .int .i64 nv, .int .i64 0, .string sv, .int .i64 lv, .int .i64 hv], .int .i64 k]) ?_ rfl ⟨?_, ?_⟩
 ·simp [results, Tryz.results83, go_sem, cF]
 ·rfl
 ·repeat' first | with_reducible exact B4 | with_reducible refine Below.setCell ?_ (by have hs := B4.size; first | omega | (simp; omega) | simp) _ | with_reducible refine Below.alloc ?_ (by have hs := B4.size; first | omega | (simp; omega) | simp) _
end Go.Proofs.YtjeomamdlmoghaaGreatDoor
end
