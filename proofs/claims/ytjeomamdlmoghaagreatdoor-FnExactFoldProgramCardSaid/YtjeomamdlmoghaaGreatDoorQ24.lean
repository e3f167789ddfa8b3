/- The operators on sets, on one literal, of the reference. -/
import Derived.Test.YtjeomamdlmoghaaGreatDoorQ00
import Derived.Test.YtjeomamdlmoghaaGreatDoorQSq
import Derived.Test.YtjeomamdlmoghaaGreatDoorQ21
import Derived.Test.YtjeomamdlmoghaaGreatDoorQ23
set_option maxRecDepth 100000
set_option maxHeartbeats 8000000
set_option linter.unusedVariables false
set_option linter.unusedSimpArgs false
section
namespace Go.Proofs.YtjeomamdlmoghaaGreatDoor
open Go.RowKit
theorem spec_sets (op : Int) (a b : LitT) (a0 : a.Ok) (b0 : b.Ok) (w : World) (hop : op = 52 ∨ op = 53 ∨ op = 54) : Calls Tryz.prog 71 #[.int .i64 op, a.val, b.val] w (Pair (setsR op a.toSet b.toSet) w) := by
 obtain ⟨ka, na, sa, la, ha, ea⟩ := a.form
 obtain ⟨kb, nb, sb, lb, hb, eb⟩ := b.form
 have Ca : ∀ W : World, Below w.heap.size w W → Calls Tryz.prog 94 #[a.val] W (Gives (setV a.toSet) W) := fun W hW => spec_ToCset a a0 W
 have Cb : ∀ W : World, Below w.heap.size w W → Calls Tryz.prog 94 #[b.val] W (Gives (setV b.toSet) W) := fun W hW => spec_ToCset b b0 W
 generalize hra : a.toSet = ra at *
 rw [ea] at Ca ⊢
 generalize hrb : b.toSet = rb at *
 rw [eb] at Cb ⊢
 cases ra with
 | none =>
   cases rb with
   | none =>
     rw [setV_none] at Ca Cb
     have Ha := Lib.hid Ca
     clear Ca
     have Hb := Lib.hid Cb
     clear Cb
     unfold Pair pairV setsR LitT.val
     obtain rfl | rfl | rfl := hop
     ·skip
      obtain ⟨ba, bb, br, B0⟩ := boxes3 w 76 #[.int .i64 ka, .int .i64 na, .int .i64 0, .string sa, .int .i64 la, .int .i64 ha] 76 #[.int .i64 kb, .int .i64 nb, .int .i64 0, .string sb, .int .i64 lb, .int .i64 hb] 76 #[.int .i64 0, .int .i64 0, .int .i64 0, .string ⟨#[]⟩, .int .i64 0, .int .i64 0]
      go_enter Tryz.func71, Tryz.ntmps71
      go_wp2_with fail
      refine (Ha.out _ B0).mono ?_; rintro e w1 ⟨rfl, hb⟩
      have B1 : Below w.heap.size w w1 := B0.trans (hb.mono B0.size)
      try clear cba lba fba
      try clear cbb lbb fbb
      try clear cbr lbr fbr
      replace ba := (ba).later hb
      replace bb := (bb).later hb
      replace br := (br).later hb
      clear hb
      obtain ⟨cba, lba, fba⟩ := ba.all
      obtain ⟨cbb, lbb, fbb⟩ := bb.all
      obtain ⟨cbr, lbr, fbr⟩ := br.all
      go_wp2_with fail
      have bx := Blk.new w1 74 #[.int .i64 0, .int .i64 0]
      refine (Hb.out _ (B1.alloc (by have hs := B1.size; first | exact hs | omega | (simp; omega)) _)).mono ?_; rintro e w2 ⟨rfl, hb⟩
      have B2 : Below w.heap.size w w2 := (B1.alloc (by have hs := B1.size; first | exact hs | omega | (simp; omega)) _).trans (hb.mono (by have hs := B1.size; first | exact hs | omega | (simp; omega)))
      try clear cba lba fba
      try clear cbb lbb fbb
      try clear cbr lbr fbr
      replace ba := ((ba.alloc _)).later hb
      replace bb := ((bb.alloc _)).later hb
      replace br := ((br.alloc _)).later hb
      replace bx := bx.later hb
      clear hb
      obtain ⟨cbx, lbx, fbx⟩ := bx.all
      obtain ⟨cba, lba, fba⟩ := ba.all
      obtain ⟨cbb, lbb, fbb⟩ := bb.all
      obtain ⟨cbr, lbr, fbr⟩ := br.all
      go_wp2_with fail
      have hF := (((((((br.set_ 0 (.int .i64 0)).set_ 1 (.int .i64 (0))).set_ 2 (.int .i64 0)).set_ 3 (.string ⟨#[]⟩)).set_ 4 (.int .i64 0)).set_ 5 (.int .i64 0)).alloc (.cells #[.int .i64 0, .int .i64 0] 74))
      have cF := hF.cell
      refine bodyPost_ret (v := .tuple #[.agg #[.int .i64 0, .int .i64 0, .int .i64 0, .string ⟨#[]⟩, .int .i64 0, .int .i64 0], .int .i64 104]) ?_ rfl ⟨?_, ?_⟩
      ·simp [results, Tryz.results71, go_sem, cF]
      ·rfl
      ·repeat' first | with_reducible exact B2 | with_reducible refine Below.setCell ?_ (by have hs := B2.size; first | omega | (simp; omega) | simp) _ | with_reducible refine Below.alloc ?_ (by have hs := B2.size; first | omega | (simp; omega) | simp) _
     ·skip
      obtain ⟨ba, bb, br, B0⟩ := boxes3 w 76 #[.int .i64 ka, .int .i64 na, .int .i64 0, .string sa, .int .i64 la, .int .i64 ha] 76 #[.int .i64 kb, .int .i64 nb, .int .i64 0, .string sb, .int .i64 lb, .int .i64 hb] 76 #[.int .i64 0, .int .i64 0, .int .i64 0, .string ⟨#[]⟩, .int .i64 0, .int .i64 0]
      go_enter Tryz.func71, Tryz.ntmps71
      go_wp2_with fail
      refine (Ha.out _ B0).mono ?_; rintro e w1 ⟨rfl, hb⟩
      have B1 : Below w.heap.size w w1 := B0.trans (hb.mono B0.size)
      try clear cba lba fba
      try clear cbb lbb fbb
      try clear cbr lbr fbr
      replace ba := (ba).later hb
      replace bb := (bb).later hb
      replace br := (br).later hb
      clear hb
      obtain ⟨cba, lba, fba⟩ := ba.all
      obtain ⟨cbb, lbb, fbb⟩ := bb.all
      obtain ⟨cbr, lbr, fbr⟩ := br.all
      go_wp2_with fail
      have bx := Blk.new w1 74 #[.int .i64 0, .int .i64 0]
      refine (Hb.out _ (B1.alloc (by have hs := B1.size; first | exact hs | omega | (simp; omega)) _)).mono ?_; rintro e w2 ⟨rfl, hb⟩
      have B2 : Below w.heap.size w w2 := (B1.alloc (by have hs := B1.size; first | exact hs | omega | (simp; omega)) _).trans (hb.mono (by have hs := B1.size; first | exact hs | omega | (simp; omega)))
      try clear cba lba fba
      try clear cbb lbb fbb
      try clear cbr lbr fbr
      replace ba := ((ba.alloc _)).later hb
      replace bb := ((bb.alloc _)).later hb
      replace br := ((br.alloc _)).later hb
      replace bx := bx.later hb
      clear hb
      obtain ⟨cbx, lbx, fbx⟩ := bx.all
      obtain ⟨cba, lba, fba⟩ := ba.all
      obtain ⟨cbb, lbb, fbb⟩ := bb.all
      obtain ⟨cbr, lbr, fbr⟩ := br.all
      go_wp2_with fail
      have hF := (((((((br.set_ 0 (.int .i64 0)).set_ 1 (.int .i64 (0))).set_ 2 (.int .i64 0)).set_ 3 (.string ⟨#[]⟩)).set_ 4 (.int .i64 0)).set_ 5 (.int .i64 0)).alloc (.cells #[.int .i64 0, .int .i64 0] 74))
      have cF := hF.cell
      refine bodyPost_ret (v := .tuple #[.agg #[.int .i64 0, .int .i64 0, .int .i64 0, .string ⟨#[]⟩, .int .i64 0, .int .i64 0], .int .i64 104]) ?_ rfl ⟨?_, ?_⟩
      ·simp [results, Tryz.results71, go_sem, cF]
      ·rfl
      ·repeat' first | with_reducible exact B2 | with_reducible refine Below.setCell ?_ (by have hs := B2.size; first | omega | (simp; omega) | simp) _ | with_reducible refine Below.alloc ?_ (by have hs := B2.size; first | omega | (simp; omega) | simp) _
     ·skip
      obtain ⟨ba, bb, br, B0⟩ := boxes3 w 76 #[.int .i64 ka, .int .i64 na, .int .i64 0, .string sa, .int .i64 la, .int .i64 ha] 76 #[.int .i64 kb, .int .i64 nb, .int .i64 0, .string sb, .int .i64 lb, .int .i64 hb] 76 #[.int .i64 0, .int .i64 0, .int .i64 0, .string ⟨#[]⟩, .int .i64 0, .int .i64 0]
      go_enter Tryz.func71, Tryz.ntmps71
      go_wp2_with fail
      refine (Ha.out _ B0).mono ?_; rintro e w1 ⟨rfl, hb⟩
      have B1 : Below w.heap.size w w1 := B0.trans (hb.mono B0.size)
      try clear cba lba fba
      try clear cbb lbb fbb
      try clear cbr lbr fbr
      replace ba := (ba).later hb
      replace bb := (bb).later hb
      replace br := (br).later hb
      clear hb
      obtain ⟨cba, lba, fba⟩ := ba.all
      obtain ⟨cbb, lbb, fbb⟩ := bb.all
      obtain ⟨cbr, lbr, fbr⟩ := br.all
      go_wp2_with fail
      have bx := Blk.new w1 74 #[.int .i64 0, .int .i64 0]
      refine (Hb.out _ (B1.alloc (by have hs := B1.size; first | exact hs | omega | (simp; omega)) _)).mono ?_; rintro e w2 ⟨rfl, hb⟩
      have B2 : Below w.heap.size w w2 := (B1.alloc (by have hs := B1.size; first | exact hs | omega | (simp; omega)) _).trans (hb.mono (by have hs := B1.size; first | exact hs | omega | (simp; omega)))
      try clear cba lba fba
      try clear cbb lbb fbb
      try clear cbr lbr fbr
      replace ba := ((ba.alloc _)).later hb
      replace bb := ((bb.alloc _)).later hb
      replace br := ((br.alloc _)).later hb
      replace bx := bx.later hb
      clear hb
      obtain ⟨cbx, lbx, fbx⟩ := bx.all
      obtain ⟨cba, lba, fba⟩ := ba.all
      obtain ⟨cbb, lbb, fbb⟩ := bb.all
      obtain ⟨cbr, lbr, fbr⟩ := br.all
      go_wp2_with fail
      have hF := (((((((br.set_ 0 (.int .i64 0)).set_ 1 (.int .i64 (0))).set_ 2 (.int .i64 0)).set_ 3 (.string ⟨#[]⟩)).set_ 4 (.int .i64 0)).set_ 5 (.int .i64 0)).alloc (.cells #[.int .i64 0, .int .i64 0] 74))
      have cF := hF.cell
      refine bodyPost_ret (v := .tuple #[.agg #[.int .i64 0, .int .i64 0, .int .i64 0, .string ⟨#[]⟩, .int .i64 0, .int .i64 0], .int .i64 104]) ?_ rfl ⟨?_, ?_⟩
      ·simp [results, Tryz.results71, go_sem, cF]
      ·rfl
      ·repeat' first | with_reducible exact B2 | with_reducible refine Below.setCell ?_ (by have hs := B2.size; first | omega | (simp; omega) | simp) _ | with_reducible refine Below.alloc ?_ (by have hs := B2.size; first | omega | (simp; omega) | simp) _
   | some y =>
     rw [setV_none] at Ca
     rw [setV_some] at Cb
     have Ha := Lib.hid Ca
     clear Ca
     have Hb := Lib.hid Cb
     clear Cb
     unfold Pair pairV setsR LitT.val
     obtain rfl | rfl | rfl := hop
     ·skip
      obtain ⟨ba, bb, br, B0⟩ := boxes3 w 76 #[.int .i64 ka, .int .i64 na, .int .i64 0, .string sa, .int .i64 la, .int .i64 ha] 76 #[.int .i64 kb, .int .i64 nb, .int .i64 0, .string sb, .int .i64 lb, .int .i64 hb] 76 #[.int .i64 0, .int .i64 0, .int .i64 0, .string ⟨#[]⟩, .int .i64 0, .int .i64 0]
      go_enter Tryz.func71, Tryz.ntmps71
      go_wp2_with fail
      refine (Ha.out _ B0).mono ?_; rintro e w1 ⟨rfl, hb⟩
      have B1 : Below w.heap.size w w1 := B0.trans (hb.mono B0.size)
      try clear cba lba fba
      try clear cbb lbb fbb
      try clear cbr lbr fbr
      replace ba := (ba).later hb
      replace bb := (bb).later hb
      replace br := (br).later hb
      clear hb
      obtain ⟨cba, lba, fba⟩ := ba.all
      obtain ⟨cbb, lbb, fbb⟩ := bb.all
      obtain ⟨cbr, lbr, fbr⟩ := br.all
      go_wp2_with fail
      have bx := Blk.new w1 74 #[.int .i64 0, .int .i64 0]
      refine (Hb.out _ (B1.alloc (by have hs := B1.size; first | exact hs | omega | (simp; omega)) _)).mono ?_; rintro e w2 ⟨rfl, hb⟩
      have B2 : Below w.heap.size w w2 := (B1.alloc (by have hs := B1.size; first | exact hs | omega | (simp; omega)) _).trans (hb.mono (by have hs := B1.size; first | exact hs | omega | (simp; omega)))
      try clear cba lba fba
      try clear cbb lbb fbb
      try clear cbr lbr fbr
      replace ba := ((ba.alloc _)).later hb
      replace bb := ((bb.alloc _)).later hb
      replace br := ((br.alloc _)).later hb
      replace bx := bx.later hb
      clear hb
      obtain ⟨cbx, lbx, fbx⟩ := bx.all
      obtain ⟨cba, lba, fba⟩ := ba.all
      obtain ⟨cbb, lbb, fbb⟩ := bb.all
      obtain ⟨cbr, lbr, fbr⟩ := br.all
      go_wp2_with fail
      have hF := (((((((br.set_ 0 (.int .i64 0)).set_ 1 (.int .i64 (0))).set_ 2 (.int .i64 0)).set_ 3 (.string ⟨#[]⟩)).set_ 4 (.int .i64 0)).set_ 5 (.int .i64 0)).alloc (.cells #[.int .i64 y.lo.toInt, .int .i64 y.hi.toInt] 74))
      have cF := hF.cell
      refine bodyPost_ret (v := .tuple #[.agg #[.int .i64 0, .int .i64 0, .int .i64 0, .string ⟨#[]⟩, .int .i64 0, .int .i64 0], .int .i64 104]) ?_ rfl ⟨?_, ?_⟩
      ·simp [results, Tryz.results71, go_sem, cF]
      ·rfl
      ·repeat' first | with_reducible exact B2 | with_reducible refine Below.setCell ?_ (by have hs := B2.size; first | omega | (simp; omega) | simp) _ | with_reducible refine Below.alloc ?_ (by have hs := B2.size; first | omega | (simp; omega) | simp) _
     ·skip
      obtain ⟨ba, bb, br, B0⟩ := boxes3 w 76 #[.int .i64 ka, .int .i64 na, .int .i64 0, .string sa, .int .i64 la, .int .i64 ha] 76 #[.int .i64 kb, .int .i64 nb, .int .i64 0, .string sb, .int .i64 lb, .int .i64 hb] 76 #[.int .i64 0, .int .i64 0, .int .i64 0, .string ⟨#[]⟩, .int .i64 0, .int .i64 0]
      go_enter Tryz.func71, Tryz.ntmps71
      go_wp2_with fail
      refine (Ha.out _ B0).mono ?_; rintro e w1 ⟨rfl, hb⟩
      have B1 : Below w.heap.size w w1 := B0.trans (hb.mono B0.size)
      try clear cba lba fba
      try clear cbb lbb fbb
      try clear cbr lbr fbr
      replace ba := (ba).later hb
      replace bb := (bb).later hb
      replace br := (br).later hb
      clear hb
      obtain ⟨cba, lba, fba⟩ := ba.all
      obtain ⟨cbb, lbb, fbb⟩ := bb.all
      obtain ⟨cbr, lbr, fbr⟩ := br.all
      go_wp2_with fail
      have bx := Blk.new w1 74 #[.int .i64 0, .int .i64 0]
      refine (Hb.out _ (B1.alloc (by have hs := B1.size; first | exact hs | omega | (simp; omega)) _)).mono ?_; rintro e w2 ⟨rfl, hb⟩
      have B2 : Below w.heap.size w w2 := (B1.alloc (by have hs := B1.size; first | exact hs | omega | (simp; omega)) _).trans (hb.mono (by have hs := B1.size; first | exact hs | omega | (simp; omega)))
      try clear cba lba fba
      try clear cbb lbb fbb
      try clear cbr lbr fbr
      replace ba := ((ba.alloc _)).later hb
      replace bb := ((bb.alloc _)).later hb
      replace br := ((br.alloc _)).later hb
      replace bx := bx.later hb
      clear hb
      obtain ⟨cbx, lbx, fbx⟩ := bx.all
      obtain ⟨cba, lba, fba⟩ := ba.all
      obtain ⟨cbb, lbb, fbb⟩ := bb.all
      obtain ⟨cbr, lbr, fbr⟩ := br.all
      go_wp2_with fail
      have hF := (((((((br.set_ 0 (.int .i64 0)).set_ 1 (.int .i64 (0))).set_ 2 (.int .i64 0)).set_ 3 (.string ⟨#[]⟩)).set_ 4 (.int .i64 0)).set_ 5 (.int .i64 0)).alloc (.cells #[.int .i64 y.lo.toInt, .int .i64 y.hi.toInt] 74))
      have cF := hF.cell
      refine bodyPost_ret (v := .tuple #[.agg #[.int .i64 0, .int .i64 0, .int .i64 0, .string ⟨#[]⟩, .int .i64 0, .int .i64 0], .int .i64 104]) ?_ rfl ⟨?_, ?_⟩
      ·simp [results, Tryz.results71, go_sem, cF]
      ·rfl
      ·repeat' first | with_reducible exact B2 | with_reducible refine Below.setCell ?_ (by have hs := B2.size; first | omega | (simp; omega) | simp) _ | with_reducible refine Below.alloc ?_ (by have hs := B2.size; first | omega | (simp; omega) | simp) _
     ·skip
      obtain ⟨ba, bb, br, B0⟩ := boxes3 w 76 #[.int .i64 ka, .int .i64 na, .int .i64 0, .string sa, .int .i64 la, .int .i64 ha] 76 #[.int .i64 kb, .int .i64 nb, .int .i64 0, .string sb, .int .i64 lb, .int .i64 hb] 76 #[.int .i64 0, .int .i64 0, .int .i64 0, .string ⟨#[]⟩, .int .i64 0, .int .i64 0]
      go_enter Tryz.func71, Tryz.ntmps71
      go_wp2_with fail
      refine (Ha.out _ B0).mono ?_; rintro e w1 ⟨rfl, hb⟩
      have B1 : Below w.heap.size w w1 := B0.trans (hb.mono B0.size)
      try clear cba lba fba
      try clear cbb lbb fbb
      try clear cbr lbr fbr
      replace ba := (ba).later hb
      replace bb := (bb).later hb
      replace br := (br).later hb
      clear hb
      obtain ⟨cba, lba, fba⟩ := ba.all
      obtain ⟨cbb, lbb, fbb⟩ := bb.all
      obtain ⟨cbr, lbr, fbr⟩ := br.all
      go_wp2_with fail
      have bx := Blk.new w1 74 #[.int .i64 0, .int .i64 0]
      refine (Hb.out _ (B1.alloc (by have hs := B1.size; first | exact hs | omega | (simp; omega)) _)).mono ?_; rintro e w2 ⟨rfl, hb⟩
      have B2 : Below w.heap.size w w2 := (B1.alloc (by have hs := B1.size; first | exact hs | omega | (simp; omega)) _).trans (hb.mono (by have hs := B1.size; first | exact hs | omega | (simp; omega)))
      try clear cba lba fba
      try clear cbb lbb fbb
      try clear cbr lbr fbr
      replace ba := ((ba.alloc _)).later hb
      replace bb := ((bb.alloc _)).later hb
      replace br := ((br.alloc _)).later hb
      replace bx := bx.later hb
      clear hb
      obtain ⟨cbx, lbx, fbx⟩ := bx.all
      obtain ⟨cba, lba, fba⟩ := ba.all
      obtain ⟨cbb, lbb, fbb⟩ := bb.all
      obtain ⟨cbr, lbr, fbr⟩ := br.all
      go_wp2_with fail
      have hF := (((((((br.set_ 0 (.int .i64 0)).set_ 1 (.int .i64 (0))).set_ 2 (.int .i64 0)).set_ 3 (.string ⟨#[]⟩)).set_ 4 (.int .i64 0)).set_ 5 (.int .i64 0)).alloc (.cells #[.int .i64 y.lo.toInt, .int .i64 y.hi.toInt] 74))
      have cF := hF.cell
      refine bodyPost_ret (v := .tuple #[.agg #[.int .i64 0, .int .i64 0, .int .i64 0, .string ⟨#[]⟩, .int .i64 0, .int .i64 0], .int .i64 104]) ?_ rfl ⟨?_, ?_⟩
      ·simp [results, Tryz.results71, go_sem, cF]
      ·rfl
      ·repeat' first | with_reducible exact B2 | with_reducible refine Below.setCell ?_ (by have hs := B2.size; first | omega | (simp; omega) | simp) _ | with_reducible refine Below.alloc ?_ (by have hs := B2.size; first | omega | (simp; omega) | simp) _
 | some x =>
   cases rb with
   | none =>
     rw [setV_none] at Cb
     rw [setV_some] at Ca
     have Ha := Lib.hid Ca
     clear Ca
     have Hb := Lib.hid Cb
     clear Cb
     unfold Pair pairV setsR LitT.val
     obtain rfl | rfl | rfl := hop
     ·skip
      obtain ⟨ba, bb, br, B0⟩ := boxes3 w 76 #[.int .i64 ka, .int .i64 na, .int .i64 0, .string sa, .int .i64 la, .int .i64 ha] 76 #[.int .i64 kb, .int .i64 nb, .int .i64 0, .string sb, .int .i64 lb, .int .i64 hb] 76 #[.int .i64 0, .int .i64 0, .int .i64 0, .string ⟨#[]⟩, .int .i64 0, .int .i64 0]
      go_enter Tryz.func71, Tryz.ntmps71
      go_wp2_with fail
      refine (Ha.out _ B0).mono ?_; rintro e w1 ⟨rfl, hb⟩
      have B1 : Below w.heap.size w w1 := B0.trans (hb.mono B0.size)
      try clear cba lba fba
      try clear cbb lbb fbb
      try clear cbr lbr fbr
      replace ba := (ba).later hb
      replace bb := (bb).later hb
      replace br := (br).later hb
      clear hb
      obtain ⟨cba, lba, fba⟩ := ba.all
      obtain ⟨cbb, lbb, fbb⟩ := bb.all
      obtain ⟨cbr, lbr, fbr⟩ := br.all
      go_wp2_with fail
      have bx := Blk.new w1 74 #[.int .i64 x.lo.toInt, .int .i64 x.hi.toInt]
      refine (Hb.out _ (B1.alloc (by have hs := B1.size; first | exact hs | omega | (simp; omega)) _)).mono ?_; rintro e w2 ⟨rfl, hb⟩
      have B2 : Below w.heap.size w w2 := (B1.alloc (by have hs := B1.size; first | exact hs | omega | (simp; omega)) _).trans (hb.mono (by have hs := B1.size; first | exact hs | omega | (simp; omega)))
      try clear cba lba fba
      try clear cbb lbb fbb
      try clear cbr lbr fbr
      replace ba := ((ba.alloc _)).later hb
      replace bb := ((bb.alloc _)).later hb
      replace br := ((br.alloc _)).later hb
      replace bx := bx.later hb
      clear hb
      obtain ⟨cbx, lbx, fbx⟩ := bx.all
      obtain ⟨cba, lba, fba⟩ := ba.all
      obtain ⟨cbb, lbb, fbb⟩ := bb.all
      obtain ⟨cbr, lbr, fbr⟩ := br.all
      go_wp2_with fail
      have hF := (((((((br.set_ 0 (.int .i64 0)).set_ 1 (.int .i64 (0))).set_ 2 (.int .i64 0)).set_ 3 (.string ⟨#[]⟩)).set_ 4 (.int .i64 0)).set_ 5 (.int .i64 0)).alloc (.cells #[.int .i64 0, .int .i64 0] 74))
      have cF := hF.cell
      refine bodyPost_ret (v := .tuple #[.agg #[.int .i64 0, .int .i64 0, .int .i64 0, .string ⟨#[]⟩, .int .i64 0, .int .i64 0], .int .i64 104]) ?_ rfl ⟨?_, ?_⟩
      ·simp [results, Tryz.results71, go_sem, cF]
      ·rfl
      ·repeat' first | with_reducible exact B2 | with_reducible refine Below.setCell ?_ (by have hs := B2.size; first | omega | (simp; omega) | simp) _ | with_reducible refine Below.alloc ?_ (by have hs := B2.size; first | omega | (simp; omega) | simp) _
     ·skip
      obtain ⟨ba, bb, br, B0⟩ := boxes3 w 76 #[.int .i64 ka, .int .i64 na, .int .i64 0, .string sa, .int .i64 la, .int .i64 ha] 76 #[.int .i64 kb, .int .i64 nb, .int .i64 0, .string sb, .int .i64 lb, .int .i64 hb] 76 #[.int .i64 0, .int .i64 0, .int .i64 0, .string ⟨#[]⟩, .int .i64 0, .int .i64 0]
      go_enter Tryz.func71, Tryz.ntmps71
      go_wp2_with fail
      refine (Ha.out _ B0).mono ?_; rintro e w1 ⟨rfl, hb⟩
      have B1 : Below w.heap.size w w1 := B0.trans (hb.mono B0.size)
      try clear cba lba fba
      try clear cbb lbb fbb
      try clear cbr lbr fbr
      replace ba := (ba).later hb
      replace bb := (bb).later hb
      replace br := (br).later hb
      clear hb
      obtain ⟨cba, lba, fba⟩ := ba.all
      obtain ⟨cbb, lbb, fbb⟩ := bb.all
      obtain ⟨cbr, lbr, fbr⟩ := br.all
      go_wp2_with fail
      have bx := Blk.new w1 74 #[.int .i64 x.lo.toInt, .int .i64 x.hi.toInt]
      refine (Hb.out _ (B1.alloc (by have hs := B1.size; first | exact hs | omega | (simp; omega)) _)).mono ?_; rintro e w2 ⟨rfl, hb⟩
      have B2 : Below w.heap.size w w2 := (B1.alloc (by have hs := B1.size; first | exact hs | omega | (simp; omega)) _).trans (hb.mono (by have hs := B1.size; first | exact hs | omega | (simp; omega)))
      try clear cba lba fba
      try clear cbb lbb fbb
      try clear cbr lbr fbr
      replace ba := ((ba.alloc _)).later hb
      replace bb := ((bb.alloc _)).later hb
      replace br := ((br.alloc _)).later hb
      replace bx := bx.later hb
      clear hb
      obtain ⟨cbx, lbx, fbx⟩ := bx.all
      obtain ⟨cba, lba, fba⟩ := ba.all
      obtain ⟨cbb, lbb, fbb⟩ := bb.all
      obtain ⟨cbr, lbr, fbr⟩ := br.all
      go_wp2_with fail
      have hF := (((((((br.set_ 0 (.int .i64 0)).set_ 1 (.int .i64 (0))).set_ 2 (.int .i64 0)).set_ 3 (.string ⟨#[]⟩)).set_ 4 (.int .i64 0)).set_ 5 (.int .i64 0)).alloc (.cells #[.int .i64 0, .int .i64 0] 74))
      have cF := hF.cell
      refine bodyPost_ret (v := .tuple #[.agg #[.int .i64 0, .int .i64 0, .int .i64 0, .string ⟨#[]⟩, .int .i64 0, .int .i64 0], .int .i64 104]) ?_ rfl ⟨?_, ?_⟩
      ·simp [results, Tryz.results71, go_sem, cF]
      ·rfl
      ·repeat' first | with_reducible exact B2 | with_reducible refine Below.setCell ?_ (by have hs := B2.size; first | omega | (simp; omega) | simp) _ | with_reducible refine Below.alloc ?_ (by have hs := B2.size; first | omega | (simp; omega) | simp) _
     ·skip
      obtain ⟨ba, bb, br, B0⟩ := boxes3 w 76 #[.int .i64 ka, .int .i64 na, .int .i64 0, .string sa, .int .i64 la, .int .i64 ha] 76 #[.int .i64 kb, .int .i64 nb, .int .i64 0, .string sb, .int .i64 lb, .int .i64 hb] 76 #[.int .i64 0, .int .i64 0, .int .i64 0, .string ⟨#[]⟩, .int .i64 0, .int .i64 0]
      go_enter Tryz.func71, Tryz.ntmps71
      go_wp2_with fail
      refine (Ha.out _ B0).mono ?_; rintro e w1 ⟨rfl, hb⟩
      have B1 : Below w.heap.size w w1 := B0.trans (hb.mono B0.size)
      try clear cba lba fba
      try clear cbb lbb fbb
      try clear cbr lbr fbr
      replace ba := (ba).later hb
      replace bb := (bb).later hb
      replace br := (br).later hb
      clear hb
      obtain ⟨cba, lba, fba⟩ := ba.all
      obtain ⟨cbb, lbb, fbb⟩ := bb.all
      obtain ⟨cbr, lbr, fbr⟩ := br.all
      go_wp2_with fail
      have bx := Blk.new w1 74 #[.int .i64 x.lo.toInt, .int .i64 x.hi.toInt]
      refine (Hb.out _ (B1.alloc (by have hs := B1.size; first | exact hs | omega | (simp; omega)) _)).mono ?_; rintro e w2 ⟨rfl, hb⟩
      have B2 : Below w.heap.size w w2 := (B1.alloc (by have hs := B1.size; first | exact hs | omega | (simp; omega)) _).trans (hb.mono (by have hs := B1.size; first | exact hs | omega | (simp; omega)))
      try clear cba lba fba
      try clear cbb lbb fbb
      try clear cbr lbr fbr
      replace ba := ((ba.alloc _)).later hb
      replace bb := ((bb.alloc _)).later hb
      replace br := ((br.alloc _)).later hb
      replace bx := bx.later hb
      clear hb
      obtain ⟨cbx, lbx, fbx⟩ := bx.all
      obtain ⟨cba, lba, fba⟩ := ba.all
      obtain ⟨cbb, lbb, fbb⟩ := bb.all
      obtain ⟨cbr, lbr, fbr⟩ := br.all
      go_wp2_with fail
      have hF := (((((((br.set_ 0 (.int .i64 0)).set_ 1 (.int .i64 (0))).set_ 2 (.int .i64 0)).set_ 3 (.string ⟨#[]⟩)).set_ 4 (.int .i64 0)).set_ 5 (.int .i64 0)).alloc (.cells #[.int .i64 0, .int .i64 0] 74))
      have cF := hF.cell
      refine bodyPost_ret (v := .tuple #[.agg #[.int .i64 0, .int .i64 0, .int .i64 0, .string ⟨#[]⟩, .int .i64 0, .int .i64 0], .int .i64 104]) ?_ rfl ⟨?_, ?_⟩
      ·simp [results, Tryz.results71, go_sem, cF]
      ·rfl
      ·repeat' first | with_reducible exact B2 | with_reducible refine Below.setCell ?_ (by have hs := B2.size; first | omega | (simp; omega) | simp) _ | with_reducible refine Below.alloc ?_ (by have hs := B2.size; first | omega | (simp; omega) | simp) _
   | some y =>
     rw [setV_some] at Ca Cb
     have Ha := Lib.hid Ca
     clear Ca
     have Hb := Lib.hid Cb
     clear Cb
     obtain rfl | rfl | rfl := hop
     ·have HR : Hid (setsR 52 (some x) (some y) = (.set (x.or_ y), 0)) := by show _ = _; simp [setsR]
      rw [HR.out]
      clear HR
      have HU : Hid (∀ W : World, Calls Tryz.prog 99 #[.agg #[.int .i64 x.lo.toInt, .int .i64 x.hi.toInt], .agg #[.int .i64 y.lo.toInt, .int .i64 y.hi.toInt]] W fun e w' => e = .returned (.agg #[.int .i64 (x.or_ y).lo.toInt, .int .i64 (x.or_ y).hi.toInt]) ∧ Below W.heap.size W w') := fun W => spec_UnionCsets x y W
      have HL : Hid (∀ W : World, Calls Tryz.prog 93 #[.agg #[.int .i64 (x.or_ y).lo.toInt, .int .i64 (x.or_ y).hi.toInt]] W fun e w' => e = .returned (.agg #[.int .i64 3, .int .i64 (0), .int .i64 0, .string ⟨#[]⟩, .int .i64 (x.or_ y).lo.toInt, .int .i64 (x.or_ y).hi.toInt]) ∧ Below W.heap.size W w') := fun W => spec_l11Cset (x.or_ y) W
      unfold Pair pairV LitT.val
      generalize x.or_ y = z at *
      obtain ⟨ba, bb, br, B0⟩ := boxes3 w 76 #[.int .i64 ka, .int .i64 na, .int .i64 0, .string sa, .int .i64 la, .int .i64 ha] 76 #[.int .i64 kb, .int .i64 nb, .int .i64 0, .string sb, .int .i64 lb, .int .i64 hb] 76 #[.int .i64 0, .int .i64 0, .int .i64 0, .string ⟨#[]⟩, .int .i64 0, .int .i64 0]
      go_enter Tryz.func71, Tryz.ntmps71
      go_wp2_with fail
      refine (Ha.out _ B0).mono ?_; rintro e w1 ⟨rfl, hb⟩
      have B1 : Below w.heap.size w w1 := B0.trans (hb.mono B0.size)
      try clear cba lba fba
      try clear cbb lbb fbb
      try clear cbr lbr fbr
      replace ba := (ba).later hb
      replace bb := (bb).later hb
      replace br := (br).later hb
      clear hb
      obtain ⟨cba, lba, fba⟩ := ba.all
      obtain ⟨cbb, lbb, fbb⟩ := bb.all
      obtain ⟨cbr, lbr, fbr⟩ := br.all
      go_wp2_with fail
      have bx := Blk.new w1 74 #[.int .i64 x.lo.toInt, .int .i64 x.hi.toInt]
      refine (Hb.out _ (B1.alloc (by have hs := B1.size; first | exact hs | omega | (simp; omega)) _)).mono ?_; rintro e w2 ⟨rfl, hb⟩
      have B2 : Below w.heap.size w w2 := (B1.alloc (by have hs := B1.size; first | exact hs | omega | (simp; omega)) _).trans (hb.mono (by have hs := B1.size; first | exact hs | omega | (simp; omega)))
      try clear cba lba fba
      try clear cbb lbb fbb
      try clear cbr lbr fbr
      replace ba := ((ba.alloc _)).later hb
      replace bb := ((bb.alloc _)).later hb
      replace br := ((br.alloc _)).later hb
      replace bx := bx.later hb
      clear hb
      obtain ⟨cbx, lbx, fbx⟩ := bx.all
      obtain ⟨cba, lba, fba⟩ := ba.all
      obtain ⟨cbb, lbb, fbb⟩ := bb.all
      obtain ⟨cbr, lbr, fbr⟩ := br.all
      go_wp2_with fail
      refine (HU.out _).mono ?_; rintro e w3 ⟨rfl, hb⟩
      have B3 : Below w.heap.size w w3 := (B2.alloc (by have hs := B2.size; first | exact hs | omega | (simp; omega)) _).trans (hb.mono (by have hs := B2.size; first | exact hs | omega | (simp; omega)))
      try clear cbx lbx fbx
      try clear cba lba fba
      try clear cbb lbb fbb
      try clear cbr lbr fbr
      replace bx := ((bx.alloc _)).later hb
      replace ba := ((ba.alloc _)).later hb
      replace bb := ((bb.alloc _)).later hb
      replace br := ((br.alloc _)).later hb
      clear hb
      obtain ⟨cbx, lbx, fbx⟩ := bx.all
      obtain ⟨cba, lba, fba⟩ := ba.all
      obtain ⟨cbb, lbb, fbb⟩ := bb.all
      obtain ⟨cbr, lbr, fbr⟩ := br.all
      go_wp2_with fail
      refine (HL.out _).mono ?_; rintro e w4 ⟨rfl, hb⟩
      have B4 : Below w.heap.size w w4 := B3.trans (hb.mono B3.size)
      try clear cbx lbx fbx
      try clear cba lba fba
      try clear cbb lbb fbb
      try clear cbr lbr fbr
      replace bx := (bx).later hb
      replace ba := (ba).later hb
      replace bb := (bb).later hb
      replace br := (br).later hb
      clear hb
      obtain ⟨cbx, lbx, fbx⟩ := bx.all
      obtain ⟨cba, lba, fba⟩ := ba.all
      obtain ⟨cbb, lbb, fbb⟩ := bb.all
      obtain ⟨cbr, lbr, fbr⟩ := br.all
      go_wp2_with fail
      have hF := ((((((br.set_ 0 (.int .i64 3)).set_ 1 (.int .i64 (0))).set_ 2 (.int .i64 0)).set_ 3 (.string ⟨#[]⟩)).set_ 4 (.int .i64 z.lo.toInt)).set_ 5 (.int .i64 z.hi.toInt))
      have cF := hF.cell
      refine bodyPost_ret (v := .tuple #[.agg #[.int .i64 3, .int .i64 (0), .int .i64 0, .string ⟨#[]⟩, .int .i64 z.lo.toInt, .int .i64 z.hi.toInt], .int .i64 0]) ?_ rfl ⟨?_, ?_⟩
      ·simp [results, Tryz.results71, go_sem, cF]
      ·rfl
      ·repeat' first | with_reducible exact B4 | with_reducible refine Below.setCell ?_ (by have hs := B4.size; first | omega | (simp; omega) | simp) _ | with_reducible refine Below.alloc ?_ (by have hs := B4.size; first | omega | (simp; omega) | simp) _
     ·have HR : Hid (setsR 53 (some x) (some y) = (.set (x.sub_ y), 0)) := by show _ = _; simp [setsR]
      rw [HR.out]
      clear HR
      have HU : Hid (∀ W : World, Calls Tryz.prog 100 #[.agg #[.int .i64 x.lo.toInt, .int .i64 x.hi.toInt], .agg #[.int .i64 y.lo.toInt, .int .i64 y.hi.toInt]] W fun e w' => e = .returned (.agg #[.int .i64 (x.sub_ y).lo.toInt, .int .i64 (x.sub_ y).hi.toInt]) ∧ Below W.heap.size W w') := fun W => spec_SubtractCsets x y W
      have HL : Hid (∀ W : World, Calls Tryz.prog 93 #[.agg #[.int .i64 (x.sub_ y).lo.toInt, .int .i64 (x.sub_ y).hi.toInt]] W fun e w' => e = .returned (.agg #[.int .i64 3, .int .i64 (0), .int .i64 0, .string ⟨#[]⟩, .int .i64 (x.sub_ y).lo.toInt, .int .i64 (x.sub_ y).hi.toInt]) ∧ Below W.heap.size W w') := fun W => spec_l11Cset (x.sub_ y) W
      unfold Pair pairV LitT.val
      generalize x.sub_ y = z at *
      obtain ⟨ba, bb, br, B0⟩ := boxes3 w 76 #[.int .i64 ka, .int .i64 na, .int .i64 0, .string sa, .int .i64 la, .int .i64 ha] 76 #[.int .i64 kb, .int .i64 nb, .int .i64 0, .string sb, .int .i64 lb, .int .i64 hb] 76 #[.int .i64 0, .int .i64 0, .int .i64 0, .string ⟨#[]⟩, .int .i64 0, .int .i64 0]
      go_enter Tryz.func71, Tryz.ntmps71
      go_wp2_with fail
      refine (Ha.out _ B0).mono ?_; rintro e w1 ⟨rfl, hb⟩
      have B1 : Below w.heap.size w w1 := B0.trans (hb.mono B0.size)
      try clear cba lba fba
      try clear cbb lbb fbb
      try clear cbr lbr fbr
      replace ba := (ba).later hb
      replace bb := (bb).later hb
      replace br := (br).later hb
      clear hb
      obtain ⟨cba, lba, fba⟩ := ba.all
      obtain ⟨cbb, lbb, fbb⟩ := bb.all
      obtain ⟨cbr, lbr, fbr⟩ := br.all
      go_wp2_with fail
      have bx := Blk.new w1 74 #[.int .i64 x.lo.toInt, .int .i64 x.hi.toInt]
      refine (Hb.out _ (B1.alloc (by have hs := B1.size; first | exact hs | omega | (simp; omega)) _)).mono ?_; rintro e w2 ⟨rfl, hb⟩
      have B2 : Below w.heap.size w w2 := (B1.alloc (by have hs := B1.size; first | exact hs | omega | (simp; omega)) _).trans (hb.mono (by have hs := B1.size; first | exact hs | omega | (simp; omega)))
      try clear cba lba fba
      try clear cbb lbb fbb
      try clear cbr lbr fbr
      replace ba := ((ba.alloc _)).later hb
      replace bb := ((bb.alloc _)).later hb
      replace br := ((br.alloc _)).later hb
      replace bx := bx.later hb
      clear hb
      obtain ⟨cbx, lbx, fbx⟩ := bx.all
      obtain ⟨cba, lba, fba⟩ := ba.all
      obtain ⟨cbb, lbb, fbb⟩ := bb.all
      obtain ⟨cbr, lbr, fbr⟩ := br.all
      go_wp2_with fail
      refine (HU.out _).mono ?_; rintro e w3 ⟨rfl, hb⟩
      have B3 : Below w.heap.size w w3 := (B2.alloc (by have hs := B2.size; first | exact hs | omega | (simp; omega)) _).trans (hb.mono (by have hs := B2.size; first | exact hs | omega | (simp; omega)))
      try clear cbx lbx fbx
      try clear cba lba fba
      try clear cbb lbb fbb
      try clear cbr lbr fbr
      replace bx := ((bx.alloc _)).later hb
      replace ba := ((ba.alloc _)).later hb
      replace bb := ((bb.alloc _)).later hb
      replace br := ((br.alloc _)).later hb
      clear hb
      obtain ⟨cbx, lbx, fbx⟩ := bx.all
      obtain ⟨cba, lba, fba⟩ := ba.all
      obtain ⟨cbb, lbb, fbb⟩ := bb.all
      obtain ⟨cbr, lbr, fbr⟩ := br.all
      go_wp2_with fail
      refine (HL.out _).mono ?_; rintro e w4 ⟨rfl, hb⟩
      have B4 : Below w.heap.size w w4 := B3.trans (hb.mono B3.size)
      try clear cbx lbx fbx
      try clear cba lba fba
      try clear cbb lbb fbb
      try clear cbr lbr fbr
      replace bx := (bx).later hb
      replace ba := (ba).later hb
      replace bb := (bb).later hb
      replace br := (br).later hb
      clear hb
      obtain ⟨cbx, lbx, fbx⟩ := bx.all
      obtain ⟨cba, lba, fba⟩ := ba.all
      obtain ⟨cbb, lbb, fbb⟩ := bb.all
      obtain ⟨cbr, lbr, fbr⟩ := br.all
      go_wp2_with fail
      have hF := ((((((br.set_ 0 (.int .i64 3)).set_ 1 (.int .i64 (0))).set_ 2 (.int .i64 0)).set_ 3 (.string ⟨#[]⟩)).set_ 4 (.int .i64 z.lo.toInt)).set_ 5 (.int .i64 z.hi.toInt))
      have cF := hF.cell
      refine bodyPost_ret (v := .tuple #[.agg #[.int .i64 3, .int .i64 (0), .int .i64 0, .string ⟨#[]⟩, .int .i64 z.lo.toInt, .int .i64 z.hi.toInt], .int .i64 0]) ?_ rfl ⟨?_, ?_⟩
      ·simp [results, Tryz.results71, go_sem, cF]
      ·rfl
      ·repeat' first | with_reducible exact B4 | with_reducible refine Below.setCell ?_ (by have hs := B4.size; first | omega | (simp; omega) | simp) _ | with_reducible refine Below.alloc ?_ (by have hs := B4.size; first | omega | (simp; omega) | simp) _
     ·have HR : Hid (setsR 54 (some x) (some y) = (.set (x.and_ y), 0)) := by show _ = _; simp [setsR]
      rw [HR.out]
      clear HR
      have HU : Hid (∀ W : World, Calls Tryz.prog 101 #[.agg #[.int .i64 x.lo.toInt, .int .i64 x.hi.toInt], .agg #[.int .i64 y.lo.toInt, .int .i64 y.hi.toInt]] W fun e w' => e = .returned (.agg #[.int .i64 (x.and_ y).lo.toInt, .int .i64 (x.and_ y).hi.toInt]) ∧ Below W.heap.size W w') := fun W => spec_IntersectCsets x y W
      have HL : Hid (∀ W : World, Calls Tryz.prog 93 #[.agg #[.int .i64 (x.and_ y).lo.toInt, .int .i64 (x.and_ y).hi.toInt]] W fun e w' => e = .returned (.agg #[.int .i64 3, .int .i64 (0), .int .i64 0, .string ⟨#[]⟩, .int .i64 (x.and_ y).lo.toInt, .int .i64 (x.and_ y).hi.toInt]) ∧ Below W.heap.size W w') := fun W => spec_l11Cset (x.and_ y) W
      unfold Pair pairV LitT.val
      generalize x.and_ y = z at *
      obtain ⟨ba, bb, br, B0⟩ := boxes3 w 76 #[.int .i64 ka, .int .i64 na, .int .i64 0, .string sa, .int .i64 la, .int .i64 ha] 76 #[.int .i64 kb, .int .i64 nb, .int .i64 0, .string sb, .int .i64 lb, .int .i64 hb] 76 #[.int .i64 0, .int .i64 0, .int .i64 0, .string ⟨#[]⟩, .int .i64 0, .int .i64 0]
      go_enter Tryz.func71, Tryz.ntmps71
      go_wp2_with fail
      refine (Ha.out _ B0).mono ?_; rintro e w1 ⟨rfl, hb⟩
      have B1 : Below w.heap.size w w1 := B0.trans (hb.mono B0.size)
      try clear cba lba fba
      try clear cbb lbb fbb
      try clear cbr lbr fbr
      replace ba := (ba).later hb
      replace bb := (bb).later hb
      replace br := (br).later hb
      clear hb
      obtain ⟨cba, lba, fba⟩ := ba.all
      obtain ⟨cbb, lbb, fbb⟩ := bb.all
      obtain ⟨cbr, lbr, fbr⟩ := br.all
      go_wp2_with fail
      have bx := Blk.new w1 74 #[.int .i64 x.lo.toInt, .int .i64 x.hi.toInt]
      refine (Hb.out _ (B1.alloc (by have hs := B1.size; first | exact hs | omega | (simp; omega)) _)).mono ?_; rintro e w2 ⟨rfl, hb⟩
      have B2 : Below w.heap.size w w2 := (B1.alloc (by have hs := B1.size; first | exact hs | omega | (simp; omega)) _).trans (hb.mono (by have hs := B1.size; first | exact hs | omega | (simp; omega)))
      try clear cba lba fba
      try clear cbb lbb fbb
      try clear cbr lbr fbr
      replace ba := ((ba.alloc _)).later hb
      replace bb := ((bb.alloc _)).later hb
      replace br := ((br.alloc _)).later hb
      replace bx := bx.later hb
      clear hb
      obtain ⟨cbx, lbx, fbx⟩ := bx.all
      obtain ⟨cba, lba, fba⟩ := ba.all
      obtain ⟨cbb, lbb, fbb⟩ := bb.all
      obtain ⟨cbr, lbr, fbr⟩ := br.all
      go_wp2_with fail
      refine (HU.out _).mono ?_; rintro e w3 ⟨rfl, hb⟩
      have B3 : Below w.heap.size w w3 := (B2.alloc (by have hs := B2.size; first | exact hs | omega | (simp; omega)) _).trans (hb.mono (by have hs := B2.size; first | exact hs | omega | (simp; omega)))
      try clear cbx lbx fbx
      try clear cba lba fba
      try clear cbb lbb fbb
      try clear cbr lbr fbr
      replace bx := ((bx.alloc _)).later hb
      replace ba := ((ba.alloc _)).later hb
      replace bb := ((bb.alloc _)).later hb
      replace br := ((br.alloc _)).later hb
      clear hb
      obtain ⟨cbx, lbx, fbx⟩ := bx.all
      obtain ⟨cba, lba, fba⟩ := ba.all
      obtain ⟨cbb, lbb, fbb⟩ := bb.all
      obtain ⟨cbr, lbr, fbr⟩ := br.all
      go_wp2_with fail
      refine (HL.out _).mono ?_; rintro e w4 ⟨rfl, hb⟩
      have B4 : Below w.heap.size w w4 := B3.trans (hb.mono B3.size)
      try clear cbx lbx fbx
      try clear cba lba fba
      try clear cbb lbb fbb
      try clear cbr lbr fbr
      replace bx := (bx).later hb
      replace ba := (ba).later hb
      replace bb := (bb).later hb
      replace br := (br).later hb
      clear hb
      obtain ⟨cbx, lbx, fbx⟩ := bx.all
      obtain ⟨cba, lba, fba⟩ := ba.all
      obtain ⟨cbb, lbb, fbb⟩ := bb.all
      obtain ⟨cbr, lbr, fbr⟩ := br.all
      go_wp2_with fail
      have hF := ((((((br.set_ 0 (.int .i64 3)).set_ 1 (.int .i64 (0))).set_ 2 (.int .i64 0)).set_ 3 (.string ⟨#[]⟩)).set_ 4 (.int .i64 z.lo.toInt)).set_ 5 (.int .i64 z.hi.toInt))
      have cF := hF.cell
      refine bodyPost_ret (v := .tuple #[.agg #[.int .i64 3, .int .i64 (0), .int .i64 0, .string ⟨#[]⟩, .int .i64 z.lo.toInt, .int .i64 z.hi.toInt], .int .i64 0]) ?_ rfl ⟨?_, ?_⟩
      ·simp [results, Tryz.results71, go_sem, cF]
      ·rfl
      ·repeat' first | with_reducible exact B4 | with_reducible refine Below.setCell ?_ (by have hs := B4.size; first | omega | (simp; omega) | simp) _ | with_reducible refine Below.alloc ?_ (by have hs := B4.size; first | omega | (simp; omega) | simp) _
theorem spec_Unary (op : Int) (a : LitT) (a0 : a.Ok) (w : World) (hop : op = 1 ∨ op = 2 ∨ op = 6) : Calls Tryz.prog 70 #[.int .i64 op, a.val] w (Pair (unR op a) w) := by
 by_cases h6 : op = 6
 ·subst h6
  obtain ⟨ka, na, sa, la, ha, ea⟩ := a.form
  have Ca : ∀ W : World, Below w.heap.size w W → Calls Tryz.prog 94 #[a.val] W (Gives (setV a.toSet) W) := fun W hW => spec_ToCset a a0 W
  generalize hra : a.toSet = ra at *
  rw [ea] at Ca ⊢
  cases ra with
  | none =>
    rw [setV_none] at Ca
    rw [unR6_none hra]
    have Ha := Lib.hid Ca
    clear Ca
    unfold Pair pairV LitT.val
    obtain ⟨ba, br, B0⟩ := boxes2 w 76 #[.int .i64 ka, .int .i64 na, .int .i64 0, .string sa, .int .i64 la, .int .i64 ha] 76 #[.int .i64 0, .int .i64 0, .int .i64 0, .string ⟨#[]⟩, .int .i64 0, .int .i64 0]
    go_enter Tryz.func70, Tryz.ntmps70
    go_wp2_with fail
    refine (Ha.out _ B0).mono ?_; rintro e w1 ⟨rfl, hb⟩
    have B1 : Below w.heap.size w w1 := B0.trans (hb.mono B0.size)
    try clear cba lba fba
    try clear cbr lbr fbr
    replace ba := (ba).later hb
    replace br := (br).later hb
    clear hb
    obtain ⟨cba, lba, fba⟩ := ba.all
    obtain ⟨cbr, lbr, fbr⟩ := br.all
    go_wp2_with fail
    have hF := (((((((br.set_ 0 (.int .i64 0)).set_ 1 (.int .i64 (0))).set_ 2 (.int .i64 0)).set_ 3 (.string ⟨#[]⟩)).set_ 4 (.int .i64 0)).set_ 5 (.int .i64 0)).alloc (.cells #[.int .i64 0, .int .i64 0] 74))
    have cF := hF.cell
    refine bodyPost_ret (v := .tuple #[.agg #[.int .i64 0, .int .i64 0, .int .i64 0, .string ⟨#[]⟩, .int .i64 0, .int .i64 0], .int .i64 104]) ?_ rfl ⟨?_, ?_⟩
    ·simp [results, Tryz.results70, go_sem, cF]
    ·rfl
    ·repeat' first | with_reducible exact B1 | with_reducible refine Below.setCell ?_ (by have hs := B1.size; first | omega | (simp; omega) | simp) _ | with_reducible refine Below.alloc ?_ (by have hs := B1.size; first | omega | (simp; omega) | simp) _
  | some x =>
    rw [setV_some] at Ca
    rw [unR6_some hra]
    have Ha := Lib.hid Ca
    clear Ca
    have HN : Hid (∀ W : World, Calls Tryz.prog 95 #[.agg #[.int .i64 x.lo.toInt, .int .i64 x.hi.toInt]] W fun e w' => e = .returned (.agg #[.int .i64 x.not_.lo.toInt, .int .i64 x.not_.hi.toInt]) ∧ Below W.heap.size W w') := fun W => spec_ComplementCset x W
    have HL : Hid (∀ W : World, Calls Tryz.prog 93 #[.agg #[.int .i64 x.not_.lo.toInt, .int .i64 x.not_.hi.toInt]] W fun e w' => e = .returned (.agg #[.int .i64 3, .int .i64 (0), .int .i64 0, .string ⟨#[]⟩, .int .i64 x.not_.lo.toInt, .int .i64 x.not_.hi.toInt]) ∧ Below W.heap.size W w') := fun W => spec_l11Cset x.not_ W
    unfold Pair pairV LitT.val
    skip
    generalize x.not_ = z at *
    obtain ⟨ba, br, B0⟩ := boxes2 w 76 #[.int .i64 ka, .int .i64 na, .int .i64 0, .string sa, .int .i64 la, .int .i64 ha] 76 #[.int .i64 0, .int .i64 0, .int .i64 0, .string ⟨#[]⟩, .int .i64 0, .int .i64 0]
    go_enter Tryz.func70, Tryz.ntmps70
    go_wp2_with fail
    refine (Ha.out _ B0).mono ?_; rintro e w1 ⟨rfl, hb⟩
    have B1 : Below w.heap.size w w1 := B0.trans (hb.mono B0.size)
    try clear cba lba fba
    try clear cbr lbr fbr
    replace ba := (ba).later hb
    replace br := (br).later hb
    clear hb
    obtain ⟨cba, lba, fba⟩ := ba.all
    obtain ⟨cbr, lbr, fbr⟩ := br.all
    go_wp2_with fail
    refine (HN.out _).mono ?_; rintro e w2 ⟨rfl, hb⟩
    have B2 : Below w.heap.size w w2 := (B1.alloc (by have hs := B1.size; first | exact hs | omega | (simp; omega)) _).trans (hb.mono (by have hs := B1.size; first | exact hs | omega | (simp; omega)))
    try clear cba lba fba
    try clear cbr lbr fbr
    replace ba := ((ba.alloc _)).later hb
    replace br := ((br.alloc _)).later hb
    clear hb
    obtain ⟨cba, lba, fba⟩ := ba.all
    obtain ⟨cbr, lbr, fbr⟩ := br.all
    go_wp2_with fail
    refine (HL.out _).mono ?_; rintro e w3 ⟨rfl, hb⟩
    have B3 : Below w.heap.size w w3 := B2.trans (hb.mono B2.size)
    try clear cba lba fba
    try clear cbr lbr fbr
    replace ba := (ba).later hb
    replace br := (br).later hb
    clear hb
    obtain ⟨cba, lba, fba⟩ := ba.all
    obtain ⟨cbr, lbr, fbr⟩ := br.all
    go_wp2_with fail
    have hF := ((((((br.set_ 0 (.int .i64 3)).set_ 1 (.int .i64 (0))).set_ 2 (.int .i64 0)).set_ 3 (.string ⟨#[]⟩)).set_ 4 (.int .i64 z.lo.toInt)).set_ 5 (.int .i64 z.hi.toInt))
    have cF := hF.cell
    refine bodyPost_ret (v := .tuple #[.agg #[.int .i64 3, .int .i64 (0), .int .i64 0, .string ⟨#[]⟩, .int .i64 z.lo.toInt, .int .i64 z.hi.toInt], .int .i64 0]) ?_ rfl ⟨?_, ?_⟩
    ·simp [results, Tryz.results70, go_sem, cF]
    ·rfl
    ·repeat' first | with_reducible exact B3 | with_reducible refine Below.setCell ?_ (by have hs := B3.size; first | omega | (simp; omega) | simp) _ | with_reducible refine Below.alloc ?_ (by have hs := B3.size; first | omega | (simp; omega) | simp) _
 obtain ⟨ka, na, sa, la, ha, ea⟩ := a.form
 have Ca : ∀ W : World, Below w.heap.size w W → Calls Tryz.prog 96 #[a.val] W (Gives (pairOf a.toInt) W) := fun W hW => spec_ToInteger a a0 W
 generalize hra : a.toInt = ra at *
 rw [ea] at Ca ⊢
 have bda : ∀ x, ra = some x → x.natAbs ≤ 999999999999 := fun x h => by have := toInt_bd a0 (hra.trans h); omega
 have f6 : (op == 6) = false := beq_eq_false_iff_ne.2 h6
 cases ra with
 | none =>
   unfold pairOf at Ca
   rw [unR_none h6 hra]
   have Ha := Lib.hid Ca
   clear Ca
   obtain rfl | rfl : op = 1 ∨ op = 2 := by omega
   ·unfold Pair pairV LitT.val
    obtain ⟨ba, br, B0⟩ := boxes2 w 76 #[.int .i64 ka, .int .i64 na, .int .i64 0, .string sa, .int .i64 la, .int .i64 ha] 76 #[.int .i64 0, .int .i64 0, .int .i64 0, .string ⟨#[]⟩, .int .i64 0, .int .i64 0]
    go_enter Tryz.func70, Tryz.ntmps70
    go_wp2_with fail
    refine (Ha.out _ B0).mono ?_; rintro e w1 ⟨rfl, hb⟩
    have B1 : Below w.heap.size w w1 := B0.trans (hb.mono B0.size)
    try clear cba lba fba
    try clear cbr lbr fbr
    replace ba := (ba).later hb
    replace br := (br).later hb
    clear hb
    obtain ⟨cba, lba, fba⟩ := ba.all
    obtain ⟨cbr, lbr, fbr⟩ := br.all
    go_wp2_with fail
    refine bodyPost_ret (v := .tuple #[.agg #[.int .i64 0, .int .i64 0, .int .i64 0, .string ⟨#[]⟩, .int .i64 0, .int .i64 0], .int .i64 101]) ?_ rfl ⟨?_, ?_⟩
    ·simp [results, Tryz.results70, go_sem, cbr]
    ·rfl
    ·repeat' first | with_reducible exact B1 | with_reducible refine Below.setCell ?_ (by have hs := B1.size; first | omega | (simp; omega) | simp) _ | with_reducible refine Below.alloc ?_ (by have hs := B1.size; first | omega | (simp; omega) | simp) _
   ·unfold Pair pairV LitT.val
    obtain ⟨ba, br, B0⟩ := boxes2 w 76 #[.int .i64 ka, .int .i64 na, .int .i64 0, .string sa, .int .i64 la, .int .i64 ha] 76 #[.int .i64 0, .int .i64 0, .int .i64 0, .string ⟨#[]⟩, .int .i64 0, .int .i64 0]
    go_enter Tryz.func70, Tryz.ntmps70
    go_wp2_with fail
    refine (Ha.out _ B0).mono ?_; rintro e w1 ⟨rfl, hb⟩
    have B1 : Below w.heap.size w w1 := B0.trans (hb.mono B0.size)
    try clear cba lba fba
    try clear cbr lbr fbr
    replace ba := (ba).later hb
    replace br := (br).later hb
    clear hb
    obtain ⟨cba, lba, fba⟩ := ba.all
    obtain ⟨cbr, lbr, fbr⟩ := br.all
    go_wp2_with fail
    refine bodyPost_ret (v := .tuple #[.agg #[.int .i64 0, .int .i64 0, .int .i64 0, .string ⟨#[]⟩, .int .i64 0, .int .i64 0], .int .i64 101]) ?_ rfl ⟨?_, ?_⟩
    ·simp [results, Tryz.results70, go_sem, cbr]
    ·rfl
    ·repeat' first | with_reducible exact B1 | with_reducible refine Below.setCell ?_ (by have hs := B1.size; first | omega | (simp; omega) | simp) _ | with_reducible refine Below.alloc ?_ (by have hs := B1.size; first | omega | (simp; omega) | simp) _
 | some x =>
   have hx := bda x rfl
   unfold pairOf at Ca
   rw [unR_some h6 hra]
   have Ha := Lib.hid Ca
   clear Ca
   obtain rfl | rfl : op = 1 ∨ op = 2 := by omega
   ·have HR : (LitT.int (if (1 : Int) = 1 then -x else x), (0 : Int)) = (.int (-x), 0) := by rw [if_pos rfl]
    show Calls _ _ _ _ (Pair (LitT.int (if (1 : Int) = 1 then -x else x), (0 : Int)) w)
    rw [HR]
    have HL : Hid (∀ W : World, Calls Tryz.prog 91 #[.int .i64 (-x)] W fun e w' => e = .returned (.agg #[.int .i64 1, .int .i64 (-x), .int .i64 0, .string ⟨#[]⟩, .int .i64 0, .int .i64 0]) ∧ Below W.heap.size W w') := fun W => spec_l11Int (-x) W
    unfold Pair pairV LitT.val
    obtain ⟨ba, br, B0⟩ := boxes2 w 76 #[.int .i64 ka, .int .i64 na, .int .i64 0, .string sa, .int .i64 la, .int .i64 ha] 76 #[.int .i64 0, .int .i64 0, .int .i64 0, .string ⟨#[]⟩, .int .i64 0, .int .i64 0]
    go_enter Tryz.func70, Tryz.ntmps70
    go_wp2_with fail
    refine (Ha.out _ B0).mono ?_; rintro e w1 ⟨rfl, hb⟩
    have B1 : Below w.heap.size w w1 := B0.trans (hb.mono B0.size)
    try clear cba lba fba
    try clear cbr lbr fbr
    replace ba := (ba).later hb
    replace br := (br).later hb
    clear hb
    obtain ⟨cba, lba, fba⟩ := ba.all
    obtain ⟨cbr, lbr, fbr⟩ := br.all
    go_wp2_with fail
    refine (HL.out _).mono ?_; rintro e w2 ⟨rfl, hb⟩
    have B2 : Below w.heap.size w w2 := B1.trans (hb.mono B1.size)
    try clear cba lba fba
    try clear cbr lbr fbr
    replace ba := (ba).later hb
    replace br := (br).later hb
    clear hb
    obtain ⟨cba, lba, fba⟩ := ba.all
    obtain ⟨cbr, lbr, fbr⟩ := br.all
    go_wp2_with fail
    have hF := ((((((br.set_ 0 (.int .i64 1)).set_ 1 (.int .i64 (-x))).set_ 2 (.int .i64 0)).set_ 3 (.string ⟨#[]⟩)).set_ 4 (.int .i64 0)).set_ 5 (.int .i64 0))
    have cF := hF.cell
    refine bodyPost_ret (v := .tuple #[.agg #[.int .i64 1, .int .i64 (-x), .int .i64 0, .string ⟨#[]⟩, .int .i64 0, .int .i64 0], .int .i64 0]) ?_ rfl ⟨?_, ?_⟩
    ·simp [results, Tryz.results70, go_sem, cF]
    ·rfl
    ·repeat' first | with_reducible exact B2 | with_reducible refine Below.setCell ?_ (by have hs := B2.size; first | omega | (simp; omega) | simp) _ | with_reducible refine Below.alloc ?_ (by have hs := B2.size; first | omega | (simp; omega) | simp) _
   ·have HR : (LitT.int (if (2 : Int) = 1 then -x else x), (0 : Int)) = (.int (x), 0) := by rw [if_neg (by decide)]
    show Calls _ _ _ _ (Pair (LitT.int (if (2 : Int) = 1 then -x else x), (0 : Int)) w)
    rw [HR]
    have HL : Hid (∀ W : World, Calls Tryz.prog 91 #[.int .i64 (x)] W fun e w' => e = .returned (.agg #[.int .i64 1, .int .i64 (x), .int .i64 0, .string ⟨#[]⟩, .int .i64 0, .int .i64 0]) ∧ Below W.heap.size W w') := fun W => spec_l11Int (x) W
    unfold Pair pairV LitT.val
    obtain ⟨ba, br, B0⟩ := boxes2 w 76 #[.int .i64 ka, .int .i64 na, .int .i64 0, .string sa, .int .i64 la, .int .i64 ha] 76 #[.int .i64 0, .int .i64 0, .int .i64 0, .string ⟨#[]⟩, .int .i64 0, .int .i64 0]
    go_enter Tryz.func70, Tryz.ntmps70
    go_wp2_with fail
    refine (Ha.out _ B0).mono ?_; rintro e w1 ⟨rfl, hb⟩
    have B1 : Below w.heap.size w w1 := B0.trans (hb.mono B0.size)
    try clear cba lba fba
    try clear cbr lbr fbr
    replace ba := (ba).later hb
    replace br := (br).later hb
    clear hb
    obtain ⟨cba, lba, fba⟩ := ba.all
    obtain ⟨cbr, lbr, fbr⟩ := br.all
    go_wp2_with fail
    refine (HL.out _).mono ?_; rintro e w2 ⟨rfl, hb⟩
    have B2 : Below w.heap.size w w2 := B1.trans (hb.mono B1.size)
    try clear cba lba fba
    try clear cbr lbr fbr
    replace ba := (ba).later hb
    replace br := (br).later hb
    clear hb
    obtain ⟨cba, lba, fba⟩ := ba.all
    obtain ⟨cbr, lbr, fbr⟩ := br.all
    go_wp2_with fail
    have hF := ((((((br.set_ 0 (.int .i64 1)).set_ 1 (.int .i64 (x))).set_ 2 (.int .i64 0)).set_ 3 (.string ⟨#[]⟩)).set_ 4 (.int .i64 0)).set_ 5 (.int .i64 0))
    have cF := hF.cell
    refine bodyPost_ret (v := .tuple #[.agg #[.int .i64 1, .int .i64 (x), .int .i64 0, .string ⟨#[]⟩, .int .i64 0, .int .i64 0], .int .i64 0]) ?_ rfl ⟨?_, ?_⟩
    ·simp [results, Tryz.results70, go_sem, cF]
    ·rfl
    ·repeat' first | with_reducible exact B2 | with_reducible refine Below.setCell ?_ (by have hs := B2.size; first | omega | (simp; omega) | simp) _ | with_reducible refine Below.alloc ?_ (by have hs := B2.size; first | omega | (simp; omega) | simp) _
theorem spec_Binary (op : Int) (a b : LitT) (a0 : a.Ok) (b0 : b.Ok) (w : World) (hop : opOk op = true) (h1 : 20 ≤ op) (h2 : op ≤ 54) (h3 : ¬ op = 51) : Calls Tryz.prog 71 #[.int .i64 op, a.val, b.val] w (Pair (binR op a b) w) := by
 rcases op_cases hop h1 h2 h3 with h | h | rfl | rfl | h
 ·rw [binR_nums (by omega) (by omega)]
  have HC : ∀ W : World, Calls Tryz.prog 97 #[.int .i64 op, a.val, b.val] W (Pair (numsR op a.toInt b.toInt) W) := fun W => spec_nums op a b a0 b0 W h
  obtain ⟨ka, na, sa, la, ha, ea⟩ := a.form
  obtain ⟨kb, nb, sb, lb, hb, eb⟩ := b.form
  rw [ea, eb] at HC ⊢
  generalize numsR op a.toInt b.toInt = r at *
  obtain ⟨v, k⟩ := r
  obtain ⟨kv, nv, sv, lv, hv, ev⟩ := v.form
  unfold Pair pairV at HC ⊢
  simp only [ev] at HC ⊢
  have HCH := Lib.hid HC
  clear HC ea eb ev
  have f46 : (op == 46) = false := beq_eq_false_iff_ne.2 (by omega)
  have f47 : (op == 47) = false := beq_eq_false_iff_ne.2 (by omega)
  rcases h with h | h
  ·skip
   obtain ⟨g1, g2⟩ := h
   obtain ⟨ba, bb, br, B0⟩ := boxes3 w 76 #[.int .i64 ka, .int .i64 na, .int .i64 0, .string sa, .int .i64 la, .int .i64 ha] 76 #[.int .i64 kb, .int .i64 nb, .int .i64 0, .string sb, .int .i64 lb, .int .i64 hb] 76 #[.int .i64 0, .int .i64 0, .int .i64 0, .string ⟨#[]⟩, .int .i64 0, .int .i64 0]
   go_enter Tryz.func71, Tryz.ntmps71
   go_wp2_with fail
   refine (HCH.out _).mono ?_; rintro e w1 ⟨rfl, hb⟩
   have B1 : Below w.heap.size w w1 := B0.trans (hb.mono B0.size)
   try clear cba lba fba
   try clear cbb lbb fbb
   try clear cbr lbr fbr
   replace ba := (ba).later hb
   replace bb := (bb).later hb
   replace br := (br).later hb
   clear hb
   obtain ⟨cba, lba, fba⟩ := ba.all
   obtain ⟨cbb, lbb, fbb⟩ := bb.all
   obtain ⟨cbr, lbr, fbr⟩ := br.all
   go_wp2_with fail
   have hF := ((((((br.set_ 0 (.int .i64 kv)).set_ 1 (.int .i64 (nv))).set_ 2 (.int .i64 0)).set_ 3 (.string sv)).set_ 4 (.int .i64 lv)).set_ 5 (.int .i64 hv))
   have cF := hF.cell
   refine bodyPost_ret (v := .tuple #[.agg #[.int .i64 kv, .int .i64 nv, .int .i64 0, .string sv, .int .i64 lv, .int .i64 hv], .int .i64 k]) ?_ rfl ⟨?_, ?_⟩
   ·simp [results, Tryz.results71, go_sem, cF]
   ·rfl
   ·repeat' first | with_reducible exact B1 | with_reducible refine Below.setCell ?_ (by have hs := B1.size; first | omega | (simp; omega) | simp) _ | with_reducible refine Below.alloc ?_ (by have hs := B1.size; first | omega | (simp; omega) | simp) _
  ·skip
   obtain ⟨g1, g2⟩ := h
   obtain ⟨ba, bb, br, B0⟩ := boxes3 w 76 #[.int .i64 ka, .int .i64 na, .int .i64 0, .string sa, .int .i64 la, .int .i64 ha] 76 #[.int .i64 kb, .int .i64 nb, .int .i64 0, .string sb, .int .i64 lb, .int .i64 hb] 76 #[.int .i64 0, .int .i64 0, .int .i64 0, .string ⟨#[]⟩, .int .i64 0, .int .i64 0]
   go_enter Tryz.func71, Tryz.ntmps71
   go_wp2_with fail
   refine (HCH.out _).mono ?_; rintro e w1 ⟨rfl, hb⟩
   have B1 : Below w.heap.size w w1 := B0.trans (hb.mono B0.size)
   try clear cba lba fba
   try clear cbb lbb fbb
   try clear cbr lbr fbr
   replace ba := (ba).later hb
   replace bb := (bb).later hb
   replace br := (br).later hb
   clear hb
   obtain ⟨cba, lba, fba⟩ := ba.all
   obtain ⟨cbb, lbb, fbb⟩ := bb.all
   obtain ⟨cbr, lbr, fbr⟩ := br.all
   go_wp2_with fail
   have hF := ((((((br.set_ 0 (.int .i64 kv)).set_ 1 (.int .i64 (nv))).set_ 2 (.int .i64 0)).set_ 3 (.string sv)).set_ 4 (.int .i64 lv)).set_ 5 (.int .i64 hv))
   have cF := hF.cell
   refine bodyPost_ret (v := .tuple #[.agg #[.int .i64 kv, .int .i64 nv, .int .i64 0, .string sv, .int .i64 lv, .int .i64 hv], .int .i64 k]) ?_ rfl ⟨?_, ?_⟩
   ·simp [results, Tryz.results71, go_sem, cF]
   ·rfl
   ·repeat' first | with_reducible exact B1 | with_reducible refine Below.setCell ?_ (by have hs := B1.size; first | omega | (simp; omega) | simp) _ | with_reducible refine Below.alloc ?_ (by have hs := B1.size; first | omega | (simp; omega) | simp) _
 ·rw [binR_texts h]
  have HC : ∀ W : World, Calls Tryz.prog 98 #[.int .i64 op, a.val, b.val] W (Pair (textsR op a.toText b.toText) W) := fun W => spec_texts op a b a0 b0 W h
  obtain ⟨ka, na, sa, la, ha, ea⟩ := a.form
  obtain ⟨kb, nb, sb, lb, hb, eb⟩ := b.form
  rw [ea, eb] at HC ⊢
  generalize textsR op a.toText b.toText = r at *
  obtain ⟨v, k⟩ := r
  obtain ⟨kv, nv, sv, lv, hv, ev⟩ := v.form
  unfold Pair pairV at HC ⊢
  simp only [ev] at HC ⊢
  have HCH := Lib.hid HC
  clear HC ea eb ev
  have f46 : (op == 46) = false := beq_eq_false_iff_ne.2 (by omega)
  have f47 : (op == 47) = false := beq_eq_false_iff_ne.2 (by omega)
  rcases h with h | h
  ·skip
   obtain ⟨g1, g2⟩ := h
   obtain ⟨ba, bb, br, B0⟩ := boxes3 w 76 #[.int .i64 ka, .int .i64 na, .int .i64 0, .string sa, .int .i64 la, .int .i64 ha] 76 #[.int .i64 kb, .int .i64 nb, .int .i64 0, .string sb, .int .i64 lb, .int .i64 hb] 76 #[.int .i64 0, .int .i64 0, .int .i64 0, .string ⟨#[]⟩, .int .i64 0, .int .i64 0]
   go_enter Tryz.func71, Tryz.ntmps71
   go_wp2_with fail
   refine (HCH.out _).mono ?_; rintro e w1 ⟨rfl, hb⟩
   have B1 : Below w.heap.size w w1 := B0.trans (hb.mono B0.size)
   try clear cba lba fba
   try clear cbb lbb fbb
   try clear cbr lbr fbr
   replace ba := (ba).later hb
   replace bb := (bb).later hb
   replace br := (br).later hb
   clear hb
   obtain ⟨cba, lba, fba⟩ := ba.all
   obtain ⟨cbb, lbb, fbb⟩ := bb.all
   obtain ⟨cbr, lbr, fbr⟩ := br.all
   go_wp2_with fail
   have hF := ((((((br.set_ 0 (.int .i64 kv)).set_ 1 (.int .i64 (nv))).set_ 2 (.int .i64 0)).set_ 3 (.string sv)).set_ 4 (.int .i64 lv)).set_ 5 (.int .i64 hv))
   have cF := hF.cell
   refine bodyPost_ret (v := .tuple #[.agg #[.int .i64 kv, .int .i64 nv, .int .i64 0, .string sv, .int .i64 lv, .int .i64 hv], .int .i64 k]) ?_ rfl ⟨?_, ?_⟩
   ·simp [results, Tryz.results71, go_sem, cF]
   ·rfl
   ·repeat' first | with_reducible exact B1 | with_reducible refine Below.setCell ?_ (by have hs := B1.size; first | omega | (simp; omega) | simp) _ | with_reducible refine Below.alloc ?_ (by have hs := B1.size; first | omega | (simp; omega) | simp) _
  ·subst h
   obtain ⟨ba, bb, br, B0⟩ := boxes3 w 76 #[.int .i64 ka, .int .i64 na, .int .i64 0, .string sa, .int .i64 la, .int .i64 ha] 76 #[.int .i64 kb, .int .i64 nb, .int .i64 0, .string sb, .int .i64 lb, .int .i64 hb] 76 #[.int .i64 0, .int .i64 0, .int .i64 0, .string ⟨#[]⟩, .int .i64 0, .int .i64 0]
   go_enter Tryz.func71, Tryz.ntmps71
   go_wp2_with fail
   refine (HCH.out _).mono ?_; rintro e w1 ⟨rfl, hb⟩
   have B1 : Below w.heap.size w w1 := B0.trans (hb.mono B0.size)
   try clear cba lba fba
   try clear cbb lbb fbb
   try clear cbr lbr fbr
   replace ba := (ba).later hb
   replace bb := (bb).later hb
   replace br := (br).later hb
   clear hb
   obtain ⟨cba, lba, fba⟩ := ba.all
   obtain ⟨cbb, lbb, fbb⟩ := bb.all
   obtain ⟨cbr, lbr, fbr⟩ := br.all
   go_wp2_with fail
   have hF := ((((((br.set_ 0 (.int .i64 kv)).set_ 1 (.int .i64 (nv))).set_ 2 (.int .i64 0)).set_ 3 (.string sv)).set_ 4 (.int .i64 lv)).set_ 5 (.int .i64 hv))
   have cF := hF.cell
   refine bodyPost_ret (v := .tuple #[.agg #[.int .i64 kv, .int .i64 nv, .int .i64 0, .string sv, .int .i64 lv, .int .i64 hv], .int .i64 k]) ?_ rfl ⟨?_, ?_⟩
   ·simp [results, Tryz.results71, go_sem, cF]
   ·rfl
   ·repeat' first | with_reducible exact B1 | with_reducible refine Below.setCell ?_ (by have hs := B1.size; first | omega | (simp; omega) | simp) _ | with_reducible refine Below.alloc ?_ (by have hs := B1.size; first | omega | (simp; omega) | simp) _
 ·exact spec_bineq46 a b w
 ·exact spec_bineq47 a b w
 ·rw [binR_sets h]; exact spec_sets op a b a0 b0 w h
end Go.Proofs.YtjeomamdlmoghaaGreatDoor
end
