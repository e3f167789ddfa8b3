/- FoldProgram of the program. -/
import Derived.Test.YtjeomamdlmoghaaGreatDoorQ00
import Derived.Test.YtjeomamdlmoghaaGreatDoorQSq
import Derived.Test.YtjeomamdlmoghaaGreatDoorQ10
set_option maxRecDepth 100000
set_option maxHeartbeats 8000000
set_option linter.unusedVariables false
set_option linter.unusedSimpArgs false
section
namespace Go.Proofs.YtjeomamdlmoghaaGreatDoor
open Go.RowKit
theorem impl_FoldProgram_of (tab : World → Prop) (htab : ∀ W W', tab W → Below W.heap.size W W' → tab W') (hv : ∀ (vc : Value) (w : World) (lo hi : Nat) (c : ProgT), SRep w lo hi ProgT.dats vc c → hi ≤ w.heap.size → tab w → c.bulk ≤ 1048576 → Calls Tryz.prog 20 #[vc] w fun e w' => e = .returned (.bool (validProg c)) ∧ Below w.heap.size w w')
 (hfold : ∀ (c : CoreT) (A : Option Addr) (n : Nat) (w : World) (lo hi : Nat), LRep w lo hi 6 CoreT.dats (.slice A c.kids.length n) c.kids → hi ≤ w.heap.size → FoldC c → c.bulk ≤ 1048576 → tab w → Calls Tryz.prog 22 #[.agg #[.int .i64 c.kind, .int .i64 c.op, .int .i64 c.number, .int .i64 c.line, .string c.text, .slice A c.kids.length n]] w (MadeS CoreT.dats (foldT c) w))
 (c : ProgT) (x : Value) (w : World) (lo hi : Nat) (h : SRep w lo hi ProgT.dats x c) (hhi : hi ≤ w.heap.size) (hbk : c.bulk ≤ 1048576) (ht : tab w) :
 Calls Tryz.prog 7 #[x] w (FoldPR c w) := by
 obtain ⟨Aroutines, nroutines, Arecords, nrecords, Aglobals, nglobals, rfl, hr, ur, mr, hd, ud, md, hg, ug, mg⟩ := ProgT.form h
 unfold maxLen at mr md mg
 have HVP := Lib.hid hv
 have HFO := Lib.hid hfold
 have HTB := Lib.hid htab
 have hb0 := hbk
 unfold ProgT.bulk at hb0
 have HRB : Hid (∀ r ∈ c.routines, r.body.bulk ≤ 1048576 ∧ r.slots.length ≤ 1048576) := fun r hm => by have h1 := sumOf_mem (b := RouT.bulk) hm; have h2 : r.bulk ≤ 1048576 := (by omega); unfold RouT.bulk at h2; omega
 have hbr : c.routines.length ≤ 1048576 := by omega
 have hbg : c.globals.length ≤ 1048576 := by omega
 have HBD : Hid (c.records.length + sumOf RecT.bulk c.records ≤ 1048576) := by show _ ≤ _; omega
 clear hv hfold htab hb0
 obtain ⟨ba, bz, B0⟩ := boxes2 w 31 #[.slice Aroutines c.routines.length nroutines, .slice Arecords c.records.length nrecords, .slice Aglobals c.globals.length nglobals, .int .i64 c.main] 31 #[.slice none 0 0, .slice none 0 0, .slice none 0 0, .int .i64 0]
 go_enter Tryz.func7, Tryz.ntmps7
 go_wp2_with fail
 have HC : Hid (Calls Tryz.prog 20 #[.agg #[.slice Aroutines c.routines.length nroutines, .slice Arecords c.records.length nrecords, .slice Aglobals c.globals.length nglobals, .int .i64 c.main]] ((w.alloc (.cells #[.slice Aroutines c.routines.length nroutines, .slice Arecords c.records.length nrecords, .slice Aglobals c.globals.length nglobals, .int .i64 c.main] 31)).alloc (.cells #[.slice none 0 0, .slice none 0 0, .slice none 0 0, .int .i64 0] 31)) fun e w' => e = .returned (.bool (validProg c)) ∧ Below ((w.alloc (.cells #[.slice Aroutines c.routines.length nroutines, .slice Arecords c.records.length nrecords, .slice Aglobals c.globals.length nglobals, .int .i64 c.main] 31)).alloc (.cells #[.slice none 0 0, .slice none 0 0, .slice none 0 0, .int .i64 0] 31)).heap.size ((w.alloc (.cells #[.slice Aroutines c.routines.length nroutines, .slice Arecords c.records.length nrecords, .slice Aglobals c.globals.length nglobals, .int .i64 c.main] 31)).alloc (.cells #[.slice none 0 0, .slice none 0 0, .slice none 0 0, .int .i64 0] 31)) w') := HVP.out _ _ lo hi c (h.below B0 hhi) (by simp; omega) (HTB.out _ _ ht B0) hbk
 cases hvc : validProg c with
 | false =>
   rw [hvc] at HC
   have HV : Hid (foldP c = zeroP) := by show _ = _; unfold foldP; rw [if_neg (by rw [hvc]; decide)]
   have HVC := Lib.hid hvc
   clear hvc hr hd hg h
   refine HC.out.mono ?_; rintro e w1 ⟨rfl, hb1⟩
   replace ba := ba.later hb1
   replace bz := bz.later hb1
   have B1 : Below w.heap.size w w1 := B0.trans (hb1.mono B0.size)
   clear hb1 B0 HC
   obtain ⟨cba, lba, fba⟩ := ba.all
   obtain ⟨cbz, lbz, fbz⟩ := bz.all
   go_wp2_with fail
   have hF := ((((bz.set_ 0 (.slice none 0 0)).set_ 1 (.slice none 0 0)).set_ 2 (.slice none 0 0)).set_ 3 (.int .i64 0))
   have cF := hF.cell
   refine bodyPost_ret (v := .tuple #[.agg #[Value.slice none 0 0, .slice none 0 0, .slice none 0 0, .int .i64 0], .bool false]) ?_ rfl ⟨[Value.slice none 0 0, .slice none 0 0, .slice none 0 0, .int .i64 0], by rw [HVC.out], ?_, ?_⟩
   ·simp [results, Tryz.results7, go_sem, cF]
   ·rw [HV.out]; exact OwnR.zeroP
   ·repeat' first | with_reducible exact B1 | with_reducible refine Below.setCell ?_ (by first | exact Nat.le_refl _ | omega | (simp; omega) | simp) _
 | true =>
   rw [hvc] at HC
   have HV : Hid (foldP c = ⟨c.routines.map foldR, c.records, c.globals, c.main⟩) := by show _ = _; unfold foldP; rw [if_pos hvc]
   have HVC := Lib.hid hvc
   have HFC : Hid (∀ r ∈ c.routines, FoldC r.body) := foldC_prog hvc
   clear hvc h
   refine HC.out.mono ?_; rintro e w1 ⟨rfl, hb1⟩
   replace ba := ba.later hb1
   replace bz := bz.later hb1
   have B1 : Below w.heap.size w w1 := B0.trans (hb1.mono B0.size)
   have hs1 : w.heap.size + 2 ≤ w1.heap.size := by have := hb1.size; simp at this; omega
   have ht1 := HTB.out _ _ ht (B1)
   replace hr := hr.below B1 hhi
   replace hd := hd.below B1 hhi
   replace hg := hg.below B1 hhi
   have hi1 : hi ≤ w1.heap.size := by omega
   clear hb1 B0 HC ht HVP
   obtain ⟨cba, lba, fba⟩ := ba.all
   obtain ⟨cbz, lbz, fbz⟩ := bz.all
   have HG : Hid (Rds w1 lo hi 1 (.slice Aglobals c.globals.length nglobals) c.globals.length (c.globals.map .string) ∧ ∀ u ∈ c.globals.map Value.string, u.oneCell' = true) := ⟨LRep.rds.1 hg, by intro u hu; obtain ⟨s, -, rfl⟩ := List.mem_map.1 hu; rfl⟩
   have HD := Lib.hid hd
   have HR := Lib.hid hr
   clear hd hg hr
   have hgm : c.globals.length ≤ maxLen := by unfold maxLen; omega
   have hgb : c.globals.length * 16 ≤ 140737488355328 := by omega
   go_upto_region 3 with fail
   go_cut [4] (fun p4 wx => ∃ (g4 hi4 : Nat) (A1 : Option Addr) (n1 : Nat) (A2 : Option Addr) (n2 : Nat), p4 = .pointer (some ⟨g4, 0, none⟩) ∧ Blk wx g4 31 #[Value.slice none 0 0, .slice A1 c.records.length n1, .slice A2 c.globals.length n2, .int .i64 c.main] ∧ Below w1.heap.size w1 wx ∧ w1.heap.size ≤ g4 ∧ hi4 ≤ wx.heap.size ∧ Hid (PHeads w1.heap.size hi4 g4 wx c (.slice A1 c.records.length n1) (.slice A2 c.globals.length n2)))
   case first =>
    --<first
    have hab : w.heap.size < w1.heap.size := ba.lt
    go_region_held3 (fun w' => (∀ i, w'.cell? ⟨w.heap.size, i, none⟩ = #[Value.slice Aroutines c.routines.length nroutines, .slice Arecords c.records.length nrecords, .slice Aglobals c.globals.length nglobals, .int .i64 c.main][i]?))
     (first | with_reducible exact ba.drew.cell | with_reducible exact (ba.alloc _).drew.cell | with_reducible exact ((ba.alloc _).alloc _).drew.cell | with_reducible exact baX.cell | with_reducible exact (baX.alloc _).cell | with_reducible exact ((baX.alloc _).alloc _).cell | with_reducible exact baX.far4 _ _ _ _ (by omega) | fail)
     (first
      | (go_at_call 21; refine (impl_copyRecords c.records _ _ lo hi (HD.out.below (by repeat' first | with_reducible exact bX | with_reducible exact Below.refl _ _ | with_reducible refine Below.drew ?_ | with_reducible refine Below.alloc ?_ (by (try simp only [alloc_size, drew_size]); omega) _) hi1) (by (try simp only [alloc_size, drew_size]); omega) HBD.out).mono ?_; rintro e wA ⟨vA, rfl, hrA, hbA⟩; obtain ⟨A1, n1, rfl, -, -⟩ := hrA.rep.shape; have zA := hbA.size; (try simp only [alloc_size, drew_size] at zA); (first | have bE := (((Blk.new w1 9 #[]).alloc (.cells #[.slice none 0 0, .slice none 0 0, .slice none 0 0, .int .i64 0] 31)).drew).later hbA | have bE := ((Blk.newAt (w1.alloc (.cells #[.slice none 0 0, .slice none 0 0, .slice none 0 0, .int .i64 0] 31)) 9 #[] (w1.heap.size + 1) (by simp)).drew).later hbA | have bE := ((Blk.new w1 9 #[]).drew).later hbA | skip); (first | replace bZ := (bZ).later hbA | replace bZ := (bZ.alloc (.cells #[] 9)).later hbA | have bZ := (((Blk.new wB 31 #[Value.slice none 0 0, .slice none 0 0, .slice none 0 0, .int .i64 0]).alloc (.cells #[] 9))).later hbA | have bZ := ((Blk.newAt (wB.alloc (.cells #[] 9)) 31 #[Value.slice none 0 0, .slice none 0 0, .slice none 0 0, .int .i64 0] (wB.heap.size + 1) (by simp))).later hbA | have bZ := ((Blk.new wB 31 #[Value.slice none 0 0, .slice none 0 0, .slice none 0 0, .int .i64 0])).later hbA | have bZ := (((Blk.new w1 31 #[Value.slice none 0 0, .slice none 0 0, .slice none 0 0, .int .i64 0]).alloc (.cells #[] 9)).drew).later hbA | have bZ := ((Blk.newAt (w1.alloc (.cells #[] 9)) 31 #[Value.slice none 0 0, .slice none 0 0, .slice none 0 0, .int .i64 0] (w1.heap.size + 1) (by simp)).drew).later hbA | have bZ := ((Blk.new w1 31 #[Value.slice none 0 0, .slice none 0 0, .slice none 0 0, .int .i64 0]).drew).later hbA | skip); (try clear cbZ fbZ lbZ); (first | (have cbZ := bZ.cell; have fbZ := bZ.frozen; have lbZ := bZ.lt) | skip); (first | have baX' := (baX).later hbA | have baX' := (baX.alloc _).later hbA | have baX' := ((baX.alloc _).alloc _).later hbA | have baX' := ((ba).drew).later hbA | have baX' := ((ba.alloc _).drew).later hbA | have baX' := (((ba.alloc _).alloc _).drew).later hbA); (try clear baX); have baX := baX'; clear baX'; (first | replace hoB := own_later hoB (Below.trans (show Below wB.heap.size wB _ from (by repeat' first | with_reducible exact Below.refl _ _ | with_reducible refine Below.alloc ?_ (by (try simp only [alloc_size]); omega) _)) (hbA.mono (by (try simp only [alloc_size, drew_size]); omega))) | skip); have bX' := Below.trans (show Below w1.heap.size w1 _ from (by repeat' first | with_reducible exact bX | with_reducible exact Below.refl _ _ | with_reducible refine Below.drew ?_ | with_reducible refine Below.alloc ?_ (by (try simp only [alloc_size, drew_size]); omega) _)) (hbA.mono (by (try simp only [alloc_size, drew_size]); omega)); (try clear bX); have bX := bX'; clear bX'; have zX := bX.size)
      | (refine step_clone_blk rfl (.tmp 14) (.tmp 16) 24 rfl 9 _ 1 16 info_strs Tryz.underlying24 rfl (by decide) _ rfl (by first | with_reducible exact bE | with_reducible exact bE.alloc _ | with_reducible exact Blk.new _ _ _ | with_reducible exact (Blk.new _ _ _).alloc _ | with_reducible exact (Blk.new _ _ _).drew | with_reducible exact ((Blk.new _ _ _).alloc _).drew | with_reducible exact (Blk.newAt _ _ _ _ (by simp)).drew | exact Blk.newAt _ _ _ _ (by simp)) lo hi _ c.globals.length (c.globals.map .string) rfl (HG.out.1.below (by repeat' first | with_reducible exact bX | with_reducible exact Below.refl _ _ | with_reducible refine Below.drew ?_ | with_reducible refine Below.alloc ?_ (by (try simp only [alloc_size, drew_size]); omega) _) hi1) HG.out.2 hgm hgb ?_; intro v1 wB hoB hgB hatB; obtain ⟨A2, n2, rfl, -, -, -⟩ := (Rds.of_own hoB).shape; have hlB := hoB.lt; have zB := hgB.size; (try simp only [alloc_size, drew_size] at zB); (first | have baX' := (baX).grown hgB (fun e => by injection e with e; (try simp only [alloc_size, drew_size] at e); omega) | have baX' := (baX.alloc _).grown hgB (fun e => by injection e with e; (try simp only [alloc_size, drew_size] at e); omega) | have baX' := ((baX.alloc _).alloc _).grown hgB (fun e => by injection e with e; (try simp only [alloc_size, drew_size] at e); omega) | have baX' := ((ba).drew).grown hgB (fun e => by injection e with e; (try simp only [alloc_size, drew_size] at e); omega) | have baX' := ((ba.alloc _).drew).grown hgB (fun e => by injection e with e; (try simp only [alloc_size, drew_size] at e); omega) | have baX' := (((ba.alloc _).alloc _).drew).grown hgB (fun e => by injection e with e; (try simp only [alloc_size, drew_size] at e); omega)); (try clear baX); have baX := baX'; clear baX'; (first | replace bZ := (bZ).grown hgB (fun e => by injection e with e; (try simp only [alloc_size, drew_size] at e); omega) | replace bZ := (bZ.alloc (.cells #[] 9)).grown hgB (fun e => by injection e with e; (try simp only [alloc_size, drew_size] at e); omega) | have bZ := (((Blk.new wA 31 #[Value.slice none 0 0, .slice none 0 0, .slice none 0 0, .int .i64 0]).alloc (.cells #[] 9))).grown hgB (fun e => by injection e with e; (try simp only [alloc_size, drew_size] at e); omega) | have bZ := ((Blk.newAt (wA.alloc (.cells #[] 9)) 31 #[Value.slice none 0 0, .slice none 0 0, .slice none 0 0, .int .i64 0] (wA.heap.size + 1) (by simp))).grown hgB (fun e => by injection e with e; (try simp only [alloc_size, drew_size] at e); omega) | have bZ := ((Blk.new wA 31 #[Value.slice none 0 0, .slice none 0 0, .slice none 0 0, .int .i64 0])).grown hgB (fun e => by injection e with e; (try simp only [alloc_size, drew_size] at e); omega) | have bZ := (((Blk.new w1 31 #[Value.slice none 0 0, .slice none 0 0, .slice none 0 0, .int .i64 0]).alloc (.cells #[] 9)).drew).grown hgB (fun e => by injection e with e; (try simp only [alloc_size, drew_size] at e); omega) | have bZ := ((Blk.newAt (w1.alloc (.cells #[] 9)) 31 #[Value.slice none 0 0, .slice none 0 0, .slice none 0 0, .int .i64 0] (w1.heap.size + 1) (by simp)).drew).grown hgB (fun e => by injection e with e; (try simp only [alloc_size, drew_size] at e); omega) | have bZ := ((Blk.new w1 31 #[Value.slice none 0 0, .slice none 0 0, .slice none 0 0, .int .i64 0]).drew).grown hgB (fun e => by injection e with e; (try simp only [alloc_size, drew_size] at e); omega) | skip); (try clear cbZ fbZ lbZ); (first | (have cbZ := bZ.cell; have fbZ := bZ.frozen; have lbZ := bZ.lt) | skip); (first | replace hrA := hrA.kept (fun g h1 h2 => (hgB.block g (by (try simp only [alloc_size]); omega) (fun e => by injection e with e; (try simp only [alloc_size, drew_size] at e h1); omega)).trans ((show Below wA.heap.size wA _ from (by repeat' first | with_reducible exact Below.refl _ _ | with_reducible refine Below.alloc ?_ (by (try simp only [alloc_size]); omega) _)).block g h2)) | skip); have bX' := Below.grown (show Below w1.heap.size w1 _ from (by repeat' first | with_reducible exact bX | with_reducible exact Below.refl _ _ | with_reducible refine Below.drew ?_ | with_reducible refine Below.alloc ?_ (by (try simp only [alloc_size, drew_size]); omega) _)) hgB (by (try simp only [alloc_size, drew_size]); omega) (fun b hb => by injection hb with hb; (try simp only [alloc_size, drew_size] at hb); omega); (try clear bX); have bX := bX'; clear bX'; have zX := bX.size)
      | fail)
    all_goals (go_wp2_with fail; go_meet)
    all_goals first
     | (refine ⟨_, wB.heap.size, A1, n1, A2, n2, rfl, ?_, ?_, ?_, ?_, ?_⟩
        rotate_left 3
        ·first | with_reducible exact alloc_le _ _ | with_reducible exact set4_le _ _ _ _ _ _
        ·show PHeads _ _ _ _ _ _ _
         first | with_reducible refine PHeads.set4 ?_ _ _ _ _ | with_reducible refine PHeads.alloc1 ?_ _
         with_reducible refine PHeads.mk_ hrA hoB (fun g hg => ?_) ?_ ?_
         ·have hl := (hlB g hg).2
          rcases hatB with e | e <;> rw [hg] at e <;> injection e with e <;> (try simp only [alloc_size, drew_size] at e ⊢) <;> omega
         ·(try simp only [alloc_size, drew_size]); omega
         ·(try simp only [alloc_size, drew_size]); omega
        ·first | with_reducible exact Blk.new _ _ _ | with_reducible exact Blk.set4 bZ _ _ _ _
        ·show Below _ _ _
         (repeat' first | with_reducible exact bX | with_reducible refine Below.alloc ?_ (by (try simp only [alloc_size, drew_size]); omega) _ | with_reducible refine Below.setCell ?_ (by (try simp only [alloc_size, drew_size]); omega) _)
        ·show w1.heap.size ≤ _
         (try simp only [alloc_size]); omega)
     | (refine ⟨_, wA.heap.size, A1, n1, A2, n2, rfl, ?_, ?_, ?_, ?_, ?_⟩
        rotate_left 3
        ·first | with_reducible exact alloc_le _ _ | with_reducible exact set4_le _ _ _ _ _ _
        ·show PHeads _ _ _ _ _ _ _
         first | with_reducible refine PHeads.set4 ?_ _ _ _ _ | with_reducible refine PHeads.alloc1 ?_ _
         with_reducible refine PHeads.mk_ hrA hoB (fun g hg => ?_) ?_ ?_
         ·have hl := (hlB g hg).2
          rcases hatB with e | e <;> rw [hg] at e <;> injection e with e <;> (try simp only [alloc_size, drew_size] at e ⊢) <;> omega
         ·(try simp only [alloc_size, drew_size]); omega
         ·(try simp only [alloc_size, drew_size]); omega
        ·first | with_reducible exact Blk.new _ _ _ | with_reducible exact Blk.set4 bZ _ _ _ _
        ·show Below _ _ _
         (repeat' first | with_reducible exact bX | with_reducible refine Below.alloc ?_ (by (try simp only [alloc_size, drew_size]); omega) _ | with_reducible refine Below.setCell ?_ (by (try simp only [alloc_size, drew_size]); omega) _)
        ·show w1.heap.size ≤ _
         (try simp only [alloc_size]); omega)
    --first>
   case rest =>
    obtain ⟨g4, hi4, A1, n1, A2, n2, rfl, bo, BC, hg4, hh4, HPH⟩ := hcut
    clear cba lba fba cbz lbz fbz HG HD
    have hgl := bo.lt
    have baw := ba.later BC
    obtain ⟨cba, lba, fba⟩ := baw.all
    have P0 : Hid (Grow wc.heap.size 47 9 RouT.dats wc ((c.routines.take 0).map foldR) (.slice none 0 0) []) := Grow.start (World.ownsRow_nil ..)
    go_wp2_with fail
    go_loopw [24] (fun i wr => ∃ (k n0 : Nat) (v0 : Option Addr) (vs : List Value), k ≤ c.routines.length ∧ i = .int .i64 k ∧ Hid (Grow wc.heap.size 47 9 RouT.dats wr ((c.routines.take k).map foldR) (.slice v0 k n0) vs) ∧ Below w1.heap.size w1 wr ∧ Blk wr g4 31 #[Value.slice v0 k n0, .slice A1 c.records.length n1, .slice A2 c.globals.length n2, .int .i64 c.main] ∧ Hid (PHeads w1.heap.size hi4 g4 wr c (.slice A1 c.records.length n1) (.slice A2 c.globals.length n2)) ∧ wc.heap.size ≤ wr.heap.size) (fun i _ => c.routines.length - (intOf i).toNat)
    case atStart => exact ⟨0, 0, none, [], Nat.zero_le _, rfl, P0, BC, bo, HPH, Nat.le_refl _⟩
    case round =>
     clear P0 bo HPH cba lba fba
     obtain ⟨k, n0, v0, vs, hkl, rfl, hP, B2, bo, HPH, hwr⟩ := hrel
     have hln : ((c.routines.take k).map foldR).length = k := by rw [List.length_map, List.length_take]; omega
     have HLN := Lib.hid hln
     have hown := hP.out.own
     rw [hln] at hown
     clear hln
     replace baw := ba.below B2 ba.lt
     obtain ⟨cba, lba, fba⟩ := baw.all
     by_cases hlt : k < c.routines.length
     ·obtain ⟨r, hx⟩ : ∃ r, c.routines[k]? = some r := ⟨_, List.getElem?_eq_getElem hlt⟩
      have hkr := HR.out.below B2 hi1
      have hs12 := B2.size
      have hiw : hi ≤ wr.heap.size := by omega
      obtain ⟨g, off, As, ns, Ak, nk, rfl, hg1, hg2, hmem, hcr, q0, q1, q2, q3, q4, q5, q6, q7, q8⟩ := RouT.at_ hkr hx
      obtain ⟨hsl, hkd⟩ := RouT.rows hcr
      have HS : Hid (Rds wr lo hi 1 (.slice As r.slots.length ns) r.slots.length (r.slots.map .string) ∧ ∀ u ∈ r.slots.map Value.string, u.oneCell' = true) := ⟨LRep.rds.1 hsl, by intro u hu; obtain ⟨s, -, rfl⟩ := List.mem_map.1 hu; rfl⟩
      obtain ⟨y, hy⟩ : ∃ y, foldT r.body = y := ⟨_, rfl⟩
      have HK : Hid (∀ W, Below wr.heap.size wr W → Calls Tryz.prog 22 #[.agg #[.int .i64 r.body.kind, .int .i64 r.body.op, .int .i64 r.body.number, .int .i64 r.body.line, .string r.body.text, .slice Ak r.body.kids.length nk]] W (MadeS CoreT.dats y W)) := fun W hW => by
       have h := HFO.out r.body Ak nk W lo hi (hkd.below hW hiw) (Nat.le_trans hiw hW.size) (HFC.out r hmem) (HRB.out r hmem).1 (HTB.out _ _ ht1 (B2.trans (hW.mono hs12)))
       rw [hy] at h
       exact h
      have HX : Hid (((c.routines.take (k + 1)).map foldR) = ((c.routines.take k).map foldR) ++ [(⟨r.name, r.params, r.slots, y⟩ : RouT)]) := by have h := foldR_next hx; unfold foldR at h; rw [hy] at h; exact h
      have hbs := (HRB.out r hmem).2
      have hm1 : r.slots.length ≤ maxLen := by unfold maxLen; omega
      have hm2 : r.slots.length * 16 ≤ 140737488355328 := by omega
      have hm3 : (k + 1) * 120 ≤ 140737488355328 := by omega
      have e0 : (0 : Int) ≤ (k : Int) := by omega
      have e8 : (k : Int) < (c.routines.length : Int) := by omega
      clear hkr hsl hkd hcr hx hy hmem
      go_wp2_with fail
      have bt := Blk.new wr 47 #[Value.string r.name, .int .i64 r.params, .slice As r.slots.length ns, .int .i64 r.body.kind, .int .i64 r.body.op, .int .i64 r.body.number, .int .i64 r.body.line, .string r.body.text, .slice Ak r.body.kids.length nk]
      have bo1 := bo.alloc (.cells #[Value.string r.name, .int .i64 r.params, .slice As r.slots.length ns, .int .i64 r.body.kind, .int .i64 r.body.op, .int .i64 r.body.number, .int .i64 r.body.line, .string r.body.text, .slice Ak r.body.kids.length nk] 47)
      have own0 := hown.alloc (.cells #[Value.string r.name, .int .i64 r.params, .slice As r.slots.length ns, .int .i64 r.body.kind, .int .i64 r.body.op, .int .i64 r.body.number, .int .i64 r.body.line, .string r.body.text, .slice Ak r.body.kids.length nk] 47)
      have bW : Below wr.heap.size wr (wr.alloc (.cells #[Value.string r.name, .int .i64 r.params, .slice As r.slots.length ns, .int .i64 r.body.kind, .int .i64 r.body.op, .int .i64 r.body.number, .int .i64 r.body.line, .string r.body.text, .slice Ak r.body.kids.length nk] 47)) := (Below.refl _ _).alloc (Nat.le_refl _) _
      obtain ⟨W1, hW1⟩ : ∃ W, wr.alloc (.cells #[Value.string r.name, .int .i64 r.params, .slice As r.slots.length ns, .int .i64 r.body.kind, .int .i64 r.body.op, .int .i64 r.body.number, .int .i64 r.body.line, .string r.body.text, .slice Ak r.body.kids.length nk] 47) = W := ⟨_, rfl⟩
      rw [hW1] at bt bo1 own0 bW ⊢
      clear hW1 q0 q1 q2 q3 q4 q5 q6 q7 q8 cba lba fba
      have zW := bW.size
      have hneT : wr.heap.size ≠ g4 := by omega
      have hwW : wr.heap.size < W1.heap.size := bt.lt
      obtain ⟨cbo, lbo, fbo⟩ := bo1.all
      refine anyBut_start (S := fun w' => (∀ i, w'.cell? ⟨wr.heap.size, i, none⟩ = #[Value.string r.name, .int .i64 r.params, .slice As r.slots.length ns, .int .i64 r.body.kind, .int .i64 r.body.op, .int .i64 r.body.number, .int .i64 r.body.line, .string r.body.text, .slice Ak r.body.kids.length nk][i]?) ∧ w'.cell? ⟨g4, 0, none⟩ = some (.slice v0 k n0)) (k := 17) (by kernel_rfl) ?_
      have btX := bt.drew
      have boX := bo1.drew
      have ownX : W1.drew.ownsRow _ _ _ _ _ _ := own0
      have bW2 := bW.drew
      have zW2 : W1.heap.size ≤ W1.drew.heap.size := Nat.le_refl _
      generalize W1.drew = W2 at btX boX ownX bW2 zW2 ⊢
      clear bt bo1 own0 bW cbo lbo fbo bo hown
      have cT := btX.cell
      have cO := boX.cell 0
      have lO := boX.lt
      have fO := boX.frozen
      have hlt0 : ∀ b, Value.ownBlock (.slice v0 k n0) = some b → b < wr.heap.size := fun b hb => (hP.out.own.lt b hb).2
      have hg4w : g4 < wr.heap.size := by omega
      have bX2 := bW2
      clear bW2
      refine anyBut_take 0 (v := ?_) rfl (by kernel_rfl) (by kernel_rfl) (by kernel_rfl) (by kernel_rfl) (fun _ _ _ h => h) (Or.inl ⟨by rfl, ?_⟩) ⟨cT, cO⟩ ?_
      rotate_left
      ·intro w' hSw; obtain ⟨hT, hO⟩ := hSw; go_simp; try with_reducible rfl
      try simp only [Act.put, List.setIfInBounds_toArray, List.set_cons_zero, List.set_cons_succ]
      refine anyBut_take 1 (v := ?_) rfl (by kernel_rfl) (by kernel_rfl) (by kernel_rfl) (by kernel_rfl) (fun _ _ _ h => h) (Or.inl ⟨by rfl, ?_⟩) ⟨cT, cO⟩ ?_
      rotate_left
      ·intro w' hSw; obtain ⟨hT, hO⟩ := hSw; go_simp; try with_reducible rfl
      try simp only [Act.put, List.setIfInBounds_toArray, List.set_cons_zero, List.set_cons_succ]
      refine anyBut_take 2 (v := ?_) rfl (by kernel_rfl) (by kernel_rfl) (by kernel_rfl) (by kernel_rfl) (fun _ _ _ h => h) (Or.inl ⟨by rfl, ?_⟩) ⟨cT, cO⟩ ?_
      rotate_left
      ·intro w' hSw; obtain ⟨hT, hO⟩ := hSw; go_simp; try with_reducible rfl
      try simp only [Act.put, List.setIfInBounds_toArray, List.set_cons_zero, List.set_cons_succ]
      refine anyBut_take 3 (v := ?_) rfl (by kernel_rfl) (by kernel_rfl) (by kernel_rfl) (by kernel_rfl) (fun _ _ _ h => h) (Or.inl ⟨by rfl, ?_⟩) ⟨cT, cO⟩ ?_
      rotate_left
      ·intro w' hSw; obtain ⟨hT, hO⟩ := hSw; go_simp; try with_reducible rfl
      try simp only [Act.put, List.setIfInBounds_toArray, List.set_cons_zero, List.set_cons_succ]
      refine anyBut_take 4 (v := ?_) rfl (by kernel_rfl) (by kernel_rfl) (by kernel_rfl) (by kernel_rfl) (fun _ _ _ h => h) (Or.inl ⟨by rfl, ?_⟩) ⟨cT, cO⟩ ?_
      rotate_left
      ·intro w' hSw; obtain ⟨hT, hO⟩ := hSw; go_simp; try with_reducible rfl
      try simp only [Act.put, List.setIfInBounds_toArray, List.set_cons_zero, List.set_cons_succ]
      refine anyBut_take 5 (v := ?_) rfl (by kernel_rfl) (by kernel_rfl) (by kernel_rfl) (by kernel_rfl) (fun _ _ _ h => h) (Or.inl ⟨by rfl, ?_⟩) ⟨cT, cO⟩ ?_
      rotate_left
      ·intro w' hSw; obtain ⟨hT, hO⟩ := hSw; go_simp; try with_reducible rfl
      try simp only [Act.put, List.setIfInBounds_toArray, List.set_cons_zero, List.set_cons_succ]
      refine anyBut_take 7 (v := ?_) rfl (by kernel_rfl) (by kernel_rfl) (by kernel_rfl) (by kernel_rfl) (fun _ _ _ h => h) (Or.inl ⟨by rfl, ?_⟩) ⟨cT, cO⟩ ?_
      rotate_left
      ·intro w' hSw; obtain ⟨hT, hO⟩ := hSw; go_simp; try with_reducible rfl
      try simp only [Act.put, List.setIfInBounds_toArray, List.set_cons_zero, List.set_cons_succ]
      refine anyBut_take 8 (v := ?_) rfl (by kernel_rfl) (by kernel_rfl) (by kernel_rfl) (by kernel_rfl) (fun _ _ _ h => h) (Or.inl ⟨by rfl, ?_⟩) ⟨cT, cO⟩ ?_
      rotate_left
      ·intro w' hSw; obtain ⟨hT, hO⟩ := hSw; go_simp; try with_reducible rfl
      try simp only [Act.put, List.setIfInBounds_toArray, List.set_cons_zero, List.set_cons_succ]
      refine anyBut_take 10 (v := ?_) rfl (by kernel_rfl) (by kernel_rfl) (by kernel_rfl) (by kernel_rfl) (fun _ _ _ h => h) (Or.inl ⟨by rfl, ?_⟩) ⟨cT, cO⟩ ?_
      rotate_left
      ·intro w' hSw; obtain ⟨hT, hO⟩ := hSw; go_simp; try with_reducible rfl
      try simp only [Act.put, List.setIfInBounds_toArray, List.set_cons_zero, List.set_cons_succ]
      refine anyBut_take 11 (v := ?_) rfl (by kernel_rfl) (by kernel_rfl) (by kernel_rfl) (by kernel_rfl) (fun _ _ _ h => h) (Or.inl ⟨by rfl, ?_⟩) ⟨cT, cO⟩ ?_
      rotate_left
      ·intro w' hSw; obtain ⟨hT, hO⟩ := hSw; go_simp; try with_reducible rfl
      try simp only [Act.put, List.setIfInBounds_toArray, List.set_cons_zero, List.set_cons_succ]
      refine anyBut_ready [6] (by kernel_rfl) rfl ?_
      refine StepBut.cons_ rfl (fun K hK => ?_) StepBut.nil_
      go_simp
      have bE := Blk.new W2 9 #[]
      have bXe := bX2.alloc (by omega) (.cells #[] 9)
      have btE := btX.alloc (.cells #[] 9)
      have boE := boX.alloc (.cells #[] 9)
      have ownE := ownX.alloc (.cells #[] 9)
      have zE : (W2.alloc (.cells #[] 9)).heap.size = W2.heap.size + 1 := by simp
      clear cT cO lO fO btX boX ownX bX2
      have btX := btE
      have boX := boE
      have ownX := ownE
      have bX2 := bXe
      clear btE boE ownE bXe
      have cT := btX.cell
      have cO := boX.cell 0
      have lO := boX.lt
      have fO := boX.frozen
      refine hK.out _ _ (fun _ => ⟨cT, cO⟩) ?_
      clear hK K
      try simp only [Act.put, List.setIfInBounds_toArray, List.set_cons_zero, List.set_cons_succ]
      refine anyBut_ready [9] (by kernel_rfl) rfl ?_
      refine StepBut.cons_ rfl (fun K hK => ?_) StepBut.nil_
      refine step_clone_blk rfl (.tmp 34) (.tmp 36) 24 rfl 9 _ 1 16 info_strs Tryz.underlying24 rfl (by decide) _ rfl bE lo hi _ r.slots.length (r.slots.map .string) rfl (HS.out.1.below bX2 hiw) HS.out.2 hm1 hm2 ?_
      intro v1 wB hoB hgB hatB
      obtain ⟨A3, n3, rfl, -, -, -⟩ := (Rds.of_own hoB).shape
      have hlB := hoB.lt
      have zB := hgB.size
      replace bX2 := bX2.grown hgB bX2.size (fun b hb => by injection hb with hb; omega)
      replace btX := btX.grown hgB (fun e => by injection e with e; omega)
      replace boX := boX.grown hgB (fun e => by injection e with e; have := lO; omega)
      replace ownX := own_block ownX fun b hb => hgB.block b (ownX.lt b hb).2 (fun e => by injection e with e; have := ownX.lt b hb; have := hlt0 b hb; omega)
      clear cT cO lO fO
      have cT := btX.cell
      have cO := boX.cell 0
      have lO := boX.lt
      have fO := boX.frozen
      refine hK.out _ _ (fun _ => ⟨cT, cO⟩) ?_
      clear hK K
      try simp only [Act.put, List.setIfInBounds_toArray, List.set_cons_zero, List.set_cons_succ]
      refine anyBut_ready [12] (by kernel_rfl) rfl ?_
      refine StepBut.cons_ rfl (fun K hK => ?_) StepBut.nil_
      go_simp
      go_at_call 22
      refine (HK.out _ bX2).mono ?_; rintro e wA ⟨cs, rfl, ⟨G, hG1, hG2, hG3⟩, hbA⟩; obtain ⟨Ay, ny, G', rfl, rfl, -⟩ := CoreT.ownOut hG1
      have zA := hbA.size
      have bXB := bX2
      replace btX := btX.later hbA
      replace boX := boX.later hbA
      replace ownX := own_later ownX hbA
      replace bX2 := bX2.trans (hbA.mono bX2.size)
      replace hoB := own_later hoB hbA
      clear cT cO lO fO
      have cT := btX.cell
      have cO := boX.cell 0
      have lO := boX.lt
      have fO := boX.frozen
      try go_wp2_with fail
      refine hK.out _ _ (fun _ => ⟨cT, cO⟩) ?_
      clear hK K
      try simp only [Act.put, List.setIfInBounds_toArray, List.set_cons_zero, List.set_cons_succ]
      refine anyBut_take 13 (v := ?_) rfl (by kernel_rfl) (by kernel_rfl) (by kernel_rfl) (by kernel_rfl) (fun _ _ _ h => h) (Or.inl ⟨by rfl, ?_⟩) ⟨cT, cO⟩ ?_
      rotate_left
      ·intro w' hSw; obtain ⟨hT, hO⟩ := hSw; go_simp; try with_reducible rfl
      try simp only [Act.put, List.setIfInBounds_toArray, List.set_cons_zero, List.set_cons_succ]
      refine anyBut_ready [14] (by kernel_rfl) rfl ?_
      refine StepBut.cons_ rfl (fun K hK => ?_) StepBut.nil_
      go_simp
      refine hK.out _ _ (fun _ => ⟨(btX.alloc _).cell, (boX.alloc _).cell 0⟩) ?_
      clear hK K
      try simp only [Act.put, List.setIfInBounds_toArray, List.set_cons_zero, List.set_cons_succ]
      refine anyBut_ready [15] (by kernel_rfl) rfl ?_
      refine StepBut.cons_ rfl (fun K hK => ?_) StepBut.nil_
      refine step_push_at (w := wA) wA.heap.size rfl rfl (.tmp 29) (.tmp 42) 28 rfl 47 _ 9 120 info_RouT Tryz.underlying28 rfl (by decide) (by decide) wc.heap.size _ _ _ rfl ownX #[.string r.name, .int .i64 r.params, .slice A3 r.slots.length n3, .int .i64 y.kind, .int .i64 y.op, .int .i64 y.number, .int .i64 y.line, .string y.text, .slice Ay y.kids.length ny] 1 47 rfl ⟨rfl, rfl, rfl, rfl⟩ rfl (by simp [Value.oneCell']) hm3 (by omega) ?_
      intro v' wC hoC hgC hatC
      obtain ⟨v3, n4, rfl, -⟩ := (Rds.of_own hoC).shape
      have hneC : some wr.heap.size ≠ Value.ownBlock (.slice v0 k n0) := fun e => by have := (ownX.lt _ e.symm).2; have := hP.out.own.lt _ e.symm; omega
      have hneO : some g4 ≠ Value.ownBlock (.slice v0 k n0) := fun e => by have := (ownX.lt _ e.symm).1; omega
      have bTC := btX.grown hgC hneC
      have bOC := boX.grown hgC hneO
      clear cT cO lO fO
      have cT := bTC.cell
      have cO := bOC.cell 0
      have lO := bOC.lt
      have fO := bOC.frozen
      refine hK.out _ _ (fun _ => ⟨cT, cO⟩) ?_
      clear hK K
      try simp only [Act.put, List.setIfInBounds_toArray, List.set_cons_zero, List.set_cons_succ]
      refine anyBut_take 16 (v := ?_) rfl (by kernel_rfl) (by kernel_rfl) (by kernel_rfl) (by kernel_rfl) (fun _ _ _ h => h) (Or.inl ⟨by rfl, ?_⟩) ⟨cT, cO⟩ ?_
      rotate_left
      ·intro w' hSw; obtain ⟨hT, hO⟩ := hSw; go_simp; try with_reducible rfl
      try simp only [Act.put, List.setIfInBounds_toArray, List.set_cons_zero, List.set_cons_succ]
      refine anyBut_ready [17] (by kernel_rfl) rfl ?_
      refine StepBut.cons_ rfl (fun K hK => ?_) StepBut.nil_
      go_simp
      refine hK.out _ _ (fun h => absurd rfl h) ?_
      clear hK K
      try simp only [Act.put, List.setIfInBounds_toArray, List.set_cons_zero, List.set_cons_succ]
      refine anyBut_done (by kernel_rfl) ?_ _
      obtain ⟨FF, hF1, hF2, hF3⟩ := rout_own (c := (⟨r.name, r.params, r.slots, y⟩ : RouT)) (lo := wr.heap.size) hoB (fun g hg => ⟨.inl (hlB g hg).2, by have := (hlB g hg).1; omega⟩) hG1 hG2 hG3 bXB.size
      have HP3 : Grow wc.heap.size 47 9 RouT.dats wC ((c.routines.take (k + 1)).map foldR) (.slice v3 (k + 1) n4) (vs ++ [Value.string r.name, .int .i64 r.params, .slice A3 r.slots.length n3, .int .i64 y.kind, .int .i64 y.op, .int .i64 y.number, .int .i64 y.line, .string y.text, .slice Ay y.kids.length ny]) := by
       rw [HX.out]
       exact hP.out.push bX2 hwr hF1 hF2 hF3 (by rw [HLN.out]; exact hoC) hgC hatC
      have HP4 := Lib.hid (HP3.setFar (p := ⟨g4, 0, none⟩) hgl (.slice v3 (k + 1) n4))
      have B3 : Below w1.heap.size w1 wC := (B2.trans (bX2.mono hs12)).grown hgC (Nat.le_trans hs12 bX2.size) (fun b hb => by have := (hP.out.own.lt b hb).1; omega)
      have B4 := B3.setCell (p := ⟨g4, 0, none⟩) hg4 (.slice v3 (k + 1) n4)
      have bo4 := bOC.set_ 0 (.slice v3 (k + 1) n4)
      have HPH4 : Hid (PHeads w1.heap.size hi4 g4 (wC.setCell ⟨g4, 0, none⟩ (.slice v3 (k + 1) n4)) c (.slice A1 c.records.length n1) (.slice A2 c.globals.length n2)) := HPH.out.kept fun g h1 h2 h3 => (Below.heap_setCell wC ⟨g4, 0, none⟩ _ g h3).trans ((hgC.block g (by have := bX2.size; omega) (fun e => by have := (hP.out.own.lt g e.symm).1; omega)).trans (bX2.block g (by omega)))
      have hs4 : wc.heap.size ≤ (wC.setCell ⟨g4, 0, none⟩ (.slice v3 (k + 1) n4)).heap.size := Nat.le_trans (Nat.le_trans hwr (Nat.le_trans bX2.size hgC.size)) (by simp [World.setCell])
      clear hoC hgC hatC HP3 hF1 hF2 hF3 hoB hlB hatB hgB
      go_wp2_with fail
      go_roundw
      case rel => exact ⟨k + 1, n4, v3, _, by omega, by go_num, HP4, B4, bo4, HPH4, hs4⟩
      case measure => simp [intOf] <;> omega
     ·obtain rfl : k = c.routines.length := by omega
      have hM : OwnP wr (fun g => w1.heap.size ≤ g ∧ g < wr.heap.size) (⟨c.routines.map foldR, c.records, c.globals, c.main⟩ : ProgT).dats [.slice v0 c.routines.length n0, .slice A1 c.records.length n1, .slice A2 c.globals.length n2, .int .i64 c.main] := HPH.out.prog (l := c.routines.map foldR) (by have h := hP.out; rw [List.take_length] at h; exact h) hh4 (by omega)
      have HM := Lib.hid hM
      replace bz := bz.below B2 bz.lt
      obtain ⟨cbz, lbz, fbz⟩ := bz.all
      obtain ⟨cbo, lbo, fbo⟩ := bo.all
      have B5 : Below w.heap.size w wr := B1.trans (B2.mono (by omega))
      clear hM hP hown HPH hlt HLN
      go_wp2_with fail
      have hF := ((((bz.set_ 0 (.slice v0 c.routines.length n0)).set_ 1 (.slice A1 c.records.length n1)).set_ 2 (.slice A2 c.globals.length n2)).set_ 3 (.int .i64 c.main))
      have cF := hF.cell
      refine bodyPost_ret (v := .tuple #[.agg #[.slice v0 c.routines.length n0, .slice A1 c.records.length n1, .slice A2 c.globals.length n2, .int .i64 c.main], .bool true]) ?_ rfl ⟨[Value.slice v0 c.routines.length n0, .slice A1 c.records.length n1, .slice A2 c.globals.length n2, .int .i64 c.main], by rw [HVC.out], ?_, ?_⟩
      ·simp [results, Tryz.results7, go_sem, cF]
      ·rw [HV.out]
       exact (((((HM.out.set_ (p := ⟨w.heap.size + 1, 0, none⟩) (by simp <;> omega) _).set_ (p := ⟨w.heap.size + 1, 1, none⟩) (by simp <;> omega) _).set_ (p := ⟨w.heap.size + 1, 2, none⟩) (by simp <;> omega) _).set_ (p := ⟨w.heap.size + 1, 3, none⟩) (by simp <;> omega) _)).weak fun g hg => ⟨by omega, by simp; omega⟩
      ·repeat' first | with_reducible exact B5 | with_reducible refine Below.setCell ?_ (by first | exact Nat.le_refl _ | omega | (simp; omega) | simp) _
end Go.Proofs.YtjeomamdlmoghaaGreatDoor
end
