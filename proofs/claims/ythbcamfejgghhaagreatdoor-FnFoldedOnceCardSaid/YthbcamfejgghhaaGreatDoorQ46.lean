/- Bg of the program. The table of ASCII blanks out of a row's listed variables. The table of WK of ten out of a row's listed variables. -/
import Derived.Test.YthbcamfejgghhaaGreatDoorQSq
import Derived.Test.YthbcamfejgghhaaGreatDoorQ40
import Derived.Test.YthbcamfejgghhaaGreatDoorRows
set_option maxRecDepth 100000
set_option maxHeartbeats 64000000
set_option linter.unusedVariables false
set_option linter.unusedSimpArgs false
namespace Go.Proofs.YthbcamfejgghhaaGreatDoor
open Go.IntKind (i64)
open Go.RowKit
theorem wS (tab : World → Prop) (htab : ∀ W W', tab W → Below W.heap.size W W' → tab W') (hv : ∀ (vc : Value) (w : World) (lo hi : Nat) (c : bg), dZ w lo hi bg.aG vc c → hi ≤ w.heap.size → tab w → c.bI ≤ 34359738368 → Calls Tryz.prog 17 #[vc] w fun e w' => e = .returned (.bool (aS c)) ∧ Below w.heap.size w w')
 (U9 : ∀ (c : ak) (A : Option Addr) (n : Nat) (w : World) (lo hi : Nat), aW w lo hi 6 ak.aG (.slice A c.kids.length n) c.kids → hi ≤ w.heap.size → kg c → c.bI ≤ 34359738368 → tab w → Calls Tryz.prog 32 #[.agg (aB c.kind c.op c.number c.line c.text A c.kids.length n)] w (FK ak.aG (aX c) w))
 (c : bg) (x : Value) (w : World) (lo hi : Nat) (h : dZ w lo hi bg.aG x c) (hhi : hi ≤ w.heap.size) (hbk : c.bI ≤ 34359738368) (ht : tab w) :
 Calls Tryz.prog 12 #[x] w (Sv c w) := by
 obtain ⟨dh, bP, bM, bG, bK, bC, rfl, hr, ur, mr, hd, ud, md, hg, ug, mg⟩ := bg.form h
 unfold maxLen at mr md mg
 have HVP := lH hv
 have HFO := lH U9
 have HTB := lH htab
 have hb0 := hbk
 unfold bg.bI at hb0
 have HRB : Hid (∀ r ∈ c.au, r.body.bI ≤ 34359738368 ∧ r.slots.length ≤ 34359738368) := fun r hm => by have h1 := p9 (b := bO.bI) hm; have h2 : r.bI ≤ 34359738368 := ah; unfold bO.bI at h2; omega
 have hbr : c.au.length ≤ 34359738368 := ah
 have hbg : c.globals.length ≤ 34359738368 := ah
 have HBD : Hid (c.records.length + sumOf ep.bI c.records ≤ 34359738368) := by show _ ≤ _; omega
 clear hv U9 htab hb0
 obtain ⟨ba, bz, B0⟩ := kK w 28 (aP dh c.au.length bP bM c.records.length bG bK c.globals.length bC c.main) 28 (aP none 0 0 none 0 0 none 0 0 0)
 go_in
 go_wp2_with fail
 have HC : Hid (Calls Tryz.prog 17 #[.agg (aP dh c.au.length bP bM c.records.length bG bK c.globals.length bC c.main)] ((w.alloc (.cells (aP dh c.au.length bP bM c.records.length bG bK c.globals.length bC c.main) 28)).alloc (.cells (aP none 0 0 none 0 0 none 0 0 0) 28)) fun e w' => e = .returned (.bool (aS c)) ∧ Below ((w.alloc (.cells (aP dh c.au.length bP bM c.records.length bG bK c.globals.length bC c.main) 28)).alloc (.cells (aP none 0 0 none 0 0 none 0 0 0) 28)).heap.size ((w.alloc (.cells (aP dh c.au.length bP bM c.records.length bG bK c.globals.length bC c.main) 28)).alloc (.cells (aP none 0 0 none 0 0 none 0 0 0) 28)) w') := HVP.out _ _ lo hi c (h.below B0 hhi) aJ (HTB.out _ _ ht B0) hbk
 cases hvc : aS c with
 | false =>
   rw [hvc] at HC
   have HV : Hid (qF c = Ll) := by show _ = _; unfold qF; rw [if_neg (by rw [hvc]; decide)]
   have HVC := lH hvc
   clear hvc hr hd hg h
   refine HC.out.mono ?_; rintro e w1 ⟨rfl, hb1⟩
   replace ba := ba.later hb1
   replace bz := bz.later hb1
   have B1 : Below w.heap.size w w1 := B0.trans (hb1.mono B0.size)
   clear hb1 B0 HC
   obtain ⟨cba, lba, fba⟩ := ba.all
   obtain ⟨cbz, lbz, fbz⟩ := bz.all
   go_wp2_with fail
   have hF := ((((bz.aF 0 (.slice none 0 0)).aF 1 (.slice none 0 0)).aF 2 (.slice none 0 0)).aF 3 (.int i64 0))
   have cF := hF.cell
   refine bodyPost_ret (v := .tuple #[.agg (aP none 0 0 none 0 0 none 0 0 0), .bool false]) ?_ rfl ⟨[Value.slice none 0 0, .slice none 0 0, .slice none 0 0, .int i64 0], by rw [HVC.out], ?_, ?_⟩
   ·simp [results, Tryz.results12, go_sem, cF]
   ·rw [HV.out]; exact eu.Ll
   exact vN
 | true =>
   rw [hvc] at HC
   have HV : Hid (qF c = ⟨c.au.map jC, c.records, c.globals, c.main⟩) := by show _ = _; unfold qF; rw [if_pos hvc]
   have HVC := lH hvc
   have HFC : Hid (∀ r ∈ c.au, kg r.body) := Nk hvc
   clear hvc h
   refine HC.out.mono ?_; rintro e w1 ⟨rfl, hb1⟩
   replace ba := ba.later hb1
   replace bz := bz.later hb1
   have B1 : Below w.heap.size w w1 := B0.trans (hb1.mono B0.size)
   have hs1 : w.heap.size + 2 ≤ w1.heap.size := by have := hb1.size; simp at this; omega
   have ht1 := HTB.out _ _ ht (B1)
   replace hr := hr.below B1 hhi
   replace hd := hd.below B1 hhi
   replace hg := hg.below B1 hhi
   have hi1 : hi ≤ w1.heap.size := ah
   clear hb1 B0 HC ht HVP
   obtain ⟨cba, lba, fba⟩ := ba.all
   obtain ⟨cbz, lbz, fbz⟩ := bz.all
   have HG : Hid (Rds w1 lo hi 1 (.slice bK c.globals.length bC) c.globals.length (c.globals.map .string) ∧ ∀ u ∈ c.globals.map Value.string, u.oneCell' = true) := ⟨aW.rds.1 hg, by intro u hu; obtain ⟨s, -, rfl⟩ := List.mem_map.1 hu; rfl⟩
   have HD := lH hd
   have HR := lH hr
   clear hd hg hr
   have hgm : c.globals.length ≤ maxLen := by unfold maxLen; omega
   have hgb : c.globals.length * 16 ≤ 140737488355328 := ah
   go_upto_region 3 with fail
   go_cut [4] (fun p4 wx => ∃ (g4 hi4 : Nat) (A1 : Option Addr) (n1 : Nat) (A2 : Option Addr) (n2 : Nat), p4 = .pointer (some (aj g4 0)) ∧ Blk wx g4 28 (aP none 0 0 A1 c.records.length n1 A2 c.globals.length n2 c.main) ∧ Below w1.heap.size w1 wx ∧ w1.heap.size ≤ g4 ∧ hi4 ≤ wx.heap.size ∧ Hid (iM w1.heap.size hi4 g4 wx c (.slice A1 c.records.length n1) (.slice A2 c.globals.length n2)))
   case first =>
    have hab : w.heap.size < w1.heap.size := ba.lt
    go_region_held3 (fun w' => (∀ i, w'.cell? (aj w.heap.size i) = (aP dh c.au.length bP bM c.records.length bG bK c.globals.length bC c.main : Array Value)[i]?))
     (first | with_reducible exact ba.drew.cell | with_reducible exact (ba.alloc _).drew.cell | with_reducible exact ((ba.alloc _).alloc _).drew.cell | with_reducible exact baX.cell | with_reducible exact (baX.alloc _).cell | with_reducible exact ((baX.alloc _).alloc _).cell | with_reducible exact baX.aew _ _ _ _ ah | fail)
     (first
      | (go_at_call 18; refine (AQ c.records _ _ lo hi (HD.out.below (by repeat' first | with_reducible exact bX | with_reducible exact bR _ _ | with_reducible refine Below.drew ?_ | with_reducible refine Below.alloc ?_ oM _) hi1) oM HBD.out).mono ?_; rintro e wA ⟨vA, rfl, hrA, hbA⟩; obtain ⟨A1, n1, rfl, -, -⟩ := hrA.rep.shape; have zA := hbA.size; (try simp only [iX, kS] at zA); (first | have bE := (((Blk.new w1 9 #[]).alloc (.cells (aP none 0 0 none 0 0 none 0 0 0) 28)).drew).later hbA | have bE := ((Blk.newAt (w1.alloc (.cells (aP none 0 0 none 0 0 none 0 0 0) 28)) 9 #[] (w1.heap.size + 1) av).drew).later hbA | have bE := ((Blk.new w1 9 #[]).drew).later hbA | skip); (first | replace bZ := (bZ).later hbA | replace bZ := (bZ.alloc (.cells #[] 9)).later hbA | have bZ := (((Blk.new wB 28 (aP none 0 0 none 0 0 none 0 0 0)).alloc (.cells #[] 9))).later hbA | have bZ := ((Blk.newAt (wB.alloc (.cells #[] 9)) 28 (aP none 0 0 none 0 0 none 0 0 0) (wB.heap.size + 1) av)).later hbA | have bZ := ((Blk.new wB 28 (aP none 0 0 none 0 0 none 0 0 0))).later hbA | have bZ := (((Blk.new w1 28 (aP none 0 0 none 0 0 none 0 0 0)).alloc (.cells #[] 9)).drew).later hbA | have bZ := ((Blk.newAt (w1.alloc (.cells #[] 9)) 28 (aP none 0 0 none 0 0 none 0 0 0) (w1.heap.size + 1) av).drew).later hbA | have bZ := ((Blk.new w1 28 (aP none 0 0 none 0 0 none 0 0 0)).drew).later hbA | skip); (try clear cbZ fbZ lbZ); (first | (have cbZ := bZ.cell; have fbZ := bZ.frozen; have lbZ := bZ.lt) | skip); (first | have yh := (baX).later hbA | have yh := (baX.alloc _).later hbA | have yh := ((baX.alloc _).alloc _).later hbA | have yh := ((ba).drew).later hbA | have yh := ((ba.alloc _).drew).later hbA | have yh := (((ba.alloc _).alloc _).drew).later hbA); (try clear baX); have baX := yh; clear yh; (first | replace hoB := fA hoB (Below.trans (show Below wB.heap.size wB _ from (by repeat' first | with_reducible exact bR _ _ | with_reducible refine Below.alloc ?_ GA _)) (hbA.mono oM)) | skip); have bX' := Below.trans (show Below w1.heap.size w1 _ from (by repeat' first | with_reducible exact bX | with_reducible exact bR _ _ | with_reducible refine Below.drew ?_ | with_reducible refine Below.alloc ?_ oM _)) (hbA.mono oM); (try clear bX); have bX := bX'; clear bX'; have zX := bX.size)
      | (refine vw rfl (.tmp 14) (.tmp 16) 26 rfl 9 _ 1 16 AJ Tryz.underlying26 rfl aA _ rfl (by first | with_reducible exact bE | with_reducible exact bE.alloc _ | with_reducible exact Blk.new _ _ _ | with_reducible exact (Blk.new _ _ _).alloc _ | with_reducible exact (Blk.new _ _ _).drew | with_reducible exact ((Blk.new _ _ _).alloc _).drew | with_reducible exact (Blk.newAt _ _ _ _ av).drew | exact Blk.newAt _ _ _ _ av) lo hi _ c.globals.length (c.globals.map .string) rfl (HG.out.1.below (by repeat' first | with_reducible exact bX | with_reducible exact bR _ _ | with_reducible refine Below.drew ?_ | with_reducible refine Below.alloc ?_ oM _) hi1) HG.out.2 hgm hgb ?_; intro v1 wB hoB hgB Vi; obtain ⟨A2, n2, rfl, -, -, -⟩ := (Rds.dU hoB).shape; have hlB := hoB.lt; have zB := hgB.size; (try simp only [iX, kS] at zB); (first | have yh := (baX).grown hgB kL | have yh := (baX.alloc _).grown hgB kL | have yh := ((baX.alloc _).alloc _).grown hgB kL | have yh := ((ba).drew).grown hgB kL | have yh := ((ba.alloc _).drew).grown hgB kL | have yh := (((ba.alloc _).alloc _).drew).grown hgB kL); (try clear baX); have baX := yh; clear yh; (first | replace bZ := (bZ).grown hgB kL | replace bZ := (bZ.alloc (.cells #[] 9)).grown hgB kL | have bZ := (((Blk.new wA 28 #[Value.slice none 0 0, .slice none 0 0, .slice none 0 0, .int i64 0]).alloc (.cells #[] 9))).grown hgB kL | have bZ := ((Blk.newAt (wA.alloc (.cells #[] 9)) 28 #[Value.slice none 0 0, .slice none 0 0, .slice none 0 0, .int i64 0] (wA.heap.size + 1) av)).grown hgB kL | have bZ := ((Blk.new wA 28 #[Value.slice none 0 0, .slice none 0 0, .slice none 0 0, .int i64 0])).grown hgB kL | have bZ := (((Blk.new w1 28 #[Value.slice none 0 0, .slice none 0 0, .slice none 0 0, .int i64 0]).alloc (.cells #[] 9)).drew).grown hgB kL | have bZ := ((Blk.newAt (w1.alloc (.cells #[] 9)) 28 #[Value.slice none 0 0, .slice none 0 0, .slice none 0 0, .int i64 0] (w1.heap.size + 1) av).drew).grown hgB kL | have bZ := ((Blk.new w1 28 #[Value.slice none 0 0, .slice none 0 0, .slice none 0 0, .int i64 0]).drew).grown hgB kL | skip); (try clear cbZ fbZ lbZ); (first | (have cbZ := bZ.cell; have fbZ := bZ.frozen; have lbZ := bZ.lt) | skip); (first | replace hrA := hrA.kept (fun g h1 h2 => (hgB.block g GA (fun e => by injection e with e; (try simp only [iX, kS] at e h1); omega)).trans ((show Below wA.heap.size wA _ from (by repeat' first | with_reducible exact bR _ _ | with_reducible refine Below.alloc ?_ GA _)).block g h2)) | skip); have bX' := Below.grown (show Below w1.heap.size w1 _ from (by repeat' first | with_reducible exact bX | with_reducible exact bR _ _ | with_reducible refine Below.drew ?_ | with_reducible refine Below.alloc ?_ oM _)) hgB oM (fun b hb => by injection hb with hb; (try simp only [iX, kS] at hb); omega); (try clear bX); have bX := bX'; clear bX'; have zX := bX.size)
      | fail)
    all_goals (go_wp2_with fail; go_meet)
    all_goals first
     | (refine ⟨_, wB.heap.size, A1, n1, A2, n2, rfl, ?_, ?_, ?_, ?_, ?_⟩
        rotate_left 3
        ·exact JF
        ·exact N5
        ·exact JB
        ·exact Oq
        show w1.heap.size ≤ _
        (try simp only [iX]); omega)
     | (refine ⟨_, wA.heap.size, A1, n1, A2, n2, rfl, ?_, ?_, ?_, ?_, ?_⟩
        rotate_left 3
        ·exact JF
        ·exact N5
        ·exact JB
        ·exact Oq
        show w1.heap.size ≤ _
        (try simp only [iX]); omega)
   obtain ⟨g4, hi4, A1, n1, A2, n2, rfl, bo, BC, hg4, hh4, HPH⟩ := hcut
   clear cba lba fba cbz lbz fbz HG HD
   have hgl := bo.lt
   have baw := ba.later BC
   obtain ⟨cba, lba, fba⟩ := baw.all
   have P0 : Hid (Grow wc.heap.size 45 9 bO.aG wc ((c.au.take 0).map jC) (.slice none 0 0) []) := Grow.start (World.ownsRow_nil ..)
   go_wp2_with fail
   go_loopw [24] (fun i wr => ∃ (k n0 : Nat) (v0 : Option Addr) (vs : List Value), k ≤ c.au.length ∧ i = .int i64 k ∧ Hid (Grow wc.heap.size 45 9 bO.aG wr ((c.au.take k).map jC) (.slice v0 k n0) vs) ∧ Below w1.heap.size w1 wr ∧ Blk wr g4 28 (aP v0 k n0 A1 c.records.length n1 A2 c.globals.length n2 c.main) ∧ Hid (iM w1.heap.size hi4 g4 wr c (.slice A1 c.records.length n1) (.slice A2 c.globals.length n2)) ∧ wc.heap.size ≤ wr.heap.size) (fun i _ => c.au.length - (intOf i).toNat)
   case atStart => exact ⟨0, 0, none, [], nZ _, rfl, P0, BC, bo, HPH, nR _⟩
   clear P0 bo HPH cba lba fba
   obtain ⟨k, n0, v0, vs, hkl, rfl, hP, B2, bo, HPH, hwr⟩ := hrel
   have hln : ((c.au.take k).map jC).length = k := by rw [List.length_map, List.length_take]; omega
   have HLN := lH hln
   have hown := hP.out.own
   rw [hln] at hown
   clear hln
   replace baw := ba.below B2 ba.lt
   obtain ⟨cba, lba, fba⟩ := baw.all
   by_cases hlt : k < c.au.length
   ·obtain ⟨r, hx⟩ : ∃ r, c.au[k]? = some r := ⟨_, gE hlt⟩
    have hkr := HR.out.below B2 hi1
    have Um := B2.size
    have hiw : hi ≤ wr.heap.size := ah
    obtain ⟨g, off, As, ns, Ak, nk, rfl, hg1, hg2, hmem, hcr, q0, q1, q2, q3, q4, q5, q6, q7, q8⟩ := bO.at_ hkr hx
    obtain ⟨hsl, hkd⟩ := bO.rows hcr
    have HS : Hid (Rds wr lo hi 1 (.slice As r.slots.length ns) r.slots.length (r.slots.map .string) ∧ ∀ u ∈ r.slots.map Value.string, u.oneCell' = true) := ⟨aW.rds.1 hsl, by intro u hu; obtain ⟨s, -, rfl⟩ := List.mem_map.1 hu; rfl⟩
    obtain ⟨y, hy⟩ : ∃ y, aX r.body = y := ⟨_, rfl⟩
    have HK : Hid (∀ W, Below wr.heap.size wr W → Calls Tryz.prog 32 #[.agg (aB r.body.kind r.body.op r.body.number r.body.line r.body.text Ak r.body.kids.length nk)] W (FK ak.aG y W)) := fun W hW => by
     have h := HFO.out r.body Ak nk W lo hi (hkd.below hW hiw) (nT hiw hW.size) (HFC.out r hmem) (HRB.out r hmem).1 (HTB.out _ _ ht1 (B2.trans (hW.mono Um)))
     rw [hy] at h
     exact h
    have HX : Hid (((c.au.take (k + 1)).map jC) = ((c.au.take k).map jC) ++ [(⟨r.name, r.params, r.slots, y⟩ : bO)]) := by have h := Nj hx; unfold jC at h; rw [hy] at h; exact h
    have hbs := (HRB.out r hmem).2
    have hm1 : r.slots.length ≤ maxLen := by unfold maxLen; omega
    have hm2 : r.slots.length * 16 ≤ 140737488355328 := ah
    have hm3 : (k + 1) * 120 ≤ 140737488355328 := ah
    have e0 : (0 : Int) ≤ (k : Int) := ah
    have e8 : (k : Int) < (c.au.length : Int) := ah
    clear hkr hsl hkd hcr hx hy hmem
    go_wp2_with fail
    have bt := Blk.new wr 45 (fU r.name r.params As r.slots.length ns r.body.kind r.body.op r.body.number r.body.line r.body.text Ak r.body.kids.length nk)
    have bo1 := bo.alloc (.cells (fU r.name r.params As r.slots.length ns r.body.kind r.body.op r.body.number r.body.line r.body.text Ak r.body.kids.length nk) 45)
    have jQ := hown.alloc (.cells (fU r.name r.params As r.slots.length ns r.body.kind r.body.op r.body.number r.body.line r.body.text Ak r.body.kids.length nk) 45)
    have bW : Below wr.heap.size wr (wr.alloc (.cells (fU r.name r.params As r.slots.length ns r.body.kind r.body.op r.body.number r.body.line r.body.text Ak r.body.kids.length nk) 45)) := bA _ _
    obtain ⟨W1, hW1⟩ : ∃ W, wr.alloc (.cells #[Value.string r.name, r.params, .slice As r.slots.length ns, r.body.kind, r.body.op, r.body.number, r.body.line, r.body.text, .slice Ak r.body.kids.length nk] 45) = W := ⟨_, rfl⟩
    rw [hW1] at bt bo1 jQ bW ⊢
    clear hW1 q0 q1 q2 q3 q4 q5 q6 q7 q8 cba lba fba
    have zW := bW.size
    have afD : wr.heap.size ≠ g4 := ah
    have hwW : wr.heap.size < W1.heap.size := bt.lt
    obtain ⟨cbo, lbo, fbo⟩ := bo1.all
    refine pZ (S := fun w' => (∀ i, w'.cell? (aj wr.heap.size i) = (fU r.name r.params As r.slots.length ns r.body.kind r.body.op r.body.number r.body.line r.body.text Ak r.body.kids.length nk : Array Value)[i]?) ∧ w'.cell? (aj g4 0) = some (.slice v0 k n0)) (k := 17) aI ?_
    have btX := bt.drew
    have boX := bo1.drew
    have wQ : W1.drew.ownsRow _ _ _ _ _ _ := jQ
    have bW2 := bW.drew
    have zW2 : W1.heap.size ≤ W1.drew.heap.size := nR _
    generalize W1.drew = W2 at btX boX wQ bW2 zW2 ⊢
    clear bt bo1 jQ bW cbo lbo fbo bo hown
    have cT := btX.cell
    have cO := boX.cell 0
    have lO := boX.lt
    have fO := boX.frozen
    have aeI : ∀ b, Value.ownBlock (.slice v0 k n0) = some b → b < wr.heap.size := fun b hb => (hP.out.own.lt b hb).2
    have afE : g4 < wr.heap.size := ah
    have bX2 := bW2
    clear bW2
    refine iy 0 (v := ?_) rfl aI aI aI aI (fun _ _ _ h => h) (Or.inl ⟨aM, ?_⟩) ⟨cT, cO⟩ ?_
    rotate_left
    ·exact lV
    try simp only [Act.put, List.setIfInBounds_toArray, List.set_cons_zero, List.set_cons_succ]
    refine iy 1 (v := ?_) rfl aI aI aI aI (fun _ _ _ h => h) (Or.inl ⟨aM, ?_⟩) ⟨cT, cO⟩ ?_
    rotate_left
    ·exact lV
    try simp only [Act.put, List.setIfInBounds_toArray, List.set_cons_zero, List.set_cons_succ]
    refine iy 2 (v := ?_) rfl aI aI aI aI (fun _ _ _ h => h) (Or.inl ⟨aM, ?_⟩) ⟨cT, cO⟩ ?_
    rotate_left
    ·exact lV
    try simp only [Act.put, List.setIfInBounds_toArray, List.set_cons_zero, List.set_cons_succ]
    refine iy 3 (v := ?_) rfl aI aI aI aI (fun _ _ _ h => h) (Or.inl ⟨aM, ?_⟩) ⟨cT, cO⟩ ?_
    rotate_left
    ·exact lV
    try simp only [Act.put, List.setIfInBounds_toArray, List.set_cons_zero, List.set_cons_succ]
    refine iy 4 (v := ?_) rfl aI aI aI aI (fun _ _ _ h => h) (Or.inl ⟨aM, ?_⟩) ⟨cT, cO⟩ ?_
    rotate_left
    ·exact lV
    try simp only [Act.put, List.setIfInBounds_toArray, List.set_cons_zero, List.set_cons_succ]
    refine iy 5 (v := ?_) rfl aI aI aI aI (fun _ _ _ h => h) (Or.inl ⟨aM, ?_⟩) ⟨cT, cO⟩ ?_
    rotate_left
    ·exact lV
    try simp only [Act.put, List.setIfInBounds_toArray, List.set_cons_zero, List.set_cons_succ]
    refine iy 7 (v := ?_) rfl aI aI aI aI (fun _ _ _ h => h) (Or.inl ⟨aM, ?_⟩) ⟨cT, cO⟩ ?_
    rotate_left
    ·exact lV
    try simp only [Act.put, List.setIfInBounds_toArray, List.set_cons_zero, List.set_cons_succ]
    refine iy 8 (v := ?_) rfl aI aI aI aI (fun _ _ _ h => h) (Or.inl ⟨aM, ?_⟩) ⟨cT, cO⟩ ?_
    rotate_left
    ·exact lV
    try simp only [Act.put, List.setIfInBounds_toArray, List.set_cons_zero, List.set_cons_succ]
    refine iy 10 (v := ?_) rfl aI aI aI aI (fun _ _ _ h => h) (Or.inl ⟨aM, ?_⟩) ⟨cT, cO⟩ ?_
    rotate_left
    ·exact lV
    try simp only [Act.put, List.setIfInBounds_toArray, List.set_cons_zero, List.set_cons_succ]
    refine iy 11 (v := ?_) rfl aI aI aI aI (fun _ _ _ h => h) (Or.inl ⟨aM, ?_⟩) ⟨cT, cO⟩ ?_
    rotate_left
    ·exact lV
    try simp only [Act.put, List.setIfInBounds_toArray, List.set_cons_zero, List.set_cons_succ]
    refine dV [6] aI rfl ?_
    refine bS.aN rfl (fun K hK => ?_) bS.eO
    go_simp
    have bE := Blk.new W2 9 #[]
    have bXe := bX2.alloc ah (.cells #[] 9)
    have btE := btX.alloc (.cells #[] 9)
    have boE := boX.alloc (.cells #[] 9)
    have YF := wQ.alloc (.cells #[] 9)
    have zE : (W2.alloc (.cells #[] 9)).heap.size = W2.heap.size + 1 := av
    clear cT cO lO fO btX boX wQ bX2
    have btX := btE
    have boX := boE
    have wQ := YF
    have bX2 := bXe
    clear btE boE YF bXe
    have cT := btX.cell
    have cO := boX.cell 0
    have lO := boX.lt
    have fO := boX.frozen
    refine hK.out _ _ (fun _ => ⟨cT, cO⟩) ?_
    clear hK K
    try simp only [Act.put, List.setIfInBounds_toArray, List.set_cons_zero, List.set_cons_succ]
    refine dV [9] aI rfl ?_
    refine bS.aN rfl (fun K hK => ?_) bS.eO
    refine vw rfl (.tmp 34) (.tmp 36) 26 rfl 9 _ 1 16 AJ Tryz.underlying26 rfl aA _ rfl bE lo hi _ r.slots.length (r.slots.map .string) rfl (HS.out.1.below bX2 hiw) HS.out.2 hm1 hm2 ?_
    intro v1 wB hoB hgB Vi
    obtain ⟨A3, n3, rfl, -, -, -⟩ := (Rds.dU hoB).shape
    have hlB := hoB.lt
    have zB := hgB.size
    replace bX2 := bX2.grown hgB bX2.size (fun b hb => by injection hb with hb; omega)
    replace btX := btX.grown hgB aK
    replace boX := boX.grown hgB (fun e => by injection e with e; have := lO; omega)
    replace wQ := dR wQ fun b hb => hgB.block b (wQ.lt b hb).2 (fun e => by injection e with e; have := wQ.lt b hb; have := aeI b hb; omega)
    clear cT cO lO fO
    have cT := btX.cell
    have cO := boX.cell 0
    have lO := boX.lt
    have fO := boX.frozen
    refine hK.out _ _ (fun _ => ⟨cT, cO⟩) ?_
    clear hK K
    try simp only [Act.put, List.setIfInBounds_toArray, List.set_cons_zero, List.set_cons_succ]
    refine dV [12] aI rfl ?_
    refine bS.aN rfl (fun K hK => ?_) bS.eO
    go_simp
    go_at_call 32
    refine (HK.out _ bX2).mono ?_; rintro e wA ⟨cs, rfl, ⟨G, hG1, hG2, hG3⟩, hbA⟩; obtain ⟨Ay, ny, G', rfl, rfl, -⟩ := ak.pK hG1
    have zA := hbA.size
    have bXB := bX2
    replace btX := btX.later hbA
    replace boX := boX.later hbA
    replace wQ := fA wQ hbA
    replace bX2 := bX2.trans (hbA.mono bX2.size)
    replace hoB := fA hoB hbA
    clear cT cO lO fO
    have cT := btX.cell
    have cO := boX.cell 0
    have lO := boX.lt
    have fO := boX.frozen
    try go_wp2_with fail
    refine hK.out _ _ (fun _ => ⟨cT, cO⟩) ?_
    clear hK K
    try simp only [Act.put, List.setIfInBounds_toArray, List.set_cons_zero, List.set_cons_succ]
    refine iy 13 (v := ?_) rfl aI aI aI aI (fun _ _ _ h => h) (Or.inl ⟨aM, ?_⟩) ⟨cT, cO⟩ ?_
    rotate_left
    ·exact lV
    try simp only [Act.put, List.setIfInBounds_toArray, List.set_cons_zero, List.set_cons_succ]
    refine dV [14] aI rfl ?_
    refine bS.aN rfl (fun K hK => ?_) bS.eO
    go_simp
    refine hK.out _ _ (fun _ => ⟨(btX.alloc _).cell, (boX.alloc _).cell 0⟩) ?_
    clear hK K
    try simp only [Act.put, List.setIfInBounds_toArray, List.set_cons_zero, List.set_cons_succ]
    refine dV [15] aI rfl ?_
    refine bS.aN rfl (fun K hK => ?_) bS.eO
    refine zx (w := wA) wA.heap.size rfl rfl (.tmp 29) (.tmp 42) 24 rfl 45 _ 9 120 QB Tryz.underlying24 rfl aA aA wc.heap.size _ _ _ rfl wQ (fU r.name r.params A3 r.slots.length n3 y.kind y.op y.number y.line y.text Ay y.kids.length ny) 1 45 rfl ⟨rfl, rfl, rfl, rfl⟩ rfl eZ hm3 ah ?_
    intro v' wC hoC hgC YG
    obtain ⟨v3, n4, rfl, -⟩ := (Rds.dU hoC).shape
    have aeJ : some wr.heap.size ≠ Value.ownBlock (.slice v0 k n0) := fun e => by have := (wQ.lt _ e.symm).2; have := hP.out.own.lt _ e.symm; omega
    have aeK : some g4 ≠ Value.ownBlock (.slice v0 k n0) := fun e => by have := (wQ.lt _ e.symm).1; omega
    have bTC := btX.grown hgC aeJ
    have bOC := boX.grown hgC aeK
    clear cT cO lO fO
    have cT := bTC.cell
    have cO := bOC.cell 0
    have lO := bOC.lt
    have fO := bOC.frozen
    refine hK.out _ _ (fun _ => ⟨cT, cO⟩) ?_
    clear hK K
    try simp only [Act.put, List.setIfInBounds_toArray, List.set_cons_zero, List.set_cons_succ]
    refine iy 16 (v := ?_) rfl aI aI aI aI (fun _ _ _ h => h) (Or.inl ⟨aM, ?_⟩) ⟨cT, cO⟩ ?_
    rotate_left
    ·exact lV
    try simp only [Act.put, List.setIfInBounds_toArray, List.set_cons_zero, List.set_cons_succ]
    refine dV [17] aI rfl ?_
    refine bS.aN rfl (fun K hK => ?_) bS.eO
    go_simp
    refine hK.out _ _ (fun h => absurd rfl h) ?_
    clear hK K
    try simp only [Act.put, List.setIfInBounds_toArray, List.set_cons_zero, List.set_cons_succ]
    refine bY aI ?_ _
    obtain ⟨FF, hF1, hF2, hF3⟩ := Sw (c := (⟨r.name, r.params, r.slots, y⟩ : bO)) (lo := wr.heap.size) hoB (fun g hg => ⟨.inl (hlB g hg).2, by have := (hlB g hg).1; omega⟩) hG1 hG2 hG3 bXB.size
    have HP3 : Grow wc.heap.size 45 9 bO.aG wC ((c.au.take (k + 1)).map jC) (.slice v3 (k + 1) n4) (vs ++ [Value.string r.name, .int i64 r.params, .slice A3 r.slots.length n3, .int i64 y.kind, .int i64 y.op, .int i64 y.number, .int i64 y.line, .string y.text, .slice Ay y.kids.length ny]) := by
     rw [HX.out]
     exact hP.out.push bX2 hwr hF1 hF2 hF3 (by rw [HLN.out]; exact hoC) hgC YG
    have HP4 := lH (HP3.gQ (p := ⟨g4, 0, none⟩) hgl (.slice v3 (k + 1) n4))
    have B3 : Below w1.heap.size w1 wC := (B2.trans (bX2.mono Um)).grown hgC (nT Um bX2.size) (fun b hb => by have := (hP.out.own.lt b hb).1; omega)
    have B4 := B3.setCell (p := ⟨g4, 0, none⟩) hg4 (.slice v3 (k + 1) n4)
    have bo4 := bOC.aF 0 (.slice v3 (k + 1) n4)
    have aeL : Hid (iM w1.heap.size hi4 g4 (wC.setCell (aj g4 0) (.slice v3 (k + 1) n4)) c (.slice A1 c.records.length n1) (.slice A2 c.globals.length n2)) := HPH.out.kept fun g h1 h2 h3 => (Below.heap_setCell wC (aj g4 0) _ g h3).trans ((hgC.block g (by have := bX2.size; omega) (fun e => by have := (hP.out.own.lt g e.symm).1; omega)).trans (bX2.block g ah))
    have hs4 : wc.heap.size ≤ (wC.setCell (aj g4 0) (.slice v3 (k + 1) n4)).heap.size := nT (nT hwr (nT bX2.size hgC.size)) kr
    clear hoC hgC YG HP3 hF1 hF2 hF3 hoB hlB Vi hgB
    go_wp2_with fail
    go_roundw
    case rel => exact ⟨k + 1, n4, v3, _, ah, by go_num, HP4, B4, bo4, aeL, hs4⟩
    simp [intOf] <;> omega
   obtain rfl : k = c.au.length := by omega
   have hM : nS wr (fun g => w1.heap.size ≤ g ∧ g < wr.heap.size) (⟨c.au.map jC, c.records, c.globals, c.main⟩ : bg).aG [.slice v0 c.au.length n0, .slice A1 c.records.length n1, .slice A2 c.globals.length n2, .int i64 c.main] := HPH.out.prog (l := c.au.map jC) (by have h := hP.out; rw [List.take_length] at h; exact h) hh4 ah
   have HM := lH hM
   replace bz := bz.below B2 bz.lt
   obtain ⟨cbz, lbz, fbz⟩ := bz.all
   obtain ⟨cbo, lbo, fbo⟩ := bo.all
   have B5 : Below w.heap.size w wr := B1.trans (B2.mono ah)
   clear hM hP hown HPH hlt HLN
   go_wp2_with fail
   have hF := ((((bz.aF 0 (.slice v0 c.au.length n0)).aF 1 (.slice A1 c.records.length n1)).aF 2 (.slice A2 c.globals.length n2)).aF 3 (.int i64 c.main))
   have cF := hF.cell
   refine bodyPost_ret (v := .tuple #[.agg (aP v0 c.au.length n0 A1 c.records.length n1 A2 c.globals.length n2 c.main), .bool true]) ?_ rfl ⟨[Value.slice v0 c.au.length n0, .slice A1 c.records.length n1, .slice A2 c.globals.length n2, .int i64 c.main], by rw [HVC.out], ?_, ?_⟩
   ·simp [results, Tryz.results12, go_sem, cF]
   ·rw [HV.out]
    exact (((((HM.out.aF (p := ⟨w.heap.size + 1, 0, none⟩) dn _).aF (p := ⟨w.heap.size + 1, 1, none⟩) dn _).aF (p := ⟨w.heap.size + 1, 2, none⟩) dn _).aF (p := ⟨w.heap.size + 1, 3, none⟩) dn _)).weak fun g hg => ⟨ah, aJ⟩
   repeat' first | with_reducible exact B5 | with_reducible refine Below.setCell ?_ BM _
theorem Mc {laid : List (String × DataW Unit)} {W : World} (hf : laid.filter (fun x => x.1 == "strings.asciiSpace") = [("strings.asciiSpace", Rows.laid_strings_asciiSpace)]) (h : laidMet Tryz.prog laid W) : bT W := by
 have h0 : laidMet Tryz.prog (laid.filter fun x => x.1 == "strings.asciiSpace") W := laidMet.filter (fun x => x.1 == "strings.asciiSpace") h
 rw [hf] at h0
 have h2 := Lib.tabIs_of_head (k := .u8) (zs := Lib.asciiSpaceTab) (rest := []) ME aI Tryz.underlying114 Tryz.underlying5 aI aI h0
 exact ⟨h2, World.block_lt_of_cell? W _ (h2.cell ME 0 aA)⟩
theorem QI {laid : List (String × DataW Unit)} {W : World} (hf : laid.filter (fun x => x.1 == "internal/strconv.uint64pow10") = [("internal/strconv.uint64pow10", Rows.laid_internal_strconv_uint64pow10)]) (h : laidMet Tryz.prog laid W) : jw W := by
 have h0 : laidMet Tryz.prog (laid.filter fun x => x.1 == "internal/strconv.uint64pow10") W := laidMet.filter (fun x => x.1 == "internal/strconv.uint64pow10") h
 rw [hf] at h0
 have h2 := Lib.tabIs_of_head (k := .u64) (zs := Lib.pow10Tab) (rest := []) V7 aI Tryz.underlying272 Tryz.underlying239 aI aI h0
 exact ⟨h2, World.block_lt_of_cell? W _ (h2.cell V7 0 aA)⟩
end Go.Proofs.YthbcamfejgghhaaGreatDoor
