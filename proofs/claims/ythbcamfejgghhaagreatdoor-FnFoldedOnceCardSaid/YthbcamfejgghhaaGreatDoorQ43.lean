/- WV of the reference: some program of the call's own, its size bounded. A drawn program: some program, its size bounded. -/
import Derived.Test.YthbcamfejgghhaaGreatDoorQ40
import Derived.Test.YthbcamfejgghhaaGreatDoorQ42
set_option maxRecDepth 100000
set_option maxHeartbeats 64000000
set_option linter.unusedVariables false
set_option linter.unusedSimpArgs false
namespace Go.Proofs.YthbcamfejgghhaaGreatDoor
open Go.IntKind (i64)
section
open Go Go.RowKit
theorem QD : (Tryz.prog.info? 78).map (fun i => (i.zero, i.size, i.bytes)) = some (some (.agg (dS aC none 0 0 0)), 3, 48) := aI
theorem FX : (Tryz.prog.info? 45).map (fun i => (i.zero, i.size, i.bytes)) = some (some (.agg (fU aC 0 none 0 0 0 0 0 0 aC none 0 0)), 9, 120) := aI
def tY (c : bg) : Prop := c.au.length ≤ 12 ∧ sumOf bO.bI c.au ≤ 16800000000 ∧ c.records.length ≤ 8 ∧ sumOf ep.bI c.records ≤ 8000000 ∧ c.globals.length ≤ 12 ∧ sumOf ByteArray.size c.globals ≤ 1200000
def LwP (w : World) (e : Ending) (w' : World) : Prop := Below w.heap.size w w' ∧ (e = .returned (.tuple #[.agg (aP none 0 0 none 0 0 none 0 0 0), .bool false]) ∨ ∃ (c : bg) (b B : Nat) (A0 A1 A2 : Option Addr) (m0 m1 m2 : Nat), e = .returned (.tuple #[.agg (aP A0 c.au.length m0 A1 c.records.length m1 A2 c.globals.length m2 c.main), .bool true]) ∧
 w.heap.size ≤ B ∧ gK b B w'.heap.size 45 78 9 w' c (.slice A0 c.au.length m0) (.slice A1 c.records.length m1) (.slice A2 c.globals.length m2) ∧ tY c)
theorem xY {α : Type} {b : α → Nat} {K : Nat} : ∀ (l : List α), (∀ x ∈ l, b x ≤ K) → sumOf b l ≤ l.length * K
 | [], _ => by simp [sumOf]
 | x :: l, h => by
   have h1 := h x List.mem_cons_self
   have h2 := xY l fun y hy => h y (List.mem_cons_of_mem _ hy)
   simp only [sumOf, List.length_cons, Nat.succ_mul]
   omega
theorem zC {α : Type} {b : α → Nat} : ∀ (l l' : List α), sumOf b (l ++ l') = sumOf b l + sumOf b l'
 | [], l' => by simp [sumOf]
 | x :: l, l' => by simp only [List.cons_append, sumOf, zC l l']; omega
theorem Ed (u : fE) (A1 A2 A3 : Option Addr) (n1 n2 n3 : Nat) (w : World) (lo hi : Nat) (h : dZ w lo hi fE.aG (.agg (aQ A1 u.records.length n1 A2 u.globals.length n2 A3 u.procedures.length n3)) u) (hhi : hi ≤ w.heap.size) (hok : u.Okk) (hsm : u.Small) :
 Calls Tryz.prog 83 #[.agg (aQ A1 u.records.length n1 A2 u.globals.length n2 A3 u.procedures.length n3)] w (LwP w) := by
 have HU := lH h
 have HOK := lH hok
 have HSM := lH hsm
 obtain ⟨hr, hg, hp⟩ := fE.rows h
 have HR := lH hr
 have HG := lH hg
 have HP := lH hp
 obtain ⟨s1, s2, s3, -, -⟩ := hsm
 have bu0 := Blk.new w 122 (aQ A1 u.records.length n1 A2 u.globals.length n2 A3 u.procedures.length n3)
 have bz0 := Blk.newAt (w.alloc (.cells (aQ A1 u.records.length n1 A2 u.globals.length n2 A3 u.procedures.length n3) 122)) 28 (aP none 0 0 none 0 0 none 0 0 0) (w.heap.size + 1) av
 have bu := bu0.alloc (.cells (aP none 0 0 none 0 0 none 0 0 0) 28)
 have hb0 : Below w.heap.size w ((w.alloc (.cells (aQ A1 u.records.length n1 A2 u.globals.length n2 A3 u.procedures.length n3) 122)).alloc (.cells (aP none 0 0 none 0 0 none 0 0 0) 28)) := (bA _ _).alloc av _
 have hz0 : w.heap.size + 2 ≤ ((w.alloc (.cells (aQ A1 u.records.length n1 A2 u.globals.length n2 A3 u.procedures.length n3) 122)).alloc (.cells (aP none 0 0 none 0 0 none 0 0 0) 28)).heap.size := av
 clear h hok hr hg hp bu0
 go_in
 go_upto_region 1 with fail
 generalize (w.alloc (.cells (aQ A1 u.records.length n1 A2 u.globals.length n2 A3 u.procedures.length n3) 122)).alloc (.cells (aP none 0 0 none 0 0 none 0 0 0) 28) = W at *
 have cu := bu.cell
 have HC := lH (Ec u A1 A2 A3 n1 n2 n3 W lo hi (HU.out.below hb0 hhi) ah HOK.out HSM.out)
 go_wp2_with fail
 refine HC.out.mono ?_
 rintro e w2 ⟨⟨k, i, rfl⟩, hb⟩
 replace bu := bu.later hb
 replace bz0 := bz0.later hb
 have HB2 := lH (hb0.trans (hb.mono hb0.size))
 have hz2 := hb.size
 clear hb hb0 HC cu
 by_cases hk : k = 0
 ·subst hk
  have cu := bu.cell
  have jQ : (w2.alloc (.cells #[] 9)).ownsRow w2.heap.size 9 1 (.slice (some (aj w2.heap.size 0)) 0 0) 0 [] := qY (vs := []) rfl (nR _) (nZ _)
  have lu := bu.lt
  have hbE : Below w2.heap.size w2 (w2.alloc (.cells #[] 9)) := bA _ _
  have HRG : Hid (Rds (w2.alloc (.cells #[] 9)) lo hi 1 (.slice A2 u.globals.length n2) u.globals.length (u.globals.map .string)) := (aW.rds.1 (HG.out.below (HB2.out.trans (hbE.mono HB2.out.size)) hhi))
  have Io : Hid (∀ (l : List ByteArray), ∀ x ∈ l.map Value.string, x.oneCell' = true) := fun l x hx => by obtain ⟨y, -, rfl⟩ := List.mem_map.1 hx; rfl
  have HI0 := info_parts iK
  obtain ⟨i0, hi0, hi1, hi2, hi3⟩ := HI0
  have HI := lH (And.intro hi0 (And.intro hi1 (And.intro hi2 hi3)))
  clear hi0 hi1 hi2 hi3
  go_wp2_with (first | (at_builtin; go_loud (refine nu _ rfl (.tmp 23) (.tmp 25) 26 rfl w2.heap.size 9 i0 _ 1 16 Tryz.underlying26 HI.out.1 HI.out.2.1 HI.out.2.2.1 HI.out.2.2.2 rfl aA _ 0 _ rfl jQ _ _ _ u.globals.length _ rfl HRG.out (Io.out _) jG ah av ?_)) | fail)
  intro vg wg Nn hgg hag
  obtain ⟨Ag, ng, rfl, -⟩ := (Rds.dU Nn).shape
  have BU2 := lH bu
  have hbg : Below w2.heap.size w2 wg := hbE.grown hgg av (fun k e => by have e' : some w2.heap.size = some k := e; injection e' with e'; omega)
  obtain ⟨b, hbb⟩ : ∃ b, wg.heap.size = b := ⟨_, rfl⟩
  have PS : gK b w2.heap.size wg.heap.size 45 78 9 wg ⟨[], [], u.globals, 0⟩ (.slice none 0 0) (.slice none 0 0) (.slice Ag u.globals.length ng) := gK.start b w2.heap.size wg.heap.size _ _ _ Nn (nR _) (Nat.le_of_eq hbb)
  have hbo : Below wg.heap.size wg (wg.alloc (.cells (aP none 0 0 none 0 0 Ag u.globals.length ng 0) 28)) := bA _ _
  have PS1 := lH ((PS.kept (w' := wg.alloc (.cells (aP none 0 0 none 0 0 Ag u.globals.length ng 0) 28)) fun g _ hg _ => hbo.block g hg).wide hbo.size)
  have bo := Blk.newAt wg 28 (aP none 0 0 none 0 0 Ag u.globals.length ng 0) b hbb.symm
  have hb2 : Hid (Below w2.heap.size w2 (wg.alloc (.cells (aP none 0 0 none 0 0 Ag u.globals.length ng 0) 28))) := hbg.trans (hbo.mono hbg.size)
  have hB2 : w2.heap.size ≤ b := by have := hbg.size; omega
  have hbl : b < (wg.alloc (.cells (aP none 0 0 none 0 0 Ag u.globals.length ng 0) 28)).heap.size := bo.lt
  clear hgg hag hbg hbE jQ PS HRG HG hbo Nn
  go_upto_region 5 with fail
  generalize wg.alloc (.cells (aP none 0 0 none 0 0 Ag u.globals.length ng 0) 28) = W5 at *
  clear hbb cu
  replace bu := bu.later hb2.out
  have cu := bu.cell
  go_wp2_with fail
  go_loopw [7] (fun iv wx => ∃ (j : Nat) (Ar : Option Addr) (nr : Nat), j ≤ u.records.length ∧ iv = .int i64 j ∧ Hid (b < wx.heap.size ∧ gK b w2.heap.size wx.heap.size 45 78 9 wx ⟨[], u.records.take j, u.globals, 0⟩ (.slice none 0 0) (.slice Ar j nr) (.slice Ag u.globals.length ng)) ∧ Hid (Blk wx b 28 (aP none 0 0 Ar j nr Ag u.globals.length ng 0)) ∧ Hid (Below w2.heap.size w2 wx)) (fun iv _ => u.records.length - (intOf iv).toNat)
  case atStart => exact ⟨0, none, 0, nZ _, rfl, lH ⟨hbl, PS1.out⟩, lH bo, hb2⟩
  clear bo PS1 hb2 cu bu hbl
  obtain ⟨j, Ar, nr, hj, rfl, HPO, HBO, HBW⟩ := hrel
  have bu := (BU2.out).below HBW.out BU2.out.lt
  have cu := bu.cell
  by_cases hlt : j < u.records.length
  ·--<A
   obtain ⟨r, hx⟩ : ∃ r, u.records[j]? = some r := ⟨_, gE hlt⟩
   have HBA := lH (HB2.out.trans (HBW.out.mono HB2.out.size))
   obtain ⟨g, off, Af, nf, rfl, hg1, hg2, hmem, hcr, t0, t1, t2⟩ := ep.at_ (HR.out.below HBA.out hhi) hx
   have HF := lH (ep.rows hcr)
   have HX := lH hx
   have hfl : r.fields.length ≤ 6 := HSM.out.2.2.2.1 r hmem
   clear hx hcr hmem
   have hlj : (u.records.take j).length = j := by rw [List.length_take]; omega
   have HLJ := lH hlj
   have HPR := HPO.out.2
   have hbr : b < wr.heap.size := HPO.out.1
   obtain ⟨vs1, how⟩ := HPR.zl
   have how' : wr.ownsRow w2.heap.size 78 3 (.slice Ar j nr) j vs1 := by rw [← hlj]; simpa [hlj] using how
   have HPQ := lH HPR
   have hBr : w2.heap.size ≤ wr.heap.size := HBW.out.size
   have hiw : hi ≤ wr.heap.size := by have := HBA.out.size; omega
   have brr := Blk.new wr 78 (dS r.name Af r.fields.length nf r.line)
   have hbR : Below wr.heap.size wr (wr.alloc (.cells (dS r.name Af r.fields.length nf r.line) 78)) := bA _ _
   have bo1 := HBO.out.later hbR
   clear hlj HPR HPO how
   go_upto_region 9 with fail
   clear t0 t1 t2 cu bu
   generalize wr.alloc (.cells (dS r.name Af r.fields.length nf r.line) 78) = W1 at *
   refine jm 15 (fun w' => (∀ i, w'.cell? (aj wr.heap.size i) = (dS r.name Af r.fields.length nf r.line : Array Value)[i]?) ∧ (∀ i, w'.cell? (aj b i) = (aP none 0 0 Ar j nr Ag u.globals.length ng 0 : Array Value)[i]?)) 14 ?_
   replace brr := brr.drew
   replace bo1 := bo1.drew
   have hbD := hbR.trans ((Same.refl W1).drew.below wr.heap.size)
   clear hbR
   generalize W1.drew = Wd at *
   have cT := brr.cell
   have cP := bo1.cell
   have hzd := hbD.size
   have hrl := brr.lt
   refine tkB 0 ⟨cT, cP⟩ ?_
   refine tkB 1 ⟨cT, cP⟩ ?_
   refine tkB 2 ⟨cT, cP⟩ ?_
   refine tkB 3 ⟨cT, cP⟩ ?_
   refine tkB 5 ⟨cT, cP⟩ ?_
   refine tkB 6 ⟨cT, cP⟩ ?_
   refine tkB 8 ⟨cT, cP⟩ ?_
   refine tkB 9 ⟨cT, cP⟩ ?_
   refine rdA 4 (fun K hK => ?_)
   go_simp
   have jQ : (Wd.alloc (.cells #[] 9)).ownsRow Wd.heap.size 9 1 (.slice (some (aj Wd.heap.size 0)) 0 0) 0 [] := qY (vs := []) rfl (nR _) (nZ _)
   have hbE : Below Wd.heap.size Wd (Wd.alloc (.cells #[] 9)) := bA _ _
   replace brr := brr.later hbE
   replace bo1 := bo1.later hbE
   clear cT cP
   have cT := brr.cell
   have cP := bo1.cell
   refine fM hK ⟨cT, cP⟩ ?_
   clear hK K
   have hzE := hbE.size
   generalize Wd.alloc (.cells #[] 9) = We at *
   have rp : Rds We lo hi 1 (.slice Af r.fields.length nf) r.fields.length (r.fields.map .string) := ((aW.rds.1 HF.out).below hbD hiw).below hbE ah
   refine rdA 7 (fun K hK => ?_)
   refine rO aI (.tmp 44) (.tmp 46) 26 rfl Wd.heap.size 9 _ 1 16 iK Tryz.underlying26 rfl aA _ 0 _ rfl jQ _ _ _ r.fields.length _ rfl rp (Io.out _) jG ah ah ?_
   intro v3 w3 mP hg3' Sr
   have rA : w3.ownsRow Wd.heap.size 9 1 v3 r.fields.length (r.fields.map .string) := by simpa using mP
   have hb3 : Below Wd.heap.size Wd w3 := hbE.grown hg3' ah Ci
   replace brr := brr.grown hg3' (fun e => by have e' : some wr.heap.size = some Wd.heap.size := e; injection e' with e'; omega)
   replace bo1 := bo1.grown hg3' (fun e => by have e' : some b = some Wd.heap.size := e; injection e' with e'; omega)
   obtain ⟨Af3, nf3, rfl, -⟩ := (Rds.dU rA).shape
   have hb4 := hbD.trans (hb3.mono hbD.size)
   have hz3 := hb3.size
   have HOR : Hid (eu w3 wr.heap.size w3.heap.size r.aG [.string r.name, .slice Af3 r.fields.length nf3, .int i64 r.line]) := by
    have hov : aO w3 (flat aR r.fields) [] (r.fields.map .string) := oF _
    refine ⟨[] ++ ((_ ++ []) ++ ([] ++ [])), .aN .mkStr (.aN (dK.iV rA hov) (.aN .mkInt .eO)), ?_, fun g hg => ?_⟩
    ·simp; cases (Value.slice Af3 r.fields.length nf3).ownBlock <;> simp
    have hg : (Value.slice Af3 r.fields.length nf3).ownBlock = some g := by simpa using hg
    have := rA.lt g hg; omega
   clear mP Sr hg3' jQ cT cP rp hbE hb3 rA
   have cT := brr.cell
   have cP := bo1.cell
   have Ym := fA how' hb4
   refine fM hK ⟨cT, cP⟩ ?_
   clear hK K
   refine tkB 10 ⟨cT, cP⟩ ?_
   refine rdA 11 (fun K hK => ?_)
   go_simp
   refine fM hK ⟨(brr.alloc _).cell, (bo1.alloc _).cell⟩ ?_
   clear hK K
   refine rdA 12 (fun K hK => ?_)
   refine rV (w := w3) rfl (.tmp 41) (.tmp 51) 25 rfl 78 _ 3 48 QD Tryz.underlying25 rfl aA aA w2.heap.size _ _ _ rfl Ym (dS r.name Af3 r.fields.length nf3 r.line) 1 78 rfl (Same.refl _) rfl eZ ah ah ?_
   intro v' w7 Np LV Yn
   obtain ⟨A7, n7, rfl, -⟩ := (Rds.dU Np).shape
   have hne : ∀ k, Value.ownBlock (.slice Ar j nr) = some k → w2.heap.size ≤ k ∧ k < wr.heap.size ∧ k ≠ b := fun k hk => by
    have h1 := how'.lt k hk
    exact ⟨h1.1, h1.2, (HPQ.out.away k (.inr (.inl hk))).2.2⟩
   replace brr := brr.grown LV (fun e => by have := hne _ e.symm; omega)
   replace bo1 := bo1.grown LV (fun e => (hne _ e.symm).2.2 rfl)
   have HP7 := HPQ.out.RQ (w1 := w3) (w2 := w7) (nR _) hBr (fun g _ hg _ => hb4.block g hg) hbr hb4.size HOR.out (show wr.ownsRow _ _ _ _ (u.records.take j).length _ by rw [HLJ.out]; exact how') (show w7.ownsRow _ _ _ _ ((u.records.take j).length + 1) _ by rw [HLJ.out]; exact Np) LV (by rcases Yn with h | h; exact .inl h; exact .inr ⟨_, h, ah⟩)
   have HB7 : Below w2.heap.size w2 w7 := (HBW.out.trans (hb4.mono hBr)).grown LV ah (fun k e => (hne k e).1)
   clear cT cP Ym Np LV Yn HOR how'
   have cT := brr.cell
   have cP := bo1.cell
   refine fM hK ⟨cT, cP⟩ ?_
   clear hK K
   refine tkB 13 ⟨cT, cP⟩ ?_
   refine rdA 14 (fun K hK => ?_)
   have fn := bo1.frozen
   have ln := bo1.lt
   go_simp
   refine rE hK ?_
   clear hK K fn cT cP
   refine bY aI ?_ _
   have HT : Hid (u.records.take (j + 1) = u.records.take j ++ [r]) := gB HX.out
   have HP8 : Hid (gK b w2.heap.size (w7.setCell (aj b 1) (.slice A7 (j + 1) n7)).heap.size 45 78 9 (w7.setCell (aj b 1) (.slice A7 (j + 1) n7)) ⟨[], u.records.take (j + 1), u.globals, 0⟩ (.slice none 0 0) (.slice A7 (j + 1) n7) (.slice Ag u.globals.length ng)) := by
    show gK _ _ _ _ _ _ _ _ _ _ _
    rw [HT.out]
    exact (HP7.kept fun g _ _ hn => Below.heap_setCell w7 (aj b 1) _ g hn).wide kr
   have hb8 : b < (w7.setCell (aj b 1) (.slice A7 (j + 1) n7)).heap.size := by simpa [World.setCell] using ln
   have bo8 := lH (bo1.aF 1 (.slice A7 (j + 1) n7))
   have HB8 := lH (HB7.setCell (p := ⟨b, 1, none⟩) hB2 (.slice A7 (j + 1) n7))
   clear HP7 HB7 HPQ hb4 hbD brr bo1 ln
   go_wp2_with fail
   go_roundw
   case rel => exact ⟨j + 1, A7, n7, ah, by go_num, lH ⟨hb8, HP8.out⟩, bo8, HB8⟩
   simp [intOf]; omega
  obtain rfl : j = u.records.length := by omega
  clear hlt hj
  have Yo : Hid (b < wr.heap.size ∧ gK b w2.heap.size wr.heap.size 45 78 9 wr ⟨[], u.records, u.globals, 0⟩ (.slice none 0 0) (.slice Ar u.records.length nr) (.slice Ag u.globals.length ng)) := by have h := HPO.out; rw [List.take_length] at h; exact lH h
  clear HPO
  have W0 := wr
  go_wp2_with fail
  go_loopw [9] (fun iv wx => ∃ (rs : List bO) (mn : Int) (A0 : Option Addr) (n0 : Nat), rs.length ≤ u.procedures.length ∧ iv = .int i64 rs.length ∧ Hid (b < wx.heap.size ∧ gK b w2.heap.size wx.heap.size 45 78 9 wx ⟨rs, u.records, u.globals, mn⟩ (.slice A0 rs.length n0) (.slice Ar u.records.length nr) (.slice Ag u.globals.length ng)) ∧ Hid (Blk wx b 28 (aP A0 rs.length n0 Ar u.records.length nr Ag u.globals.length ng mn)) ∧ Hid (Below w2.heap.size w2 wx) ∧ Hid (∀ r ∈ rs, r.bI ≤ 1400000000)) (fun iv _ => u.procedures.length - (intOf iv).toNat)
  case atStart => exact ⟨[], 0, none, 0, nZ _, rfl, Yo, HBO, HBW, lH av⟩
  clear Yo HBO HBW cu bu
  obtain ⟨rs, mn, A0, n0, hj, rfl, HPO, HBO, HBW, HRB⟩ := hrel
  obtain ⟨wq, rfl⟩ := nW wr
  have bu := (BU2.out).below HBW.out BU2.out.lt
  have cu := bu.cell
  by_cases hlt : rs.length < u.procedures.length
  ·--<C
   obtain ⟨r, hx⟩ : ∃ r, u.procedures[rs.length]? = some r := ⟨_, gE hlt⟩
   have HBA := lH (HB2.out.trans (HBW.out.mono HB2.out.size))
   obtain ⟨g, off, Ap, np, Al, nl, Ab, nb, rfl, hg1, hg2, hmem, hcr, t0, t1, t2, t3, t4, t5, t6, t7, t8⟩ := iU.at_ (HP.out.below HBA.out hhi) hx
   have HSR := lH (iU.rows hcr)
   have HQS := lH (HSM.out.2.2.2.2 r hmem)
   have HQO := lH (HOK.out.2.2 r hmem)
   have hhr : hi ≤ wq.heap.size := by have := HBA.out.size; omega
   have HLN := lH (uj u A1 A2 (some (aj g off)) n1 n2 n3 (wq.alloc (.cells (dG r.name Ap r.params.length np Al r.locals.length nl r.bQ r.bU r.aZ r.bV Ab r.aT.length nb r.line) 181)) lo hi rs.length ((HU.out.below HBA.out hhi).below ((bR _ _).alloc (nR _) (.cells (dG r.name Ap r.params.length np Al r.locals.length nl r.bQ r.bU r.aZ r.bV Ab r.aT.length nb r.line) 181)) hhr) aJ HOK.out HSM.out hlt)
   clear hx hcr hmem
   have hbr : b < wq.heap.size := HPO.out.1
   have HPQ := lH HPO.out.2
   obtain ⟨vs0, how⟩ := HPQ.out.jQ
   have hBr : w2.heap.size ≤ wq.heap.size := HBW.out.size
   have br := Blk.new wq 181 (dG r.name Ap r.params.length np Al r.locals.length nl r.bQ r.bU r.aZ r.bV Ab r.aT.length nb r.line)
   have hbR : Below wq.heap.size wq (wq.alloc (.cells (dG r.name Ap r.params.length np Al r.locals.length nl r.bQ r.bU r.aZ r.bV Ab r.aT.length nb r.line) 181)) := bA _ _
   have hzR : wq.heap.size + 1 = (wq.alloc (.cells (dG r.name Ap r.params.length np Al r.locals.length nl r.bQ r.bU r.aZ r.bV Ab r.aT.length nb r.line) 181)).heap.size := av
   have bu1 := bu.later hbR
   clear HPO
   go_upto_region 14 with fail
   clear t0 t1 t2 t3 t4 t5 t6 t7 t8 cu bu
   generalize wq.alloc (.cells (dG r.name Ap r.params.length np Al r.locals.length nl r.bQ r.bU r.aZ r.bV Ab r.aT.length nb r.line) 181) = W1 at *
   have cu := bu1.cell
   go_wp2_with fail
   refine HLN.out.mono ?_
   rintro e wL ⟨lc, Alc, nlc, rfl, hown, Yp, aeW, hbL⟩
   have HLS := lH Yp
   have bu2 := bu1.later hbL
   have br2 := br.later hbL
   have hzL := hbL.size
   have Sy := hbR.trans (hbL.mono hbR.size)
   clear cu bu1 HLN Yp hbL hbR br
   have cu := bu2.cell
   have crr := br2.cell
   obtain ⟨p, hp⟩ : ∃ p, wL.heap.size = p := ⟨_, rfl⟩
   have bp := Blk.newAt wL 193 (gT A1 u.records.length n1 A2 u.globals.length n2 (some (aj g off)) u.procedures.length n3 Alc lc.length nlc lc.length) p hp.symm
   have hbp : Below wL.heap.size wL (wL.alloc (.cells (gT A1 u.records.length n1 A2 u.globals.length n2 (some (aj g off)) u.procedures.length n3 Alc lc.length nlc lc.length) 193)) := bA _ _
   have HLO : Hid (FW u A1 A2 (some (aj g off)) n1 n2 n3 0 p p lc Alc nlc r.body) := lH (E5 u A1 A2 (some (aj g off)) n1 n2 n3 0 p p lc Alc nlc r.body)
   have hub := HBA.out.trans (Sy.mono HBA.out.size)
   have HCL := lH (HLO.out Ab nb (wL.alloc (.cells (gT A1 u.records.length n1 A2 u.globals.length n2 (some (aj g off)) u.procedures.length n3 Alc lc.length nlc lc.length) 193)) lc.length ((((HSR.out.2.2.below Sy hhr).below hbp ah)).wide (nZ _) ah) ((((HU.out.below HBA.out hhi).below Sy hhr).below hbp ah).wide (nZ _) ah) (((aW.rds.2 (Rds.dU hown)).below hbp (nR _)).wide (nZ _) ah) (nR _) bp HQO.out.2.2.2.1 ah (by have := HQS.out.2.2; omega))
   have hzp : (wL.alloc (.cells (gT A1 u.records.length n1 A2 u.globals.length n2 (some (aj g off)) u.procedures.length n3 Alc lc.length nlc lc.length) 193)).heap.size = p + 1 := by simp [hp]
   go_upto_region 16 with fail
   have br3 := br2.later hbp
   clear cu crr HLO
   have crr := br3.cell
   have hlow := hown.lt
   have jD := fA hown hbp
   clear hown
   have bbp := Sy.trans (hbp.mono ah)
   clear hbp Sy br2 bu2 hub
   generalize wL.alloc (.cells (gT A1 u.records.length n1 A2 u.globals.length n2 (some (aj g off)) u.procedures.length n3 Alc lc.length nlc lc.length) 193) = W2 at *
   go_wp2_with fail
   refine HCL.out.mono ?_
   rintro e wB ⟨x, Ax, nx2, nx, rfl, hF, Sz, Yq, hn1, hn2, hbk⟩
   unfold ak.cells
   obtain ⟨m, rfl⟩ : ∃ m : Nat, nx = (m : Int) := ⟨nx.toNat, ah⟩
   have hm1 : lc.length ≤ m := ah
   have hm2 : m ≤ lc.length + 600 := by have := HQS.out.2.2; omega
   have hxb : x.bI ≤ 1200000000 := by have := HQS.out.2.2; omega
   have U7 : Blk wB p 193 (gT A1 u.records.length n1 A2 u.globals.length n2 (some (aj g off)) u.procedures.length n3 Alc lc.length nlc m) := by simpa using Yq
   have HF := lH hF
   have br4 := br3.grown Sz aK
   have ownB := dR jD fun k hk => Sz.block k (by have := (jD.lt k hk).2; omega) (fun e => by injection e with e; have := (hlow k hk).2; omega)
   have bbB := bbp.grown Sz ah (fun k e => by have e' : some p = some k := e; injection e' with e'; omega)
   have hzB := Sz.size
   clear crr HCL hF Sz jD br3 bbp hbk hn1 hn2 bp
   have hbX : Below wB.heap.size wB (wB.alloc (.cells (aB x.kind x.op x.number x.line x.text Ax x.kids.length nx2) 43)) := bA _ _
   have bb := Blk.new wB 43 (aB x.kind x.op x.number x.line x.text Ax x.kids.length nx2)
   have bpX := U7.later hbX
   have br5 := br4.later hbX
   have wQ := fA ownB hbX
   have bbX := bbB.trans (hbX.mono ah)
   go_upto_region 17 with fail
   have hzX : wB.heap.size + 1 = (wB.alloc (.cells (aB x.kind x.op x.number x.line x.text Ax x.kids.length nx2) 43)).heap.size := av
   have HX3 : Hid (∀ g, g < wB.heap.size → (wB.alloc (.cells (aB x.kind x.op x.number x.line x.text Ax x.kids.length nx2) 43)).heap[g]? = wB.heap[g]?) := fun g hg => hbX.block g hg
   clear hbX Yq U7 br4 ownB bbB
   generalize wB.alloc (.cells (aB x.kind x.op x.number x.line x.text Ax x.kids.length nx2) 43) = W3 at *
   have jQ : (W3.alloc (.cells #[] 9)).ownsRow W3.heap.size 9 1 (.slice (some (aj W3.heap.size 0)) 0 0) 0 [] := qY (vs := []) rfl (nR _) (nZ _)
   have hbE : Below W3.heap.size W3 (W3.alloc (.cells #[] 9)) := bA _ _
   have HRG : Hid (Rds (W3.alloc (.cells #[] 9)) _ _ 1 (.slice Alc lc.length nlc) lc.length (lc.map .string)) := Rds.dU (fA wQ hbE)
   go_wp2_with (first | (at_builtin; refine nu _ rfl (.tmp 77) (.tmp 78) 26 rfl W3.heap.size 9 i0 _ 1 16 Tryz.underlying26 HI.out.1 HI.out.2.1 HI.out.2.2.1 HI.out.2.2.2 rfl aA _ 0 _ rfl jQ _ _ _ lc.length _ rfl HRG.out (Io.out _) jG ah av ?_) | fail)
   intro vg wg Nn hgg hag
   obtain ⟨Ag2, ng2, rfl, -⟩ := (Rds.dU Nn).shape
   have hbg : Below W3.heap.size W3 wg := hbE.grown hgg av (fun k e => by have e' : some W3.heap.size = some k := e; injection e' with e'; omega)
   clear jQ hbE HRG hgg hag wQ
   have bp6 := bpX.later hbg
   have LP := lH bpX
   have ls0 : Hid (wg.ownsRow W3.heap.size 9 1 (.slice Ag2 lc.length ng2) lc.length ((lc ++ List.replicate 0 (aC : ByteArray)).map .string)) := by simpa using lH Nn
   have HBG := lH hbg
   clear Nn bp6 bpX
   go_wp2_with fail
   go_loopg [14] (m - lc.length) (fun gh v wx => ∃ (k : Nat) (As : Option Addr) (ns : Nat), lc.length + k ≤ m ∧ gh = m - lc.length - k ∧ v = .slice As (lc.length + k) ns ∧ Hid (wx.ownsRow W3.heap.size 9 1 (.slice As (lc.length + k) ns) (lc.length + k) ((lc ++ List.replicate k (aC : ByteArray)).map .string)) ∧ Hid (Below W3.heap.size W3 wx))
   case atStart => exact ⟨0, Ag2, ng2, hm1, rfl, rfl, ls0, HBG⟩
   clear ls0 HBG hbg
   obtain ⟨k, As, ns, hkm, rfl, rfl, HOS, HBS⟩ := hrel
   have bp7 := LP.out.later HBS.out
   have cp := bp7.cell
   by_cases hlt2 : lc.length + k < m
   ·have Wu := HOS.out
    have hzS := HBS.out.size
    have hl0 : ((lc.length + k : Nat) : Int) < (m : Int) := ah
    go_wp2_with (first | (at_builtin; refine dO rfl (.tmp 85) (.tmp 86) 26 rfl 9 _ 1 16 iK Tryz.underlying26 rfl aA aA W3.heap.size _ _ _ rfl Wu #[.string aC] 1 _ rfl rfl eZ ah hzS ?_) | fail)
    intro v' w8 rQ um Gz
    obtain ⟨A8, n8, rfl, -⟩ := (Rds.dU rQ).shape
    have hb8 := lH (gN HBS.out hzS Wu um)
    have F8 : Hid (w8.ownsRow W3.heap.size 9 1 (.slice A8 (lc.length + (k + 1)) n8) (lc.length + (k + 1)) ((lc ++ List.replicate (k + 1) (aC : ByteArray)).map .string)) := by
     show World.ownsRow _ _ _ _ _ _ _
     rw [List.replicate_succ', List.map_append, List.map_append, List.map_replicate, ← Nat.add_assoc]
     exact rQ
    clear rQ um Gz Wu cp
    go_wp2_with fail
    go_roundg (m - lc.length - (k + 1))
    case measure => omega
    exact ⟨k + 1, A8, n8, ah, rfl, by go_num, F8, hb8⟩
   obtain rfl : k = m - lc.length := by omega
   have hmm : lc.length + (m - lc.length) = m := ah
   rw [hmm] at HOS
   obtain ⟨sl, hsl⟩ : ∃ sl, lc ++ List.replicate (m - lc.length) (⟨#[]⟩ : ByteArray) = sl := ⟨_, rfl⟩
   have HSL : Hid (sl.length = m) := lH (by rw [← hsl, List.length_append, List.length_replicate, hmm])
   have HBK : Hid ((⟨r.name, r.params.length, sl, x⟩ : bO).bI ≤ 1400000000) := by
    show bO.bI _ ≤ _
    unfold bO.bI
    have h1 := xY (b := ByteArray.size) (K := 100000) lc HLS.out
    have h2 := xY (b := ByteArray.size) (K := 0) (List.replicate (m - lc.length) (aC : ByteArray)) (fun y hy => by rw [(List.mem_replicate.1 hy).2]; decide)
    have h3 := HQO.out.1
    have h4 := HSL.out
    have h5 : sumOf ByteArray.size sl = sumOf ByteArray.size lc + sumOf ByteArray.size (List.replicate (m - lc.length) (aC : ByteArray)) := by rw [← hsl, zC]
    show r.name.size + (sl.length + sumOf ByteArray.size sl) + x.bI ≤ _
    omega
   have HOT : Hid (wr.ownsRow W3.heap.size 9 1 (.slice As m ns) m (sl.map .string)) := by rw [← hsl]; exact HOS
   have bbS := HBS.out
   have HB6 : Hid (Below wq.heap.size wq wr) := bbX.trans (HBS.out.mono ah)
   have br6 := br5.later HBS.out
   have bb6 := bb.later HBS.out
   have bo6 := (HBO.out).later HB6.out
   obtain ⟨co, lo6, fo⟩ := bo6.all
   have crr := br6.cell
   have cp := bp7.cell
   have hl0 : ¬ (m : Int) < (m : Int) := ah
   have HBF := lH (HBW.out.trans (HB6.out.mono hBr))
   have HFX : Hid (∃ Kr, aO wr x.aG Kr (x.cells Ax nx2) ∧ (∀ g, Value.ownBlock (.slice As m ns) = some g → wq.heap.size ≤ g ∧ g ∉ Kr) ∧ ∀ g ∈ Kr, wq.heap.size ≤ g ∧ g < W3.heap.size) := by
    obtain ⟨Kr, f1, f2⟩ := HF.out
    have f3 := f1.lt
    have hs3 := HBS.out.size
    refine ⟨Kr, f1.kept fun g hg => (HBS.out.block g (by have := f3 g hg; omega)).trans (HX3.out g (f3 g hg)), fun g hg => ?_, fun g hg => ⟨by have := f2 g hg; omega, by have := f3 g hg; omega⟩⟩
    have h1 := (HOT.out.lt g hg).1
    exact ⟨ah, fun hm => by have := f3 g hm; omega⟩
   clear HOS hsl hkm HF HBS bbX br5 bb bbS
   rcases bE (r.name.toList == [109, 97, 105, 110]) with hmain | hmain
   ·go_upto_region 22 with fail
    have bo7 := bo6.aF 3 (.int i64 rs.length)
    have br7 := br6.far (p := ⟨b, 3, none⟩) (by show wq.heap.size ≠ b; omega) (.int i64 rs.length)
    have bb7 := bb6.far (p := ⟨b, 3, none⟩) (by show wB.heap.size ≠ b; omega) (.int i64 rs.length)
    have HKK : Hid (∀ g, g < wq.heap.size → g ≠ b → (wr.setCell (aj b 3) (.int i64 rs.length)).heap[g]? = wq.heap[g]?) := fun g hg hn => (Below.heap_setCell wr (aj b 3) _ g hn).trans (HB6.out.block g hg)
    have hz7 : wq.heap.size ≤ (wr.setCell (aj b 3) (.int i64 rs.length)).heap.size := by have := HB6.out.size; simpa [World.setCell] using this
    have HB7 := lH (HBF.out.setCell (p := ⟨b, 3, none⟩) hB2 (.int i64 rs.length))
    have LW := dR (w' := wr.setCell (aj b 3) (.int i64 rs.length)) HOT.out fun k hk => Below.heap_setCell wr (aj b 3) _ k (by show k ≠ b; have := (HOT.out.lt k hk).1; omega)
    have HX7 : Hid (∃ Kr, aO (wr.setCell (aj b 3) (.int i64 rs.length)) x.aG Kr (x.cells Ax nx2) ∧ (∀ g, Value.ownBlock (.slice As m ns) = some g → wq.heap.size ≤ g ∧ g ∉ Kr) ∧ ∀ g ∈ Kr, wq.heap.size ≤ g ∧ g < W3.heap.size) := by
     obtain ⟨Kr, f1, f2, f3⟩ := HFX.out
     exact ⟨Kr, f1.kept fun g hg => Below.heap_setCell wr (aj b 3) _ g (by show g ≠ b; have := (f3 g hg).1; omega), f2, f3⟩
    clear co fo lo6 crr cp bo6 br6 bb6 HBF HFX HOT
    generalize wr.setCell (aj b 3) (.int i64 rs.length) = W7 at *
    obtain ⟨Kr, hx1, hx2, hx3⟩ := HX7.out
    have HX7 := lH (And.intro hx1 (And.intro hx2 (fun g hg => (hx3 g hg).1)))
    clear hx1 hx2 hx3
    have HK7 : Hid (∀ g, g < wq.heap.size → g ≠ b → W7.heap[g]? = wq.heap[g]?) := HKK
    have co := bo7.cell
    have crr := br7.cell
    have cbb := bb7.cell
    have fo := bo7.frozen
    have lo7 := bo7.lt
    have hne : ∀ k, Value.ownBlock (.slice A0 rs.length n0) = some k → w2.heap.size ≤ k ∧ k < wq.heap.size ∧ k ≠ b := fun k hk => ⟨(how.lt k hk).1, (how.lt k hk).2, (HPQ.out.away k (.inl hk)).2.2⟩
    have vo : W7.ownsRow w2.heap.size 45 9 (.slice A0 rs.length n0) rs.length vs0 := dR how fun k hk => HK7.out k (hne k hk).2.1 (hne k hk).2.2
    have hrm : (rs.length + 1) * 120 ≤ 140737488355328 := ah
    go_wp2_with (first | (at_builtin; refine dO rfl (.tmp 94) (.tmp 103) 24 rfl 45 _ 9 120 FX Tryz.underlying24 rfl aA aA w2.heap.size _ _ _ rfl vo (fU r.name r.params.length As m ns x.kind x.op x.number x.line x.text Ax x.kids.length nx2) 1 _ rfl rfl eZ hrm ah ?_) | fail)
    intro v' w8 rQ um Gz
    obtain ⟨A8, n8, rfl, -⟩ := (Rds.dU rQ).shape
    have bo8 := bo7.grown um (fun e => (hne _ e.symm).2.2 rfl)
    have HP8 := HPQ.out.U2 (r := ⟨r.name, r.params.length, sl, x⟩) (v := .slice As m ns) (A := Ax) (n := nx2) (w1 := W7) (w2 := w8) (nR _) hBr (fun g _ hg hn => HK7.out g hg hn) hbr hz7 (e := 9) (show W7.ownsRow 0 _ 1 (.slice As m ns) sl.length _ by rw [HSL.out]; exact vO LW (nZ _)) HX7.out.1 HX7.out.2.1 HX7.out.2.2 how rQ um OI
    have HB8 : Below w2.heap.size w2 w8 := HB7.out.grown um ah (fun k e => (hne k e).1)
    have hb8 : b < (w8.setCell (aj b 0) (.slice A8 (rs.length + 1) n8)).heap.size := by simpa [World.setCell] using bo8.lt
    obtain ⟨cn8, ln8, fn8⟩ := bo8.all
    clear rQ um Gz vo co crr cbb fo lo7 bo7 br7 bb7 LW HX7 HB7
    have HP9 := lH ((HP8.kept (w' := w8.setCell (aj b 0) (.slice A8 (rs.length + 1) n8)) fun g _ _ hn => Below.heap_setCell w8 (aj b 0) _ g hn).wide (hi' := (w8.setCell (aj b 0) (.slice A8 (rs.length + 1) n8)).heap.size) kr)
    have bo9 := lH (bo8.aF 0 (.slice A8 (rs.length + 1) n8))
    have HB9 := lH (HB8.setCell (p := ⟨b, 0, none⟩) hB2 (.slice A8 (rs.length + 1) n8))
    clear HP8 HB8 bo8
    go_wp2_with fail
    go_roundw
    case rel => exact ⟨rs ++ [⟨r.name, r.params.length, sl, x⟩], (rs.length : Int), A8, n8, aJ, av, lH ⟨hb8, by have h := HP9.out; simpa using h.Se (rs.length : Int)⟩, by simpa using bo9, HB9, lH (fun y hy => by rcases mA hy with hy | hy; exact HRB.out y hy; rw [mS hy]; exact HBK.out)⟩
    simp [intOf]; omega
   have bo7 := bo6
   have br7 := br6
   have bb7 := bb6
   have HKK : Hid (∀ g, g < wq.heap.size → g ≠ b → wr.heap[g]? = wq.heap[g]?) := fun g hg _ => HB6.out.block g hg
   have hz7 := HB6.out.size
   have HB7 := HBF
   have LW := HOT.out
   have HX7 := HFX
   clear co fo lo6 cp bo6 br6 bb6 HBF HFX HOT
   obtain ⟨W7, rfl⟩ := nW wr
   clear crr
   obtain ⟨Kr, hx1, hx2, hx3⟩ := HX7.out
   have HX7 := lH (And.intro hx1 (And.intro hx2 (fun g hg => (hx3 g hg).1)))
   clear hx1 hx2 hx3
   have HK7 : Hid (∀ g, g < wq.heap.size → g ≠ b → W7.heap[g]? = wq.heap[g]?) := HKK
   have co := bo7.cell
   have crr := br7.cell
   have cbb := bb7.cell
   have fo := bo7.frozen
   have lo7 := bo7.lt
   have hne : ∀ k, Value.ownBlock (.slice A0 rs.length n0) = some k → w2.heap.size ≤ k ∧ k < wq.heap.size ∧ k ≠ b := fun k hk => ⟨(how.lt k hk).1, (how.lt k hk).2, (HPQ.out.away k (.inl hk)).2.2⟩
   have vo : W7.ownsRow w2.heap.size 45 9 (.slice A0 rs.length n0) rs.length vs0 := dR how fun k hk => HK7.out k (hne k hk).2.1 (hne k hk).2.2
   have hrm : (rs.length + 1) * 120 ≤ 140737488355328 := ah
   go_wp2_with (first | (at_builtin; refine dO rfl (.tmp 94) (.tmp 103) 24 rfl 45 _ 9 120 FX Tryz.underlying24 rfl aA aA w2.heap.size _ _ _ rfl vo (fU r.name r.params.length As m ns x.kind x.op x.number x.line x.text Ax x.kids.length nx2) 1 _ rfl rfl eZ hrm ah ?_) | fail)
   intro v' w8 rQ um Gz
   obtain ⟨A8, n8, rfl, -⟩ := (Rds.dU rQ).shape
   have bo8 := bo7.grown um (fun e => (hne _ e.symm).2.2 rfl)
   have HP8 := HPQ.out.U2 (r := ⟨r.name, r.params.length, sl, x⟩) (v := .slice As m ns) (A := Ax) (n := nx2) (w1 := W7) (w2 := w8) (nR _) hBr (fun g _ hg hn => HK7.out g hg hn) hbr hz7 (e := 9) (show W7.ownsRow 0 _ 1 (.slice As m ns) sl.length _ by rw [HSL.out]; exact vO LW (nZ _)) HX7.out.1 HX7.out.2.1 HX7.out.2.2 how rQ um OI
   have HB8 : Below w2.heap.size w2 w8 := HB7.out.grown um ah (fun k e => (hne k e).1)
   have hb8 : b < (w8.setCell (aj b 0) (.slice A8 (rs.length + 1) n8)).heap.size := by simpa [World.setCell] using bo8.lt
   obtain ⟨cn8, ln8, fn8⟩ := bo8.all
   clear rQ um Gz vo co crr cbb fo lo7 bo7 br7 bb7 LW HX7 HB7
   have HP9 := lH ((HP8.kept (w' := w8.setCell (aj b 0) (.slice A8 (rs.length + 1) n8)) fun g _ _ hn => Below.heap_setCell w8 (aj b 0) _ g hn).wide (hi' := (w8.setCell (aj b 0) (.slice A8 (rs.length + 1) n8)).heap.size) kr)
   have bo9 := lH (bo8.aF 0 (.slice A8 (rs.length + 1) n8))
   have HB9 := lH (HB8.setCell (p := ⟨b, 0, none⟩) hB2 (.slice A8 (rs.length + 1) n8))
   clear HP8 HB8 bo8
   go_wp2_with fail
   go_roundw
   case rel => exact ⟨rs ++ [⟨r.name, r.params.length, sl, x⟩], mn, A8, n8, aJ, av, lH ⟨hb8, by have h := HP9.out; simpa using h.Se mn⟩, by simpa using bo9, HB9, lH (fun y hy => by rcases mA hy with hy | hy; exact HRB.out y hy; rw [mS hy]; exact HBK.out)⟩
   simp [intOf]; omega
  have hrl : Hid (rs.length = u.procedures.length) := by show _ = _; omega
  have hBr : w2.heap.size ≤ wq.heap.size := HBW.out.size
  have bz := bz0.below HBW.out bz0.lt
  obtain ⟨cz, lz, fz⟩ := bz.all
  have co := HBO.out.cell
  have HPQ := lH HPO.out.2
  have hzz : w.heap.size + 1 < w2.heap.size := bz0.lt
  have hBA := lH (HB2.out.trans (HBW.out.mono HB2.out.size))
  have hmn : rs.length ≤ 12 := by have := hrl.out; omega
  have HBD : Hid (tY ⟨rs, u.records, u.globals, mn⟩) := by
   refine lH ⟨by show rs.length ≤ 12; omega, ?_, s1, ?_, s2, ?_⟩
   ·have := xY (b := bO.bI) (K := 1400000000) rs HRB.out
    show sumOf bO.bI rs ≤ _
    omega
   ·have := xY (b := ep.bI) (K := 700006) u.records (fun r hr => by
     have h1 := HOK.out.1 r hr
     have h2 := HSM.out.2.2.2.1 r hr
     have h3 := xY (b := ByteArray.size) (K := 100000) r.fields h1.2.1
     have h4 := h1.1
     unfold ep.bI
     omega)
    show sumOf ep.bI u.records ≤ _
    omega
   have := xY (b := ByteArray.size) (K := 100000) u.globals HOK.out.2.1
   show sumOf ByteArray.size u.globals ≤ _
   omega
  clear HPO HRB hj bu s1 s2 s3
  go_wp2_with fail
  have hF := ((((bz.aF 0 (.slice A0 rs.length n0)).aF 1 (.slice Ar u.records.length nr)).aF 2 (.slice Ag u.globals.length ng)).aF 3 (.int i64 mn))
  have cF := hF.cell
  refine bodyPost_ret (v := .tuple #[.agg (aP A0 rs.length n0 Ar u.records.length nr Ag u.globals.length ng mn), .bool true]) ?_ rfl ⟨?_, .inr ⟨⟨rs, u.records, u.globals, mn⟩, b, w2.heap.size, A0, Ar, Ag, n0, nr, ng, rfl, ah, ?_, HBD.out⟩⟩
  ·simp [results, Tryz.results83, go_sem, cF]
  ·exact (((hBA.out.setCell (p := ⟨w.heap.size + 1, 0, none⟩) av _).setCell (p := ⟨w.heap.size + 1, 1, none⟩) av _).setCell (p := ⟨w.heap.size + 1, 2, none⟩) av _).setCell (p := ⟨w.heap.size + 1, 3, none⟩) av _
  refine (HPQ.out.kept fun g h1 _ _ => ?_).wide kr
  simp only [Below.heap_setCell _ _ _ g (show g ≠ (⟨w.heap.size + 1, _, none⟩ : Addr).block by show g ≠ w.heap.size + 1; omega)]
 have hk' : (k != 0) = true := by simpa using hk
 obtain ⟨cz, lz, fz⟩ := bz0.all
 clear hk
 go_wp2_with fail
 have hF := ((((bz0.aF 0 (.slice none 0 0)).aF 1 (.slice none 0 0)).aF 2 (.slice none 0 0)).aF 3 (.int i64 0))
 have cF := hF.cell
 refine bodyPost_ret (v := .tuple #[.agg (aP none 0 0 none 0 0 none 0 0 0), .bool false]) ?_ rfl ⟨?_, .inl rfl⟩
 ·simp [results, Tryz.results83, go_sem, cF]
 exact (((HB2.out.setCell (p := ⟨w.heap.size + 1, 0, none⟩) av _).setCell (p := ⟨w.heap.size + 1, 1, none⟩) av _).setCell (p := ⟨w.heap.size + 1, 2, none⟩) av _).setCell (p := ⟨w.heap.size + 1, 3, none⟩) av _
end
section
open Go Go.RowKit
def aey (w : World) (e : Ending) (w' : World) : Prop := ∃ (c : bg) (b B : Nat) (A0 A1 A2 : Option Addr) (m0 m1 m2 : Nat), e = .returned (.agg (aP A0 c.au.length m0 A1 c.records.length m1 A2 c.globals.length m2 c.main)) ∧ w.heap.size ≤ B ∧ gK b B w'.heap.size 45 78 9 w' c (.slice A0 c.au.length m0) (.slice A1 c.records.length m1) (.slice A2 c.globals.length m2) ∧ tY c ∧ Below w.heap.size w w'
theorem LwP.some {w w' : World} {e : Ending} (h : LwP w e w') : ∃ (c : bg) (b B : Nat) (A0 A1 A2 : Option Addr) (m0 m1 m2 : Nat) (ok : Bool), e = .returned (.tuple #[.agg (aP A0 c.au.length m0 A1 c.records.length m1 A2 c.globals.length m2 c.main), .bool ok]) ∧ w.heap.size ≤ B ∧ gK b B w'.heap.size 45 78 9 w' c (.slice A0 c.au.length m0) (.slice A1 c.records.length m1) (.slice A2 c.globals.length m2) ∧ tY c ∧ Below w.heap.size w w' := by
 obtain ⟨hb, rfl | ⟨c, b, B, A0, A1, A2, m0, m1, m2, rfl, h1, h2, h3⟩⟩ := h
 ·exact ⟨⟨[], [], [], 0⟩, w'.heap.size, w.heap.size, none, none, none, 0, 0, 0, false, rfl, nR _, gK.start _ _ _ _ _ _ (gs := []) (World.ownsRow_nil ..) (nR _) (nR _), by simp [tY, sumOf], hb⟩
 exact ⟨c, b, B, A0, A1, A2, m0, m1, m2, true, rfl, h1, h2, h3, hb⟩
theorem BA (A : Option Addr) (n k hi : Nat) (bs : List Int) (w : World) (hr : Rds w 0 hi 1 (.slice A n k) n (bs.map (Value.int .u8))) (hhi : hi ≤ w.heap.size) (hn : n ≤ 1048576) : Calls Tryz.prog 45 #[.slice A n k] w (aey w) := by
 obtain ⟨bz, hb0⟩ := dQ w 28 (aP none 0 0 none 0 0 none 0 0 0)
 have HS := lH (Du A n k hi bs (w.alloc (.cells (aP none 0 0 none 0 0 none 0 0 0) 28)) (hr.below hb0 hhi) (nT hhi hb0.size) hn)
 clear hr
 go_in
 go_upto_region 1 with fail
 generalize w.alloc (.cells (aP none 0 0 none 0 0 none 0 0 0) 28) = W at *
 go_wp2_with fail
 refine HS.out.mono ?_
 rintro e w1 ⟨s, rfl, hs, hb1⟩
 have HB1 := lH (hb0.trans (hb1.mono hb0.size))
 replace bz := bz.later hb1
 clear hb0 hb1 HS
 go_wp2_with fail
 refine (Eb s w1 ah).mono ?_
 rintro e w2 ⟨u, v1, v2, v3, line, rfl, hb2, hown, hok, hsm⟩
 have HOK := lH hok
 have HSM := lH hsm
 have HU : Hid (dZ w2 0 w2.heap.size fE.aG (.agg #[v1, v2, v3]) u) := by
  obtain ⟨F, f1, -, f3⟩ := hown
  exact lH ⟨_, rfl, f1.rep fun g hg => ⟨nZ _, (f3 g hg).2⟩⟩
 obtain ⟨A1, n1, A2, n2, A3, n3, hx, -⟩ := fE.form HU.out
 injection hx with hx
 have hx := congrArg Array.toList hx
 simp only [List.cons.injEq, and_true] at hx
 obtain ⟨rfl, rfl, rfl⟩ := hx
 have HB2 := lH (HB1.out.trans (hb2.mono HB1.out.size))
 replace bz := bz.later hb2
 clear hok hsm hb2 hown HB1
 have hbU : Below w2.heap.size w2 (w2.alloc (.cells (aQ A1 u.records.length n1 A2 u.globals.length n2 A3 u.procedures.length n3) 122)) := bA _ _
 have bu := Blk.new w2 122 (aQ A1 u.records.length n1 A2 u.globals.length n2 A3 u.procedures.length n3)
 have HL := lH (Ed u A1 A2 A3 n1 n2 n3 (w2.alloc (.cells (aQ A1 u.records.length n1 A2 u.globals.length n2 A3 u.procedures.length n3) 122)) 0 w2.heap.size (HU.out.below hbU (nR _)) hbU.size HOK.out HSM.out)
 have HB3 := lH (HB2.out.trans (hbU.mono HB2.out.size))
 have hzU := hbU.size
 replace bz := bz.later hbU
 clear HB2 hbU HU HOK HSM
 go_upto_region 2 with fail
 generalize w2.alloc (.cells (aQ A1 u.records.length n1 A2 u.globals.length n2 A3 u.procedures.length n3) 122) = W2 at *
 have cu := bu.cell
 have hwz := bz.lt
 go_wp2_with fail
 refine HL.out.mono ?_
 rintro e w3 hl
 obtain ⟨c, b, B, A0, A1', A2', m0, m1, m2, ok, rfl, hB, hO, hbd, hb3⟩ := hl.some
 have HB4 := lH (HB3.out.trans (hb3.mono HB3.out.size))
 replace bz := bz.later hb3
 have hwB : w.heap.size < B := ah
 have HBD := lH hbd
 have hbP : Below w3.heap.size w3 (w3.alloc (.cells (aP A0 c.au.length m0 A1' c.records.length m1 A2' c.globals.length m2 c.main) 28)) := bA _ _
 have HO := lH ((hO.kept (w' := w3.alloc (.cells (aP A0 c.au.length m0 A1' c.records.length m1 A2' c.globals.length m2 c.main) 28)) fun g _ hg _ => hbP.block g hg).wide hbP.size)
 have bp := Blk.new w3 28 (aP A0 c.au.length m0 A1' c.records.length m1 A2' c.globals.length m2 c.main)
 have HB5 := lH (HB4.out.trans (hbP.mono HB4.out.size))
 replace bz := bz.later hbP
 clear hl hO hbd hb3 hbP HB4 cu HL HB3 bu
 go_upto_region 3 with fail
 generalize w3.alloc (.cells (aP A0 c.au.length m0 A1' c.records.length m1 A2' c.globals.length m2 c.main) 28) = W3 at *
 have cp := bp.cell
 obtain ⟨cz, lz, fz⟩ := bz.all
 go_wp2_with fail
 have hF := ((((bz.aF 0 (.slice A0 c.au.length m0)).aF 1 (.slice A1' c.records.length m1)).aF 2 (.slice A2' c.globals.length m2)).aF 3 (.int i64 c.main))
 have cF := hF.cell
 refine bodyPost_ret (v := .agg (aP A0 c.au.length m0 A1' c.records.length m1 A2' c.globals.length m2 c.main)) ?_ rfl ⟨c, b, B, A0, A1', A2', m0, m1, m2, rfl, ah, ?_, HBD.out, ?_⟩
 ·simp [results, Tryz.results45, go_sem, cF]
 ·refine (HO.out.kept fun g h1 _ _ => ?_).wide kr
  exact Je
 exact Ov
def U8 (w : World) (e : Ending) (w' : World) : Prop := ∃ (c : bg) (v : Value), e = .returned v ∧ dZ w' w.heap.size w'.heap.size bg.aG v c ∧ c.bI ≤ 20000000000 ∧ Below w.heap.size w w'
theorem tY.bI {c : bg} (h : tY c) : c.bI ≤ 17000000000 := by obtain ⟨h1, h2, h3, h4, h5, h6⟩ := h; unfold bg.bI; omega
theorem tY.turn {c : bg} {k : Nat} {r r' : bO} (h : tY c) (hx : c.au[k]? = some r) (hr : r'.bI ≤ r.bI + 100) : ({ c with au := c.au.take k ++ r' :: c.au.drop (k + 1) } : bg).bI ≤ 20000000000 := by
 obtain ⟨h1, h2, h3, h4, h5, h6⟩ := h
 have hd : c.au = c.au.take k ++ r :: c.au.drop (k + 1) := by
  obtain ⟨hk, rfl⟩ := List.getElem?_eq_some_iff.1 hx
  rw [← List.drop_eq_getElem_cons hk, List.take_append_drop]
 have e1 : sumOf bO.bI c.au = sumOf bO.bI (c.au.take k) + (r.bI + sumOf bO.bI (c.au.drop (k + 1))) := by (conv => lhs; rw [hd, zC]); rfl
 have e2 : sumOf bO.bI (c.au.take k ++ r' :: c.au.drop (k + 1)) = sumOf bO.bI (c.au.take k) + (r'.bI + sumOf bO.bI (c.au.drop (k + 1))) := by rw [zC]; rfl
 have e3 : (c.au.take k ++ r' :: c.au.drop (k + 1)).length = c.au.length := by
  have hk := (List.getElem?_eq_some_iff.1 hx).1
  simp; omega
 show ((c.au.take k ++ r' :: c.au.drop (k + 1)).length + sumOf bO.bI (c.au.take k ++ r' :: c.au.drop (k + 1))) + (c.records.length + sumOf ep.bI c.records) + (c.globals.length + sumOf ByteArray.size c.globals) ≤ _
 omega
section
variable {w : World} {lo b K : Nat} {ds : List Dat} {vs : List Value} {e : TypeId} {cs : Array Value}
theorem eF.Pz {m cap gr : Nat} (h : eF w lo b ds vs) (hr : Blk w gr e cs) (hs : cs.size = cap * K) (hm : m ≤ cap) (hv : vs.length = m * K) (ht : cs.toList.take (m * K) = vs) (hn : cap ≤ maxLen) (hB : lo ≤ gr) (hb : gr ≠ b) : eF w lo b [.row K m ds] [.slice (some (aj gr 0)) m cap] := by
 obtain ⟨F, h1, h2⟩ := h
 have ho : w.ownsRow 0 e K (.slice (some (aj gr 0)) m cap) m vs := ⟨hv, .inr ⟨gr, cap, cs, rfl, nZ _, hr, hm, hn, by rw [hs], ht⟩⟩
 refine ⟨((Value.slice (some (aj gr 0)) m cap).ownBlock.toList ++ F) ++ [], .aN (dK.iV ho h1) .eO, fun g hg => ?_⟩
 rw [List.append_nil] at hg
 rcases mA hg with hg | hg
 ·have hg : (Value.slice (some (aj gr 0)) m cap).ownBlock = some g := by simpa using hg
  exact JE
 exact h2 g hg
end
def Six (g o : Nat) (r : bO) (A : Option Addr) (n : Nat) (w : World) : Prop := w.cell? (aj g (o + 3)) = some (.int i64 r.body.kind) ∧ w.cell? (aj g (o + 4)) = some (.int i64 r.body.op) ∧ w.cell? (aj g (o + 5)) = some (.int i64 r.body.number) ∧ w.cell? (aj g (o + 6)) = some (.int i64 r.body.line) ∧ w.cell? (aj g (o + 7)) = some (.string r.body.text) ∧ w.cell? (aj g (o + 8)) = some (.slice A r.body.kids.length n)
theorem CR.keep {c q : Nat} {w w' : World} (h : CR c w w') (hq : q ≠ c ∧ q < w.heap.size) : w'.heap[q]? = w.heap[q]? := h.grown.block q hq.2 fun e => by injection e with e; exact hq.1 e
theorem CR.six {c g o n : Nat} {r : bO} {A : Option Addr} {w w' : World} (h : CR c w w') (hg : g ≠ c ∧ g < w.heap.size) (s : Six g o r A n w) : Six g o r A n w' := by
 have e := Px (h.keep hg)
 obtain ⟨s3, s4, s5, s6, s7, s8⟩ := s
 exact ⟨(e _).trans s3, (e _).trans s4, (e _).trans s5, (e _).trans s6, (e _).trans s7, (e _).trans s8⟩
theorem Cr {c : Nat} {w w1 w2 : World} (h : Below w.heap.size w w1) (k : CR c w1 w2) (hc : w.heap.size ≤ c) : Below w.heap.size w w2 := h.grown k.grown h.size fun q e => by injection e with e; omega
theorem eF.Ms {w : World} {lo b : Nat} {ds : List Dat} {vs : List Value} (h : eF w lo b ds vs) : ∃ F, aO w ds F vs ∧ ∀ q ∈ F, q ≠ b ∧ lo ≤ q := by
 obtain ⟨F, f1, f2⟩ := h
 exact ⟨F, f1, fun q hq => ⟨(f2 q hq).2, (f2 q hq).1⟩⟩
theorem eF.head {w : World} {lo b n : Nat} {c : ak} {A : Option Addr} (h : eF w lo b c.aG (c.cells A n)) (k o m line : Int) (t : ByteArray) : eF w lo b (ak.aG (.mk k o m line t c.kids)) (ak.cells (.mk k o m line t c.kids) A n) := by
 obtain ⟨F, h1, h2⟩ := h
 obtain ⟨A', n', F', rfl, hv, h3⟩ := ak.pK h1
 injection hv with _ hv; injection hv with _ hv; injection hv with _ hv; injection hv with _ hv; injection hv with _ hv; injection hv with hv _
 injection hv with hA _ hn
 subst hA hn
 exact eF.node ⟨F ++ [], .aN h3 .eO, by simpa using h2⟩ k o m line t
theorem Ip (A : Option Addr) (n k hi : Nat) (bs : List Int) (w : World) (hr : Rds w 0 hi 1 (.slice A n k) n (bs.map (Value.int .u8))) (hhi : hi ≤ w.heap.size) (hn : n ≤ 1048576) : Calls Tryz.prog 16 #[.slice A n k] w (U8 w) := by
 obtain ⟨bz, hb0⟩ := dQ w 28 (aP none 0 0 none 0 0 none 0 0 0)
 have HR := lH (hr.below hb0 hhi)
 have hhW : hi ≤ (w.alloc (.cells (aP none 0 0 none 0 0 none 0 0 0) 28)).heap.size := nT hhi hb0.size
 clear hr
 go_in
 go_upto_region 1 with fail
 generalize w.alloc (.cells (aP none 0 0 none 0 0 none 0 0 0) 28) = W at *
 have hwW := bz.lt
 have HN := lH (tO A n k hi bs W HR.out hhW hn)
 go_wp2_with fail
 refine HN.out.mono ?_
 rintro e w1 ⟨cb, rfl, hb1, hcb, hcur⟩
 have HPr := lH (BA A n k hi bs w1 (HR.out.below hb1 hhW) (nT hhW hb1.size) hn)
 have HQ1 := lH hcur
 have HB1 := lH (hb0.trans (hb1.mono hb0.size))
 have hz1 := hb1.size
 replace bz := bz.later hb1
 clear hcur hb1 hb0 HN
 go_wp2_with fail
 refine HPr.out.mono ?_
 rintro e w3 ⟨c, b, B, A0, A1, A2, m0, m1, m2, rfl, hB, hO, hbd, hb3⟩
 have HBD := lH hbd
 have hbP : Below w3.heap.size w3 (w3.alloc (.cells (aP A0 c.au.length m0 A1 c.records.length m1 A2 c.globals.length m2 c.main) 28)) := bA _ _
 have HO := lH (hO.kept (w' := w3.alloc (.cells (aP A0 c.au.length m0 A1 c.records.length m1 A2 c.globals.length m2 c.main) 28)) fun g _ hg _ => hbP.block g hg)
 obtain ⟨p, hp⟩ : ∃ p, w3.heap.size = p := ⟨_, rfl⟩
 have bp := Blk.newAt w3 28 (aP A0 c.au.length m0 A1 c.records.length m1 A2 c.globals.length m2 c.main) p hp.symm
 have hb4 := hb3.trans (hbP.mono hb3.size)
 have HQ := lH (HQ1.out.below (hb4.mono (nR _)))
 have HB4 := lH (HB1.out.trans (hb4.mono HB1.out.size))
 have hcl := HQ1.out.lt
 have hz3 := hb3.size
 replace bz := bz.later hb4
 have hne : cb ≠ p := ah
 have hzP : (w3.alloc (.cells (aP A0 c.au.length m0 A1 c.records.length m1 A2 c.globals.length m2 c.main) 28)).heap.size = p + 1 := by simp [hp]
 clear hO hbd hb3 hbP hb4 HPr HQ1
 go_upto_region 3 with fail
 rw [hp] at HO
 generalize w3.alloc (.cells (aP A0 c.au.length m0 A1 c.records.length m1 A2 c.globals.length m2 c.main) 28) = W3 at *
 have cp := bp.cell
 go_cut [18] (fun v wy => ∃ d : Bool, v = .bool d ∧ Hid (CR cb W3 wy) ∧ (d = false → 0 < c.au.length))
 case first =>
  by_cases h0 : c.au.length = 0
  ·have h0' : ((c.au.length : Int) == 0) = true := by simp [h0]
   have HZ := lH h0
   clear h0
   go_wp2_with fail
   go_meet
   exact ⟨true, rfl, lH (CR.refl _ _), fun h => by cases h⟩
  have h0' : ((c.au.length : Int) == 0) = false := bF ah
  have HO1 := lH (Be cb 3 W3 HQ.out aA aA)
  have HZ : Hid (0 < c.au.length) := by show _ < _; omega
  clear h0
  go_wp2_with fail
  refine HO1.out.mono ?_
  rintro e w5 ⟨v, rfl, hcr, d, rfl⟩
  have HC := lH hcr
  clear hcr HO1
  go_wp2_with fail
  go_meet
  exact ⟨!d, rfl, HC, fun _ => HZ.out⟩
 obtain ⟨d, rfl, HC, hd⟩ := hcut
 have hzc := HC.out.le
 have bz3 := (HC.out.blk bz ah)
 have bp3 := (HC.out.blk bp ah)
 have HQ3 := lH (HC.out.cur HQ.out)
 have HO3 := lH (HO.out.kept (w' := wc) fun g h1 _ _ => HC.out.grown.block g ah aK)
 have HB5 : Hid (Below w.heap.size w wc) := HB4.out.grown HC.out.grown (by have := HB4.out.size; omega) yN
 clear bz bp HC HQ HO HB4 cp
 have cp := bp3.cell
 obtain ⟨cz, lz, fz⟩ := bz3.all
 cases d with
 | true =>
   clear hd
   go_wp2_with fail
   have hF := ((((bz3.aF 0 (.slice A0 c.au.length m0)).aF 1 (.slice A1 c.records.length m1)).aF 2 (.slice A2 c.globals.length m2)).aF 3 (.int i64 c.main))
   have cF := hF.cell
   refine bodyPost_ret (v := .agg (aP A0 c.au.length m0 A1 c.records.length m1 A2 c.globals.length m2 c.main)) ?_ rfl ⟨c, _, rfl, ?_, nT HBD.out.bI aA, ?_⟩
   ·simp [results, Tryz.results16, go_sem, cF]
   ·refine (HO3.out.kept fun g h1 _ _ => ?_).rep.wide ah (nR _)
    exact Je
   exact Ov
 | false =>
   have hlen := hd rfl
   clear hd
   obtain ⟨vs0, hown0⟩ := HO3.out.jQ
   obtain ⟨g, cap, hv0, -⟩ := hown0.form hlen
   injection hv0 with hv1 _ hv2
   subst hv1 hv2
   have hgB := (hown0.lt g rfl).1
   have hgp := (HO3.out.away g (.inl rfl)).2.1
   have aeX : c.au.length ≤ 12 := HBD.out.1
   clear hown0
   go_upto_region 5 with fail
   refine jm 9 (fun w' => ∀ i, w'.cell? (aj p i) = (aP (some (aj g 0)) c.au.length m0 A1 c.records.length m1 A2 c.globals.length m2 c.main : Array Value)[i]?) 9 ?_
   have HQd := lH (HQ3.out.below ((Same.refl wc).drew.below _))
   have HOd := lH (HO3.out.kept (w' := wc.drew) fun _ _ _ _ => rfl)
   have HBd := lH (HB5.out.trans (((Same.refl wc).drew.below _).mono HB5.out.size))
   replace bz3 := bz3.drew
   replace bp3 := bp3.drew
   have hzd : wc.heap.size ≤ wc.drew.heap.size := nR _
   clear cp cz fz lz HQ3 HO3 HB5
   generalize wc.drew = Wd at *
   have cp := bp3.cell
   refine tkA 0 cp ?_
   refine tkA 1 cp ?_
   refine tkA 2 cp ?_
   refine tkA 3 cp ?_
   refine tkA 4 cp ?_
   refine tkA 5 cp ?_
   refine rdA 6 (fun K hK => ?_)
   go_simp
   have HBe := lH (gM cb c.au.length Wd HQd.out hlen ah)
   go_at_call 47
   refine HBe.out.mono ?_
   rintro e w5 ⟨v, rfl, hcr, kk, rfl, hkk⟩
   have hz5 := hcr.le
   have bz5 := hcr.blk bz3 ah
   have bp5 := hcr.blk bp3 ah
   have HQ5 := lH (hcr.cur HQd.out)
   have HO5 := lH (HOd.out.kept (w' := w5) fun g h1 _ _ => hcr.grown.block g ah aK)
   have HB5 : Hid (Below w.heap.size w w5) := HBd.out.grown hcr.grown (by have := HBd.out.size; omega) yN
   clear cp bz3 bp3 HQd HOd HBd HBe hcr
   have cp := bp5.cell
   refine fM hK cp ?_
   clear hK K
   have afB : (kk : Int) < (c.au.length : Int) := ah
   refine tkA 7 cp ?_
   refine tkA 8 cp ?_
   refine bY aI ?_ _
   have HE := lH (gM cb 8 w5 HQ5.out aA aA)
   go_wp2_with fail
   refine HE.out.mono ?_
   rintro e w6 ⟨v, rfl, hcr, x, rfl, hx8⟩
   have hz6 := hcr.le
   have bz6 := hcr.blk bz5 ah
   have bp6 := hcr.blk bp5 ah
   have HQ6 := lH (hcr.cur HQ5.out)
   have HO6 := lH (HO5.out.kept (w' := w6) fun g h1 _ _ => hcr.grown.block g ah aK)
   have HB6 : Hid (Below w.heap.size w w6) := HB5.out.grown hcr.grown (by have := HB5.out.size; omega) yN
   have hp6 : p < w6.heap.size := bp6.lt
   clear cp bz5 bp5 HQ5 HO5 HB5 HE hcr
   obtain ⟨r, hx⟩ : ∃ r, c.au[kk]? = some r := ⟨_, gE hkk⟩
   have HX := lH hx
   obtain ⟨g', cap', vsl, Ak, nk, e', Kr, hv0, hgl, hcell, hsl, hbo, hKr, hV, hfz, hturn⟩ := HO6.out.Ya ah hx
   injection hv0 with hv1 _ hv2
   injection hv1 with hv1
   injection hv1 with hv1
   subst hv1 hv2
   obtain ⟨As, ns, rfl, -⟩ := (Rds.dU hsl).shape
   have HSL := lH hsl
   have HTU := lH hturn
   have HKR := lH (And.intro hbo hKr)
   have t1 : w6.cell? (aj g (kk * 9 + 1)) = some (.int i64 r.params) := hcell 1 _ rfl
   have t2 : w6.cell? (aj g (kk * 9 + 2)) = some (.slice As r.slots.length ns) := hcell 2 _ rfl
   have t3 : w6.cell? (aj g (kk * 9 + 3)) = some (.int i64 r.body.kind) := hcell 3 _ rfl
   have t4 : w6.cell? (aj g (kk * 9 + 4)) = some (.int i64 r.body.op) := hcell 4 _ rfl
   have t5 : w6.cell? (aj g (kk * 9 + 5)) = some (.int i64 r.body.number) := hcell 5 _ rfl
   have t6 : w6.cell? (aj g (kk * 9 + 6)) = some (.int i64 r.body.line) := hcell 6 _ rfl
   have t7 : w6.cell? (aj g (kk * 9 + 7)) = some (.string r.body.text) := hcell 7 _ rfl
   have t8 : w6.cell? (aj g (kk * 9 + 8)) = some (.slice Ak r.body.kids.length nk) := hcell 8 _ rfl
   have HCL := lH hcell
   have SX : Hid (Six g (kk * 9) r Ak nk w6) := ⟨t3, t4, t5, t6, t7, t8⟩
   have GX : Hid (g ≠ cb ∧ g < w6.heap.size) := ⟨ah, hgl⟩
   clear hx hsl hturn hbo hKr hV hcell
   go_upto_block 0 with fail
   go_cut [] (fun wy => ∃ (c' : bg) (v0 v1 v2 : Value), Hid (Blk wy p 28 #[v0, v1, v2, c'.main]) ∧ Hid (Blk wy w.heap.size 28 (aP none 0 0 none 0 0 none 0 0 0)) ∧ Hid (dZ wy (w.heap.size + 1) wy.heap.size bg.aG (.agg #[v0, v1, v2, c'.main]) c') ∧ c'.bI ≤ 20000000000 ∧ Hid (Below w.heap.size w wy))
   case first =>
    rcases bE ((x : Int) == 0) with b0 | b0
    ·--<0
     have f1 := hfz 1
     have HS := lH (HTU.out (w.heap.size + 1) w6 1 [.int i64 (wrap64 (r.params + 1))] Ak nk { r with params := wrap64 (r.params + 1) } ah (fun _ _ _ => rfl) ah rfl av rfl ⟨Kr, HKR.out.1, fun q hq => ⟨(HKR.out.2 q hq).1, by have := (HKR.out.2 q hq).2.1; omega⟩⟩)
     go_wp2_with fail
     go_meet
     exact ⟨NK c kk { r with params := wrap64 (r.params + 1) }, _, _, _, lH (bp6.far (p := ⟨g, kk * 9 + 1, none⟩) (by show _ ≠ g; omega) (.int i64 (wrap64 (r.params + 1)))), lH (bz6.far (p := ⟨g, kk * 9 + 1, none⟩) (by show _ ≠ g; omega) (.int i64 (wrap64 (r.params + 1)))), HS, HBD.out.turn HX.out (show bO.bI r ≤ _ from Nat.le_add_right _ _), lH (HB6.out.setCell (p := ⟨g, kk * 9 + 1, none⟩) (by show w.heap.size ≤ g; omega) (.int i64 (wrap64 (r.params + 1))))⟩
    rcases bE ((x : Int) == 1) with b1 | b1
    ·--<1
     go_upto_region 10 with fail
     clear t1 t2 t3 t4 t5 t6 t7 t8
     refine jm 16 (Six g (kk * 9) r Ak nk) 15 ?_
     have KP := lH (CR.drew cb w6)
     have hz := KP.out.le
     generalize w6.drew = Wd at *
     refine tkB 0 (KP.out.six GX.out SX.out) ?_
     refine tkB 1 (KP.out.six GX.out SX.out) ?_
     refine tkB 4 (KP.out.six GX.out SX.out) ?_
     refine tkB 7 (KP.out.six GX.out SX.out) ?_
     refine tkB 8 (KP.out.six GX.out SX.out) ?_
     refine tkB 9 (KP.out.six GX.out SX.out) ?_
     refine tkB 10 (KP.out.six GX.out SX.out) ?_
     refine tkB 11 (KP.out.six GX.out SX.out) ?_
     refine rdA 2 (fun K hK => ?_)
     go_simp
     have HE := lH (gM cb 31 Wd (KP.out.cur HQ6.out) aA aA)
     go_at_call 47
     refine HE.out.mono ?_
     rintro e Wa ⟨v, rfl, hcr, y, rfl, hyy⟩
     replace KP := lH (KP.out.trans hcr)
     replace hz := KP.out.le
     clear hcr HE
     refine fM hK (KP.out.six GX.out SX.out) ?_
     clear hK K
     have hwy : IntKind.i64.wrap ((y : Int) - 1) = (y : Int) - 1 := IntWalk.i64_in _ ah
     refine tkB 3 (KP.out.six GX.out SX.out) ?_
     refine rdA 5 (fun K hK => ?_)
     go_simp
     have HE := lH (gM cb 3 Wa (KP.out.cur HQ6.out) aA aA)
     go_at_call 47
     refine HE.out.mono ?_
     rintro e Wb ⟨v, rfl, hcr, z, rfl, hyz⟩
     replace KP := lH (KP.out.trans hcr)
     replace hz := KP.out.le
     clear hcr HE
     refine fM hK (KP.out.six GX.out SX.out) ?_
     clear hK K
     have hwz : IntKind.i64.wrap ((z : Int) - 1) = (z : Int) - 1 := IntWalk.i64_in _ ah
     refine tkB 6 (KP.out.six GX.out SX.out) ?_
     refine tkB 12 (KP.out.six GX.out SX.out) ?_
     refine rdA 13 (fun K hK => ?_)
     go_simp
     refine fM hK (KP.out.six GX.out SX.out) ?_
     clear hK K
     refine tkB 14 (KP.out.six GX.out SX.out) ?_
     refine rdA 15 (fun K hK => ?_)
     obtain ⟨s3, s4, s5, s6, s7, s8⟩ := (KP.out.six GX.out SX.out)
     have f3 := (gV (KP.out.keep GX.out) _).trans (hfz 3)
     have f4 := (gV (KP.out.keep GX.out) _).trans (hfz 4)
     have f5 := (gV (KP.out.keep GX.out) _).trans (hfz 5)
     have f6 := (gV (KP.out.keep GX.out) _).trans (hfz 6)
     have f7 := (gV (KP.out.keep GX.out) _).trans (hfz 7)
     have f8 := (gV (KP.out.keep GX.out) _).trans (hfz 8)
     go_simp
     refine rE hK ?_
     clear hK K s3 s4 s5 s6 s7 s8 f3 f4 f5 f6 f7 f8
     refine bY aI ?_ _
     have HXB : eF Wb (w.heap.size + 1) g r.body.aG (r.body.cells Ak nk) := ⟨Kr, HKR.out.1.kept fun q hq => KP.out.keep ⟨by have := (HKR.out.2 q hq).2.1; omega, by have := (HKR.out.2 q hq).2.2; omega⟩, fun q hq => ⟨by have := (HKR.out.2 q hq).2.1; omega, (HKR.out.2 q hq).1⟩⟩
     have HBK : (ak.mk ((y : Int) - 1) 0 ((z : Int) - 1) 0 aC r.body.kids).bI ≤ r.body.bI + 100 := by rw [ak.kX, r.body.kX]; show ByteArray.size aC + (r.body.kids.length + eT r.body.kids) ≤ _; have : ByteArray.size aC = 0 := rfl; omega
     have HOT := (HXB.head ((y : Int) - 1) 0 ((z : Int) - 1) 0 aC).Ms
     have HS := lH (HTU.out (w.heap.size + 1) Wb 3 [Value.int i64 ((y : Int) - 1), .int i64 0, .int i64 ((z : Int) - 1), .int i64 0, .string aC, .slice Ak r.body.kids.length nk] (Ak) nk { r with body := (ak.mk ((y : Int) - 1) 0 ((z : Int) - 1) 0 aC r.body.kids) } ah F5 ah rfl av rfl HOT)
     have bpw := KP.out.blk bp6 ah
     have bzw := KP.out.blk bz6 ah
     go_wp2_with fail
     go_meet
     exact ⟨NK c kk { r with body := (ak.mk ((y : Int) - 1) 0 ((z : Int) - 1) 0 aC r.body.kids) }, _, _, _, lH (bpw.PL ah), lH (bzw.PL ah), HS, HBD.out.turn HX.out (show bO.bI _ ≤ _ from nT (Nat.add_le_add_left HBK (r.name.size + (r.slots.length + sumOf ByteArray.size r.slots))) (Nat.le_of_eq (Nat.add_assoc _ _ _).symm)), lH (xx (Cr HB6.out KP.out ah) ah)⟩
    rcases bE ((x : Int) == 2) with b2 | b2
    ·--<2
     by_cases hs0 : 0 < r.slots.length
     ·obtain ⟨g2, cap2, gs, cs, hv2, ht2, ⟨aez, aeA, afC⟩, ⟨us, hus⟩, hfs, hsr⟩ := HO6.out.Yb HX.out hs0
      injection hv2 with hv2 _ _
      injection hv2 with hv2
      injection hv2 with hv2
      subst hv2
      rw [t2] at ht2
      injection ht2 with ht2
      injection ht2 with ht2 _ ht3
      subst ht2 ht3
      have HSR := lH (hsr aC)
      have HBK : ({ r with slots := aC :: r.slots.tail } : bO).bI ≤ r.bI + 100 := by
       obtain ⟨s0, ss, hss⟩ : ∃ s0 ss, r.slots = s0 :: ss := by
        cases hq : r.slots with
        | nil => rw [hq] at hs0; simp at hs0
        | cons s0 ss => exact ⟨s0, ss, rfl⟩
       unfold bO.bI
       rw [hss]
       simp only [List.tail_cons, List.length_cons, sumOf]
       have : ByteArray.size aC = 0 := rfl
       omega
      have hs1 : (0 : Int) < (r.slots.length : Int) := ah
      clear hsr hs0
      go_wp2_with fail
      go_meet
      exact ⟨{ c with au := c.au.take kk ++ { r with slots := aC :: r.slots.tail } :: c.au.drop (kk + 1) }, _, _, _, lH (bp6.far (p := ⟨gs, 0, none⟩) (by show p ≠ gs; omega) _), lH (bz6.far (p := ⟨gs, 0, none⟩) (by show w.heap.size ≠ gs; omega) _), lH (HSR.out.wide ah (nR _)), HBD.out.turn HX.out HBK, lH (HB6.out.setCell (p := ⟨gs, 0, none⟩) (by show w.heap.size ≤ gs; omega) _)⟩
     have hs1 : ¬ (0 : Int) < (r.slots.length : Int) := ah
     clear hs0
     go_wp2_with fail
     go_meet
     exact ⟨c, _, _, _, lH bp6, lH bz6, lH (HO6.out.rep.wide ah (nR _)), nT HBD.out.bI aA, HB6⟩
    rcases bE ((x : Int) == 3) with b3 | b3
    ·--<3
     have HE := lH (gM cb 5 w6 HQ6.out aA aA)
     clear t1 t2 t3 t4 t5 t6 t7 t8
     go_wp2_with fail
     refine HE.out.mono ?_
     rintro e wa ⟨v, rfl, hcr, y, rfl, hy⟩
     have bpa := hcr.blk bp6 ah
     have bza := hcr.blk bz6 ah
     have HOa := lH (HO6.out.kept (w' := wa) fun q h1 _ _ => hcr.grown.block q ah aK)
     have HBa : Hid (Below w.heap.size w wa) := HB6.out.grown hcr.grown (by have := HB6.out.size; omega) yN
     have hwy : IntKind.i64.wrap ((y : Int) - 1) = (y : Int) - 1 := IntWalk.i64_in _ ah
     clear hcr HE
     obtain ⟨ca, la, fa⟩ := bpa.all
     go_wp2_with fail
     go_meet
     exact ⟨{ c with main := (y : Int) - 1 }, _, _, _, lH (bpa.aF 3 (.int i64 ((y : Int) - 1))), lH (bza.far (p := ⟨p, 3, none⟩) qQ _), lH (((HOa.out.kept (w' := wa.setCell (aj p 3) (.int i64 ((y : Int) - 1))) fun q _ h2 _ => Below.heap_setCell wa (aj p 3) _ q (by show q ≠ p; omega)).Se ((y : Int) - 1)).rep.wide ah (nR _)), nT HBD.out.bI aA, lH (HBa.out.setCell (p := ⟨p, 3, none⟩) (by show w.heap.size ≤ p; omega) _)⟩
    rcases bE ((x : Int) == 4) with b4 | b4
    ·--<4
     have jD := HO6.out.jD
     have Ui : c.globals.length ≤ 12 := HBD.out.2.2.2.2.1
     clear t1 t2 t3 t4 t5 t6 t7 t8
     have ca := bp6.cell
     have hBz : B ≤ w6.heap.size := ah
     go_wp2_with (first | (at_builtin; refine dO rfl (.tmp 79) (.tmp 80) 26 rfl 9 _ 1 16 iK Tryz.underlying26 rfl aA aA B _ _ _ rfl jD #[.string ⟨#[105, 102]⟩] 1 _ rfl rfl eZ ah hBz ?_) | fail)
     intro v' w8 rQ um Gz
     obtain ⟨A8, n8, rfl, -⟩ := (Rds.dU rQ).shape
     have hne2 : ∀ q, Value.ownBlock (.slice A2 c.globals.length m2) = some q → B ≤ q ∧ q < p := fun q hq => ⟨(HO6.out.away q (.inr (.inr hq))).1, (HO6.out.away q (.inr (.inr hq))).2.1⟩
     have bp8 := bp6.grown um (fun e => by have := hne2 _ e.symm; omega)
     have bz8 := bz6.grown um (fun e => by have := hne2 _ e.symm; omega)
     have HB8 := lH (HB6.out.grown um (by have := HB6.out.size; omega) (fun q e => by have := hne2 q e; omega))
     have HS : Hid (dZ (w8.setCell (aj p 2) (.slice A8 (c.globals.length + 1) n8)) B (w8.setCell (aj p 2) (.slice A8 (c.globals.length + 1) n8)).heap.size bg.aG (.agg (aP (some (aj g 0)) c.au.length m0 A1 c.records.length m1 A8 (c.globals.length + 1) n8 c.main)) { c with globals := c.globals ++ [⟨#[105, 102]⟩] }) := HO6.out.Wm (P := p) ah av rQ um (nR _) (fun e => by rcases Gz with h | h; (rw [h] at e; have := hne2 _ e; omega); (rw [h] at e; injection e with e; omega)) (fun q hq => Below.heap_setCell w8 (aj p 2) _ q hq)
     have HBK : ({ c with globals := c.globals ++ [⟨#[105, 102]⟩] } : bg).bI ≤ 20000000000 := by
      have h1 := HBD.out.bI
      unfold bg.bI at h1 ⊢
      show _ + ((c.globals ++ [(⟨#[105, 102]⟩ : ByteArray)]).length + sumOf ByteArray.size (c.globals ++ [(⟨#[105, 102]⟩ : ByteArray)])) ≤ _
      rw [zC, List.length_append]
      have h2 : sumOf ByteArray.size [(⟨#[105, 102]⟩ : ByteArray)] = 2 := rfl
      have h3 : [(⟨#[105, 102]⟩ : ByteArray)].length = 1 := rfl
      show (c.au.length + sumOf bO.bI c.au) + (c.records.length + sumOf ep.bI c.records) + _ ≤ _
      omega
     clear rQ um Gz ca jD
     obtain ⟨ca, la, fa⟩ := bp8.all
     go_wp2_with fail
     go_meet
     exact ⟨{ c with globals := c.globals ++ [⟨#[105, 102]⟩] }, _, _, _, lH (bp8.aF 2 (.slice A8 (c.globals.length + 1) n8)), lH (bz8.far (p := ⟨p, 2, none⟩) qQ _), lH (HS.out.wide ah (nR _)), HBK, lH (HB8.out.setCell (p := ⟨p, 2, none⟩) (by show w.heap.size ≤ p; omega) _)⟩
    rcases bE ((x : Int) == 5) with b5 | b5
    ·--<5
     go_upto_region 19 with fail
     clear t1 t2 t3 t4 t5 t6 t7 t8
     refine jm 22 (Six g (kk * 9) r Ak nk) 21 ?_
     have KP := lH (CR.drew cb w6)
     have hz := KP.out.le
     generalize w6.drew = Wd at *
     refine tkB 0 (KP.out.six GX.out SX.out) ?_
     refine tkB 1 (KP.out.six GX.out SX.out) ?_
     refine tkB 2 (KP.out.six GX.out SX.out) ?_
     refine tkB 3 (KP.out.six GX.out SX.out) ?_
     refine tkB 4 (KP.out.six GX.out SX.out) ?_
     refine tkB 5 (KP.out.six GX.out SX.out) ?_
     refine tkB 6 (KP.out.six GX.out SX.out) ?_
     refine tkB 9 (KP.out.six GX.out SX.out) ?_
     refine tkB 11 (KP.out.six GX.out SX.out) ?_
     refine dV [7, 10] aI rfl ?_
     refine bS.aN rfl (fun K hK => ?_) (bS.aN rfl (fun K hK => ?_) bS.eO)
     go_simp
     have b7 := Blk.new Wd 3 (oP 20 21 24)
     have n7 : Wd.heap.size ≠ cb := ah
     replace KP := lH (KP.out.trans (CR.alloc cb Wd (.cells (oP 20 21 24) 3)))
     replace hz := KP.out.le
     refine fM hK (KP.out.six GX.out SX.out) ?_
     clear hK K
     generalize Wd.alloc (.cells (oP 20 21 24) 3) = Wa at *
     refine dV [8, 10] aI rfl ?_
     refine bS.aN rfl (fun K hK => ?_) (bS.aN rfl (fun K hK => ?_) bS.eO)
     go_simp
     have HE := lH (qA cb Wd.heap.size 3 [20, 21, 24] Wa (KP.out.cur HQ6.out) b7 n7 aA)
     go_at_call 48
     refine HE.out.mono ?_
     rintro e Wb ⟨v, rfl, hcr, pk, hpk, rfl⟩
     replace KP := lH (KP.out.trans hcr)
     replace hz := KP.out.le
     clear hcr HE b7 n7
     refine fM hK (KP.out.six GX.out SX.out) ?_
     clear hK K
     refine dV [10, 12] aI rfl ?_
     refine bS.aN rfl (fun K hK => ?_) (bS.aN rfl (fun K hK => ?_) bS.eO)
     rw [if_pos aM]
     refine qc rfl ?_
     have b10 := Blk.new Wb 43 (aB 4 0 0 0 aC none 0 0)
     have n10 : Wb.heap.size ≠ cb ∧ Wb.heap.size ≠ g ∧ w.heap.size + 1 ≤ Wb.heap.size := ah
     replace KP := lH (KP.out.trans (CR.alloc cb Wb (.cells (aB 4 0 0 0 aC none 0 0) 43)))
     replace hz := KP.out.le
     refine fM hK (KP.out.six GX.out SX.out) ?_
     clear hK K
     generalize Wb.alloc (.cells (aB 4 0 0 0 aC none 0 0) 43) = Wc at *
     refine rdA 12 (fun K hK => ?_)
     go_simp
     have HE := lH (gM cb 2 Wc (KP.out.cur HQ6.out) aA aA)
     go_at_call 47
     refine HE.out.mono ?_
     rintro e We ⟨v, rfl, hcr, y, rfl, hy⟩
     replace KP := lH (KP.out.trans hcr)
     replace hz := KP.out.le
     replace b10 := hcr.blk b10 n10.1
     clear hcr HE
     refine fM hK (KP.out.six GX.out SX.out) ?_
     clear hK K
     obtain ⟨q10, tZ⟩ : ∃ q, Wb.heap.size = q := ⟨_, rfl⟩
     rw [tZ] at b10 n10
     have Wv := lH tZ
     simp only [tZ]
     clear tZ
     rotate_left
     go_simp
     have HE := lH (gM cb 2 Wb (KP.out.cur HQ6.out) aA aA)
     go_at_call 47
     refine HE.out.mono ?_
     rintro e Wc ⟨v, rfl, hcr, y, rfl, hy⟩
     replace KP := lH (KP.out.trans hcr)
     replace hz := KP.out.le
     clear hcr HE
     refine fM hK (KP.out.six GX.out SX.out) ?_
     clear hK K
     refine rdA 10 (fun K hK => ?_)
     rw [if_pos aM]
     refine qc rfl ?_
     have b10 := Blk.new Wc 43 (aB 4 0 0 0 aC none 0 0)
     have n10 : Wc.heap.size ≠ cb ∧ Wc.heap.size ≠ g ∧ w.heap.size + 1 ≤ Wc.heap.size := ah
     replace KP := lH (KP.out.trans (CR.alloc cb Wc (.cells (aB 4 0 0 0 aC none 0 0) 43)))
     replace hz := KP.out.le
     refine fM hK (KP.out.six GX.out SX.out) ?_
     clear hK K
     generalize Wc.alloc (.cells (aB 4 0 0 0 aC none 0 0) 43) = We at *
     obtain ⟨q10, tZ⟩ : ∃ q, Wc.heap.size = q := ⟨_, rfl⟩
     rw [tZ] at b10 n10
     have Wv := lH tZ
     simp only [tZ]
     clear tZ
     rotate_left
     rw [if_pos aM]
     refine qc rfl ?_
     have b10 := Blk.new Wa 43 (aB 4 0 0 0 aC none 0 0)
     have n10 : Wa.heap.size ≠ cb ∧ Wa.heap.size ≠ g ∧ w.heap.size + 1 ≤ Wa.heap.size := ah
     replace KP := lH (KP.out.trans (CR.alloc cb Wa (.cells (aB 4 0 0 0 aC none 0 0) 43)))
     replace hz := KP.out.le
     replace b7 := b7.alloc (.cells (aB 4 0 0 0 aC none 0 0) 43)
     refine fM hK (KP.out.six GX.out SX.out) ?_
     clear hK K
     generalize Wa.alloc (.cells (aB 4 0 0 0 aC none 0 0) 43) = Wb at *
     refine rdA 8 (fun K hK => ?_)
     go_simp
     have HE := lH (qA cb Wd.heap.size 3 [20, 21, 24] Wb (KP.out.cur HQ6.out) b7 n7 aA)
     go_at_call 48
     refine HE.out.mono ?_
     rintro e Wc ⟨v, rfl, hcr, pk, hpk, rfl⟩
     replace KP := lH (KP.out.trans hcr)
     replace hz := KP.out.le
     replace b10 := hcr.blk b10 n10.1
     clear hcr HE b7 n7
     refine fM hK (KP.out.six GX.out SX.out) ?_
     clear hK K
     refine rdA 12 (fun K hK => ?_)
     go_simp
     have HE := lH (gM cb 2 Wc (KP.out.cur HQ6.out) aA aA)
     go_at_call 47
     refine HE.out.mono ?_
     rintro e We ⟨v, rfl, hcr, y, rfl, hy⟩
     replace KP := lH (KP.out.trans hcr)
     replace hz := KP.out.le
     replace b10 := hcr.blk b10 n10.1
     clear hcr HE
     refine fM hK (KP.out.six GX.out SX.out) ?_
     clear hK K
     obtain ⟨q10, tZ⟩ : ∃ q, Wa.heap.size = q := ⟨_, rfl⟩
     rw [tZ] at b10 n10
     have Wv := lH tZ
     simp only [tZ]
     clear tZ
     rotate_left
     rw [if_pos aM]
     refine qc rfl ?_
     have b10 := Blk.new Wd 43 (aB 4 0 0 0 aC none 0 0)
     have n10 : Wd.heap.size ≠ cb ∧ Wd.heap.size ≠ g ∧ w.heap.size + 1 ≤ Wd.heap.size := ah
     replace KP := lH (KP.out.trans (CR.alloc cb Wd (.cells (aB 4 0 0 0 aC none 0 0) 43)))
     replace hz := KP.out.le
     refine fM hK (KP.out.six GX.out SX.out) ?_
     clear hK K
     generalize Wd.alloc (.cells (aB 4 0 0 0 aC none 0 0) 43) = Wa at *
     refine rdA 7 (fun K hK => ?_)
     go_simp
     have b7 := Blk.new Wa 3 (oP 20 21 24)
     have n7 : Wa.heap.size ≠ cb := ah
     replace KP := lH (KP.out.trans (CR.alloc cb Wa (.cells (oP 20 21 24) 3)))
     replace hz := KP.out.le
     replace b10 := b10.alloc (.cells (oP 20 21 24) 3)
     refine fM hK (KP.out.six GX.out SX.out) ?_
     clear hK K
     generalize Wa.alloc (.cells (oP 20 21 24) 3) = Wb at *
     refine rdA 8 (fun K hK => ?_)
     go_simp
     have HE := lH (qA cb Wa.heap.size 3 [20, 21, 24] Wb (KP.out.cur HQ6.out) b7 n7 aA)
     go_at_call 48
     refine HE.out.mono ?_
     rintro e Wc ⟨v, rfl, hcr, pk, hpk, rfl⟩
     replace KP := lH (KP.out.trans hcr)
     replace hz := KP.out.le
     replace b10 := hcr.blk b10 n10.1
     clear hcr HE b7 n7
     refine fM hK (KP.out.six GX.out SX.out) ?_
     clear hK K
     refine rdA 12 (fun K hK => ?_)
     go_simp
     have HE := lH (gM cb 2 Wc (KP.out.cur HQ6.out) aA aA)
     go_at_call 47
     refine HE.out.mono ?_
     rintro e We ⟨v, rfl, hcr, y, rfl, hy⟩
     replace KP := lH (KP.out.trans hcr)
     replace hz := KP.out.le
     replace b10 := hcr.blk b10 n10.1
     clear hcr HE
     refine fM hK (KP.out.six GX.out SX.out) ?_
     clear hK K
     obtain ⟨q10, tZ⟩ : ∃ q, Wd.heap.size = q := ⟨_, rfl⟩
     rw [tZ] at b10 n10
     have Wv := lH tZ
     simp only [tZ]
     clear tZ
     rotate_left
     all_goals
      obtain rfl | rfl : y = 0 ∨ y = 1 := by omega
      ·refine rdA 13 (fun K hK => ?_)
       go_simp
       refine fM hK (KP.out.six GX.out SX.out) ?_
       clear hK K
       refine tkB 14 (KP.out.six GX.out SX.out) ?_
       have X10 : eF We (w.heap.size + 1) g [.row 6 0 (flat ak.aG ([] : List ak))] [.slice (some (aj q10 0)) 0 1] := eF.Pz (K := 6) (vs := []) eF.eO b10 rfl aA rfl rfl aA n10.2.2 n10.2.1
       have hkb : ([] : List ak).length + eT ([] : List ak) ≤ 50 := aA
       rw [show Value.slice (some (aj q10 0)) 0 1 = .slice (some (aj q10 0)) ([] : List ak).length 1 from rfl] at X10 ⊢
       rw [show Dat.row 6 0 (flat ak.aG ([] : List ak)) = .row 6 ([] : List ak).length (flat ak.aG ([] : List ak)) from rfl] at X10
       generalize ([] : List ak) = ks at *
       as_aux_lemma =>
        exact Q6
      refine rdA 13 (fun K hK => ?_)
      go_simp
      refine fM hK (KP.out.six GX.out SX.out) ?_
      clear hK K
      refine tkB 14 (KP.out.six GX.out SX.out) ?_
      have X10 : eF We (w.heap.size + 1) g [.row 6 1 (flat ak.aG [(ak.mk 4 0 0 0 aC [])])] [.slice (some (aj q10 0)) 1 1] := eF.Pz (K := 6) (vs := [Value.int i64 4, .int i64 0, .int i64 0, .int i64 0, .string aC, .slice none 0 0]) (eF.one (eF.leaf 4 0 0 0 aC)) b10 rfl aA rfl rfl aA n10.2.2 n10.2.1
      have hkb : [(ak.mk 4 0 0 0 aC [])].length + eT [(ak.mk 4 0 0 0 aC [])] ≤ 50 := aA
      rw [show Value.slice (some (aj q10 0)) 1 1 = .slice (some (aj q10 0)) [(ak.mk 4 0 0 0 aC [])].length 1 from rfl] at X10 ⊢
      rw [show Dat.row 6 1 (flat ak.aG [(ak.mk 4 0 0 0 aC [])]) = .row 6 [(ak.mk 4 0 0 0 aC [])].length (flat ak.aG [(ak.mk 4 0 0 0 aC [])]) from rfl] at X10
      generalize [(ak.mk 4 0 0 0 aC [])] = ks at *
      as_aux_lemma =>
       exact Q6
    rcases bE ((x : Int) == 6) with b6 | b6
    ·--<6
     have HXB : eF w6 (w.heap.size + 1) g r.body.aG (r.body.cells Ak nk) := ⟨Kr, HKR.out.1.kept fun q hq => (CR.refl cb w6).keep ⟨by have := (HKR.out.2 q hq).2.1; omega, by have := (HKR.out.2 q hq).2.2; omega⟩, fun q hq => ⟨by have := (HKR.out.2 q hq).2.1; omega, (HKR.out.2 q hq).1⟩⟩
     have HXR : eF (w6.alloc (.cells (aB r.body.kind r.body.op r.body.number r.body.line r.body.text Ak r.body.kids.length nk) 43)) (w.heap.size + 1) g [.row 6 1 (flat ak.aG [r.body])] [.slice (some (aj w6.heap.size 0)) 1 1] := eF.lit (e := 43) (eF.one HXB) rfl aA ah hgl
     have KP := lH (CR.alloc cb w6 (.cells (aB r.body.kind r.body.op r.body.number r.body.line r.body.text Ak r.body.kids.length nk) 43))
     have hz := KP.out.le
     obtain ⟨s3, s4, s5, s6, s7, s8⟩ := (KP.out.six GX.out SX.out)
     have f3 := (gV (KP.out.keep GX.out) _).trans (hfz 3)
     have f4 := (gV (KP.out.keep GX.out) _).trans (hfz 4)
     have f5 := (gV (KP.out.keep GX.out) _).trans (hfz 5)
     have f6 := (gV (KP.out.keep GX.out) _).trans (hfz 6)
     have f7 := (gV (KP.out.keep GX.out) _).trans (hfz 7)
     have f8 := (gV (KP.out.keep GX.out) _).trans (hfz 8)
     have HGL := lH hgl
     have HBK : (ak.mk 26 0 0 0 aC [r.body]).bI ≤ r.body.bI + 100 := by rw [ak.kX]; show ByteArray.size aC + (1 + (r.body.bI + 0)) ≤ _; have : ByteArray.size aC = 0 := rfl; omega
     have HOT := (eF.node (l := [r.body]) HXR 26 0 0 0 aC).Ms
     have HS := lH (HTU.out (w.heap.size + 1) (w6.alloc (.cells (aB r.body.kind r.body.op r.body.number r.body.line r.body.text Ak r.body.kids.length nk) 43)) 3 [Value.int i64 26, .int i64 0, .int i64 0, .int i64 0, .string aC, .slice (some (aj w6.heap.size 0)) 1 1] ((some (aj w6.heap.size 0))) 1 { r with body := (ak.mk 26 0 0 0 aC [r.body]) } ah F5 ah rfl av rfl HOT)
     have bpw := KP.out.blk bp6 ah
     have bzw := KP.out.blk bz6 ah
     clear hgl HGL HXB HXR
     go_wp2_with (first | (refine q9 rfl ?_) | fail)
     go_meet
     exact ⟨NK c kk { r with body := (ak.mk 26 0 0 0 aC [r.body]) }, _, _, _, lH (bpw.PL ah), lH (bzw.PL ah), HS, HBD.out.turn HX.out (show bO.bI _ ≤ _ from nT (Nat.add_le_add_left HBK (r.name.size + (r.slots.length + sumOf ByteArray.size r.slots))) (Nat.le_of_eq (Nat.add_assoc _ _ _).symm)), lH (xx (Cr HB6.out KP.out ah) ah)⟩
    go_wp2_with fail
    go_meet
    exact ⟨c, _, _, _, lH bp6, lH bz6, lH (HO6.out.rep.wide ah (nR _)), nT HBD.out.bI aA, HB6⟩
   obtain ⟨c', v0, v1, v2, HP, HZ, HS, hbk, HB⟩ := hcut
   clear t1 t2 t3 t4 t5 t6 t7 t8 SX GX HCL HTU HKR hfz HSL bp6 bz6 HQ6 HO6 HB6
   obtain ⟨B0, k0, B1, k1, B2, k2, hx0, -⟩ := bg.form HS.out
   injection hx0 with hx0
   have hx0 := congrArg Array.toList hx0
   simp only [List.cons.injEq, and_true] at hx0
   obtain ⟨rfl, rfl, rfl⟩ := hx0
   have bp := HP.out
   have bz := HZ.out
   have hwz := bz.lt
   have cp := bp.cell
   obtain ⟨cz, lz, fz⟩ := bz.all
   clear HP HZ
   go_wp2_with fail
   have hF := ((((bz.aF 0 (.slice B0 c'.au.length k0)).aF 1 (.slice B1 c'.records.length k1)).aF 2 (.slice B2 c'.globals.length k2)).aF 3 (.int i64 c'.main))
   have cF := hF.cell
   have hgr := dJ (dJ (dJ (jk wc w.heap.size 0 (.slice B0 c'.au.length k0)) (jk _ w.heap.size 1 (.slice B1 c'.records.length k1))) (jk _ w.heap.size 2 (.slice B2 c'.globals.length k2))) (jk _ w.heap.size 3 (.int i64 c'.main))
   refine bodyPost_ret (v := .agg (aP B0 c'.au.length k0 B1 c'.records.length k1 B2 c'.globals.length k2 c'.main)) ?_ rfl ⟨c', _, rfl, ?_, hbk, ?_⟩
   ·simp [results, Tryz.results16, go_sem, cF]
   ·exact Ji
   exact (((HB.out.setCell (p := ⟨w.heap.size, 0, none⟩) (nR _) _).setCell (p := ⟨w.heap.size, 1, none⟩) (nR _) _).setCell (p := ⟨w.heap.size, 2, none⟩) (nR _) _).setCell (p := ⟨w.heap.size, 3, none⟩) (nR _) _
theorem vB (A : Option Addr) (n k hi : Nat) (bs : List Int) (w : World) (hr : Rds w 0 hi 1 (.slice A n k) n (bs.map (Value.int .u8))) (hhi : hi ≤ w.heap.size) (hn : n ≤ 1048576) : Calls Tryz.prog 11 #[.slice A n k] w (U8 w) := by
 obtain ⟨bz, hb0⟩ := dQ w 28 (aP none 0 0 none 0 0 none 0 0 0)
 have HB := lH (Ip A n k hi bs (w.alloc (.cells (aP none 0 0 none 0 0 none 0 0 0) 28)) (hr.below hb0 hhi) (nT hhi hb0.size) hn)
 have hz0 : w.heap.size + 1 = (w.alloc (.cells (aP none 0 0 none 0 0 none 0 0 0) 28)).heap.size := av
 clear hr
 go_in
 go_upto_region 1 with fail
 generalize w.alloc (.cells (aP none 0 0 none 0 0 none 0 0 0) 28) = W at *
 go_wp2_with fail
 refine HB.out.mono ?_
 rintro e wc ⟨c', v, rfl, hs, hbk, hb1⟩
 have HS := lH hs
 have HBW := lH (hb0.trans (hb1.mono hb0.size))
 replace bz := bz.later hb1
 have hzw : w.heap.size < wc.heap.size := bz.lt
 obtain ⟨B0, k0, B1, k1, B2, k2, rfl, -⟩ := bg.form hs
 have cz := bz.cell
 have fz := bz.frozen
 clear hs hb1 hb0 HB
 go_wp2_with fail
 have hF := ((((bz.aF 0 (.slice B0 c'.au.length k0)).aF 1 (.slice B1 c'.records.length k1)).aF 2 (.slice B2 c'.globals.length k2)).aF 3 (.int i64 c'.main))
 have cF := hF.cell
 have hgr := dJ (dJ (dJ (jk wc w.heap.size 0 (.slice B0 c'.au.length k0)) (jk _ w.heap.size 1 (.slice B1 c'.records.length k1))) (jk _ w.heap.size 2 (.slice B2 c'.globals.length k2))) (jk _ w.heap.size 3 (.int i64 c'.main))
 refine bodyPost_ret (v := .agg (aP B0 c'.au.length k0 B1 c'.records.length k1 B2 c'.globals.length k2 c'.main)) ?_ rfl ⟨c', _, rfl, ?_, hbk, ?_⟩
 ·simp [results, Tryz.results11, go_sem, cF]
 ·exact Ji
 exact (((HBW.out.setCell (p := ⟨w.heap.size, 0, none⟩) (nR _) _).setCell (p := ⟨w.heap.size, 1, none⟩) (nR _) _).setCell (p := ⟨w.heap.size, 2, none⟩) (nR _) _).setCell (p := ⟨w.heap.size, 3, none⟩) (nR _) _
end
end Go.Proofs.YthbcamfejgghhaaGreatDoor
