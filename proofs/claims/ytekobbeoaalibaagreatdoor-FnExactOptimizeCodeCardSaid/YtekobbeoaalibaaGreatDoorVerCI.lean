/- VerifyCode of the program, given what IsValidCode answers. -/
import Derived.Test.YtekobbeoaalibaaGreatDoorVisit
import Derived.Test.YtekobbeoaalibaaGreatDoorVerJ
import Derived.Deep.LoopGhost
import Derived.BigRegion
namespace Go.Proofs.YtekobbeoaalibaaGreatDoor
open Go.RowKit
set_option linter.unusedVariables false

theorem info_shape : (Tryz.prog.info? 9).map (fun i => (i.zero, i.size, i.bytes)) = some (some (.string ⟨#[]⟩), 1, 16) := by kernel_rfl
theorem made_strs (n : Nat) : (madeCells #[Value.string ⟨#[]⟩] n).toList = (List.replicate n (⟨#[]⟩ : ByteArray)).map Value.string := by
  apply List.ext_getElem?
  intro i
  simp only [madeCells, Array.toList_map, Array.toList_range, List.getElem?_map, List.getElem?_replicate]
  by_cases h : i < n
  · rw [List.getElem?_range h, if_pos h]
    simp [Nat.mod_one]
  · rw [if_neg h, List.getElem?_eq_none (by simpa using h)]; rfl
/-- what holds between the rounds of the first loop -/
def StartRel (w0 : World) (c : CodeT) (b : Nat) (v0 v1 v2 v3 : Value) (Ai : Option Addr) (ni : Nat) (i : Value) (wr : World) : Prop :=
  ∃ k : Nat, k ≤ c.routines.length ∧ i = .int .i64 k ∧ ∃ q sv tv, VB w0 wr c.instrs.length b v0 v1 v2 v3 Ai ni [] q sv tv ∧ Inv c.instrs.length q.1 ∧ Hid (startsP (c.routines.take k) (st0 c.instrs.length) = if q.2 = true then none else some q.1)
theorem VB.pop {w0 wr : World} {n b ni g cap : Nat} {v0 v1 v2 v3 : Value} {Ai : Option Addr} {E : Boxes} {sh : List ByteArray} {ws : List Nat} {i : Nat} {bad : Bool} {sv : Value} (h : VB w0 wr n b v0 v1 v2 v3 Ai ni E (⟨sh, ws ++ [i]⟩, bad) sv (.slice (some ⟨g, 0, none⟩) (ws.length + 1) cap)) :
    VB w0 (wr.setCell ⟨b, 6, none⟩ (.slice (some ⟨g, 0, none⟩) ws.length cap)) n b v0 v1 v2 v3 Ai ni E (⟨sh, ws⟩, bad) sv (.slice (some ⟨g, 0, none⟩) ws.length cap) := by
  obtain ⟨g', cap', e, _, _, _, _, _, hr⟩ := h.rows.pop
  injection e with e1 _ e2
  injection e1 with e1
  injection e1 with e1
  subst e1 e2
  exact ⟨hr.box_ h.hb h.f1 h.f2 _ _, h.box.set_ 6 _, h.hb, h.f1, h.f2, fun x hx => ⟨(h.ex x hx).1.far (h.ex x hx).2.2.2 _, (h.ex x hx).2⟩⟩
/-- what holds between the rounds of the second loop -/
def RunRel (w0 : World) (c : CodeT) (b : Nat) (v0 v1 v2 v3 : Value) (Ai : Option Addr) (ni : Nat) (gk : Nat) (wr : World) : Prop :=
  ∃ q sv tv, VB w0 wr c.instrs.length b v0 v1 v2 v3 Ai ni [] q sv tv ∧ Inv c.instrs.length q.1 ∧ gk = (if q.2 = true then 0 else q.1.mu + 1) ∧ Hid (verdict c = if q.2 = true then none else verd c.instrs q.1)
set_option maxRecDepth 100000 in
set_option maxHeartbeats 4000000 in
theorem impl_VerifyCode (c : CodeT) (vb : Bool) (x : Value) (w : World) (lo hi : Nat) (h : SRep w lo hi CodeT.dats x c) (hhi : hi ≤ w.heap.size)
    (HV : ∀ W, Below w.heap.size w W → Calls Tryz.prog 50 #[x] W fun e w' => e = .returned (.bool vb) ∧ Below W.heap.size W w') (hok : vb = true → CodeV c) :
    Calls Tryz.prog 15 #[x] w fun e w' => VerPost (verOf vb c) w e w' ∧ VerNil (verOf vb c) e := by
  have HVC := Lib.hid HV
  clear HV
  obtain ⟨Aroutines, nroutines, Arecords, nrecords, Aglobals, nglobals, Ainstrs, ninstrs, rfl, hr, ur, mr, hd, ud, md, hg, ug, mg, hi1, ui, mi⟩ := CodeT.form h
  unfold maxLen at mr md mg mi
  have hwa : Below w.heap.size w (w.alloc (.cells #[.slice Aroutines c.routines.length nroutines, .slice Arecords c.records.length nrecords, .slice Aglobals c.globals.length nglobals, .int .i64 c.main, .slice Ainstrs c.instrs.length ninstrs] 34)) := (Below.refl _ _).alloc (Nat.le_refl _) _
  have a0 := Blk.new w 34 #[.slice Aroutines c.routines.length nroutines, .slice Arecords c.records.length nrecords, .slice Aglobals c.globals.length nglobals, .int .i64 c.main, .slice Ainstrs c.instrs.length ninstrs]
  cases vb with
  | false =>
    clear hok
    go_enter Tryz.func15, Tryz.ntmps15
    go_wp2_with fail
    refine (HVC.out _ hwa).mono ?_; rintro e w1 ⟨rfl, hb1⟩
    have hw1 := hwa.trans (hb1.mono hwa.size)
    go_wp2_with fail
    go_ret2
    exact ⟨⟨_, rfl, hw1, fun l hl => by cases hl⟩, fun _ => rfl⟩
  | true =>
    have hcv := hok rfl
    have n1 := hcv.n1
    have n2 := hcv.n2
    clear hok
    obtain ⟨i0, hi0, hz0, hz1, hz2⟩ := info_parts info_shape
    go_enter Tryz.func15, Tryz.ntmps15
    go_wp2_with fail
    refine (HVC.out _ hwa).mono ?_; rintro e w1 ⟨rfl, hb1⟩
    have hw1 := hwa.trans (hb1.mono hwa.size)
    have a1 := a0.later hb1
    clear hb1 a0 HVC
    have ca := a1.cell
    have la := a1.lt
    go_wp2_with fail
    obtain ⟨w3, hrun, hown, hgr⟩ := run_make_full (P := Tryz.prog) w1.drew w1.heap.size 24 9 i0 _ 1 Tryz.underlying24 hi0 hz0 hz1 .i64 .i64 c.instrs.length (by rw [hz2]; omega) (by unfold maxLen; omega) (Nat.le_refl _)
    have hown : w3.ownsRow w1.heap.size 9 1 (.slice (some ⟨w1.heap.size, 0, none⟩) c.instrs.length c.instrs.length) c.instrs.length (madeCells #[Value.string ⟨#[]⟩] (c.instrs.length * 1)).toList := hown
    have hrun : (Instr.makeSlice 24 (.int .i64 (c.instrs.length : Int)) (.int .i64 (c.instrs.length : Int))).run Tryz.prog w1.drew = .ok (.slice (some ⟨w1.heap.size, 0, none⟩) c.instrs.length c.instrs.length) w3 := hrun
    rw [Nat.mul_one] at hown
    have hb3 : Below w1.heap.size w1 w3 := (Below.refl w1.heap.size w1).drew.trans (below_of_grown hgr (Nat.le_refl _) (fun g hg => by cases hg))
    have a3' := a1.later hb3
    have ca3 := a3'.cell
    have la3 := a3'.lt
    have hw2 := hw1
    have a2 := a1
    rw [made_strs] at hown
    have hsz3 : w1.heap.size < w3.heap.size := (hown.lt _ rfl).2
    have hvb : VB w1 (w3.alloc (.cells #[.slice Aroutines c.routines.length nroutines, .slice Arecords c.records.length nrecords, .slice Aglobals c.globals.length nglobals, .int .i64 c.main, .slice Ainstrs c.instrs.length ninstrs, .slice (some ⟨w1.heap.size, 0, none⟩) c.instrs.length c.instrs.length, .slice none 0 0, .bool false] 85)) c.instrs.length w3.heap.size (.slice Aroutines c.routines.length nroutines) (.slice Arecords c.records.length nrecords) (.slice Aglobals c.globals.length nglobals) (.int .i64 c.main) Ainstrs ninstrs [] (st0 c.instrs.length, false) (.slice (some ⟨w1.heap.size, 0, none⟩) c.instrs.length c.instrs.length) (.slice none 0 0) :=
      ⟨⟨hown.alloc _, World.ownsRow_nil _ _ _ _, hb3.alloc hb3.size _, fun k _ e => by cases e⟩, Blk.new _ _ _, hb3.size, (fun e => by injection e with e; dsimp only at e; omega), (fun e => by cases e), fun x hx => by cases hx⟩
    have hsg := hgr
    clear hgr hsg
    have a3 := (a2.later hb3).alloc (.cells #[.slice Aroutines c.routines.length nroutines, .slice Arecords c.records.length nrecords, .slice Aglobals c.globals.length nglobals, .int .i64 c.main, .slice Ainstrs c.instrs.length ninstrs, .slice (some ⟨w1.heap.size, 0, none⟩) c.instrs.length c.instrs.length, .slice none 0 0, .bool false] 85)
    have hblt : w1.heap.size ≤ w3.heap.size := hb3.size
    have ha0 := a2.lt
    clear hown hb3
    go_region
    clear hrun ca ca3 la la3 a3'
    go_upto_region 4 with (fail)
    obtain ⟨bb, hbb⟩ : ∃ bb, w3.heap.size = bb := ⟨_, rfl⟩
    rw [hbb] at hvb hblt ⊢
    generalize w3.alloc (.cells #[.slice Aroutines c.routines.length nroutines, .slice Arecords c.records.length nrecords, .slice Aglobals c.globals.length nglobals, .int .i64 c.main, .slice Ainstrs c.instrs.length ninstrs, .slice (some ⟨w1.heap.size, 0, none⟩) c.instrs.length c.instrs.length, .slice none 0 0, .bool false] 85) = w4 at hvb a3 ⊢
    clear hbb hsz3
    have ca := a3.cell
    have la := a3.lt
    go_wp2_with fail
    clear ca la
    go_loopw [21] (fun i wr => StartRel w1 c bb (.slice Aroutines c.routines.length nroutines) (.slice Arecords c.records.length nrecords) (.slice Aglobals c.globals.length nglobals) (.int .i64 c.main) Ainstrs ninstrs i wr) (fun i _ => c.routines.length - (intOf i).toNat)
    case atStart => exact ⟨0, Nat.zero_le _, rfl, (st0 c.instrs.length, false), _, _, hvb, inv0 _, rfl⟩
    case round =>
      obtain ⟨k, hk, rfl, q, sv, tv, hq, hI, hst⟩ := hrel
      clear hvb a3
      have hw4 : Below w.heap.size w wr := hw2.trans (hq.rows.bel.mono hw2.size)
      by_cases hlt : k < c.routines.length
      · obtain ⟨r, hrk⟩ : ∃ r, c.routines[k]? = some r := ⟨_, List.getElem?_eq_getElem hlt⟩
        obtain ⟨g, off, hA, hg1, hg2, hmem, -, q0, q1, q2, q3⟩ := CRoT.at_ (hr.below hw4 hhi) hrk
        subst hA
        obtain ⟨s0, s1, e0, e1⟩ := hcv.ros r hmem
        obtain ⟨sl, hsl⟩ : ∃ sl : Nat, r.slots = sl := ⟨r.slots.toNat, by omega⟩
        obtain ⟨z, hz⟩ : ∃ z, startS r = z := ⟨_, rfl⟩
        have hz1 : 0 < z.size := by rw [← hz, startS, size_one]; omega
        have hF : Fit c.instrs.length (empties q.1.sh) z := by rw [← hz]; exact start_fit (by omega) (empties_le hI)
        have HST : Hid (startsP (c.routines.take (k + 1)) (st0 c.instrs.length) = if (giveP q r.entry z).2 = true then none else some (giveP q r.entry z).1) := by
          show _ = _
          rw [take_snoc_of hrk, ← hz]
          exact start_step hst.out
        rw [hsl] at q2 s0 s1
        have hq1 := (hq.alloc (.cells #[.string r.name, .int .i64 r.params, .int .i64 (sl : Int), .int .i64 r.entry] 76)).alloc (.cells #[.int .u8 (65 + (sl : Int))] 5)
        have hcvt := run_convert_byte1 (P := Tryz.prog) 77 9 5 Tryz.underlying77 Tryz.underlying5 Tryz.underlying9 (wr.alloc (.cells #[.string r.name, .int .i64 r.params, .int .i64 (sl : Int), .int .i64 r.entry] 76)) (65 + (sl : Int)) 1 5
        have hzz : (⟨#[UInt8.ofNat (65 + (sl : Int)).toNat]⟩ : ByteArray) = z := by rw [← hz, startS, hsl]; congr 3
        rw [hzz, show (wr.alloc (.cells #[.string r.name, .int .i64 r.params, .int .i64 (sl : Int), .int .i64 r.entry] 76)).heap.size = wr.heap.size + 1 by simp] at hcvt
        clear hzz hz hsl hrk hmem
        go_wp2_with fail
        have hG := impl_give hq1 hI n1 n2 r.entry z hz1
        refine hG.mono ?_; clear hG hq1 hcvt; rintro e w5 ⟨rfl, sv5, tv5, h5⟩
        go_wp2_with fail
        go_roundw
        case rel => exact ⟨k + 1, by omega, by go_num, giveP q r.entry z, sv5, tv5, h5, (giveP_inv hI hF).1, HST⟩
        case measure => simp [intOf]; omega
      · obtain rfl : k = c.routines.length := by omega
        rw [List.take_length] at hst
        have hstart : RunRel w1 c bb (.slice Aroutines c.routines.length nroutines) (.slice Arecords c.records.length nrecords) (.slice Aglobals c.globals.length nglobals) (.int .i64 c.main) Ainstrs ninstrs (if q.2 = true then 0 else q.1.mu + 1) wr := by
          refine ⟨q, sv, tv, hq, hI, rfl, ?_⟩
          show _ = _
          unfold verdict
          rw [hst.out]
          cases q.2 <;> rfl
        obtain ⟨n0, hn0⟩ : ∃ n0, (if q.2 = true then 0 else q.1.mu + 1) = n0 := ⟨_, rfl⟩
        rw [hn0] at hstart
        clear hn0 hst hI hq hw4
        go_wp2_with fail
        go_loopg [] n0 (fun gk wx => RunRel w1 c bb (.slice Aroutines c.routines.length nroutines) (.slice Arecords c.records.length nrecords) (.slice Aglobals c.globals.length nglobals) (.int .i64 c.main) Ainstrs ninstrs gk wx)
        case atStart => exact hstart
        case round =>
          clear hstart
          obtain ⟨⟨st, bad⟩, sv, tv, hq, hI, hgk, hV⟩ := hrel
          have hw4 : Below w.heap.size w wr := hw2.trans (hq.rows.bel.mono hw2.size)
          have hlt1 := hq.box.lt
          cases bad with
          | true =>
            obtain ⟨At, capt, rfl, ht1, ht2⟩ := hq.rows.todo
            unfold maxLen at ht2
            have ca := hq.box.cell
            have la := hq.box.lt
            have HR : Hid (verOf true c = none) := hV.out
            clear hV hgk
            by_cases h0 : 0 < st.wk.length
            · go_wp2_with fail
              go_ret2
              exact ver_no HR.out hw4 rfl
            · go_wp2_with fail
              go_ret2
              exact ver_no HR.out hw4 rfl
          | false =>
            rcases List.eq_nil_or_concat st.wk with hwk | ⟨ws, i, hwk⟩
            · obtain ⟨At, capt, rfl, ht1, ht2⟩ := hq.rows.todo
              obtain ⟨gs, caps, rfl, hgs1, hgs2, hcs1, hcs2⟩ := hq.rows.form n1
              unfold maxLen at ht2 hcs2
              obtain ⟨sh, wk⟩ := st
              simp only at hwk
              subst hwk
              have ca := hq.box.cell
              have la := hq.box.lt
              have HR : Hid (verOf true c = some sh) := hV.out.trans (verd_nil _ _)
              have ho := hq.rows.sho
              have hl := hq.rows.len
              have HL := Lib.hid hl
              clear hV hgk hl
              go_wp2_with fail
              go_ret2
              exact ver_yes HR.out hw4 rfl (by rw [HL.out]; exact own_low ho hw2.size)
            · rw [List.concat_eq_append] at hwk
              obtain ⟨sh, wk⟩ := st
              simp only at hwk
              subst hwk
              obtain ⟨g, capt, rfl, hgl, hgb, ht1, ht2, qt, -⟩ := hq.rows.pop
              unfold maxLen at ht2
              obtain ⟨hIp, hin, hsp⟩ := hI.pop
              obtain ⟨x, hx⟩ : ∃ x, c.instrs[i]? = some x := ⟨_, List.getElem?_eq_getElem hin⟩
              have hxv := hcv.ins x (List.mem_of_getElem? hx)
              have hpop := hq.pop
              have ca := hq.box.cell
              have la := hq.box.lt
              have cf := hq.box.frozen
              have HGK := Lib.hid hgk
              clear hgk
              obtain ⟨m, hm⟩ : ∃ m, ws.length + 1 = m := ⟨_, rfl⟩
              have g1 : IntKind.i64.wrap ((m : Int) - 1) = (ws.length : Int) := (IntWalk.i64_in _ (by omega)).trans (by omega)
              have g2 : (0 : Int) ≤ (ws.length : Int) := by omega
              have g3 : (ws.length : Int) < (m : Int) := by omega
              have g4 : 0 < m := by omega
              rw [hm] at ca
              go_wp2_with fail
              go_quiet (fail)
              go_wp2_with fail
              have hq5 := hq.same ((Same.refl wr).drewN nq)
              generalize wr.drewN nq = w5 at hq5 ⊢
              clear ca la cf qt hpop hq
              have ca := hq5.box.cell
              have la := hq5.box.lt
              have cf := hq5.box.frozen
              have hpop := hq5.pop
              rw [hm] at ca
              have g5 : (ws.length : Int) ≤ (capt : Int) := by omega
              have g6 : ws.length ≤ capt := by omega
              go_still_tail 14, (by kernel_rfl)
              change wpList _ _ _ _ _ w5.drew
              have hq6 := hq5.same (Same.refl w5).drew
              generalize w5.drew = w6 at hq6 ⊢
              clear ca la cf hpop hq5
              have ca := hq6.box.cell
              have la := hq6.box.lt
              have cf := hq6.box.frozen
              have hpop := hq6.pop
              have hcd : LRep (w6.setCell ⟨bb, 6, none⟩ (.slice (some ⟨g, 0, none⟩) ws.length capt)) lo hi 5 InsT.dats (.slice Ainstrs c.instrs.length ninstrs) c.instrs := hi1.below (hw2.trans (hpop.rows.bel.mono hw2.size)) hhi
              have hvi : VisIn w1 (w6.setCell ⟨bb, 6, none⟩ (.slice (some ⟨g, 0, none⟩) ws.length capt)) bb (.slice Aroutines c.routines.length nroutines) (.slice Arecords c.records.length nrecords) (.slice Aglobals c.globals.length nglobals) (.int .i64 c.main) Ainstrs ninstrs c.instrs ⟨sh, ws⟩ i x sv (.slice (some ⟨g, 0, none⟩) ws.length capt) lo hi :=
                ⟨hpop, hIp, hcd, Nat.le_trans hhi hw2.size, n2, hx, hsp, hxv⟩
              have HX := Lib.hid hx
              rw [hm] at ca
              clear hx hcd hpop hxv hsp
              go_wp2_with fail
              refine (impl_visit hvi).mono ?_
              rintro e w7 ⟨rfl, q7, ⟨sv7, tv7, h7⟩, hI7, hstep⟩
              have hstep' : step c.instrs ⟨sh, ws⟩ i = if q7.2 = true then none else some q7.1 := by unfold step; rw [HX.out]; exact hstep
              obtain ⟨hr1, hr2⟩ := run_step hI hstep'
              have HR1 : Hid (verdict c = if q7.2 = true then none else verd c.instrs q7.1) := hV.out.trans hr1
              have HR2 := Lib.hid hr2
              clear hstep hstep' hr1 hr2 ca la cf hvi hq6
              go_wp2_with fail
              go_roundg (if q7.2 = true then 0 else q7.1.mu + 1)
              case measure => rw [HGK.out]; exact HR2.out
              case rel => exact ⟨q7, sv7, tv7, h7, hI7, rfl, HR1⟩
end Go.Proofs.YtekobbeoaalibaaGreatDoor
