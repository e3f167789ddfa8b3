/- FindEdits of both sides. -/
import Derived.Test.YtekobbeoaalibaaGreatDoorEdB
import Derived.Deep.LoopGhost
namespace Go.Proofs.YtekobbeoaalibaaGreatDoor
open Go.RowKit
set_option linter.unusedVariables false

def edVals (l : List EditT) : List Value := l.flatMap fun d => [.int .i64 d.kind, .int .i64 d.place]
theorem edVals_snoc (l : List EditT) (d : EditT) : edVals (l ++ [d]) = edVals l ++ [.int .i64 d.kind, .int .i64 d.place] := by simp [edVals]
theorem OwnR.edits {w : World} {lo hi : Nat} : ∀ (l : List EditT), OwnR w lo hi (flat EditT.dats l) (edVals l)
  | [] => by rw [flat_nil]; exact .nil_
  | d :: l => by rw [flat_cons]; exact OwnR.int_ (OwnR.int_ (OwnR.edits l))
theorem OwnLR.edits {w : World} {lo hi : Nat} {e : TypeId} {v : Value} {l : List EditT} (h : w.ownsRow lo e 2 v l.length (edVals l)) (hhi : w.heap.size ≤ hi) : OwnLR w lo hi 2 EditT.dats v l := by
  obtain ⟨F, a1, a2, a3⟩ := OwnR.edits (w := w) (lo := 0) (hi := 0) l
  have hF : F = [] := List.eq_nil_iff_forall_not_mem.2 fun g hg => by have := a3 g hg; omega
  subst hF
  refine ⟨_, OwnV.mkRow h a1, ?_, fun g hv => ?_⟩
  · cases v.ownBlock <;> simp
  · have hv : v.ownBlock = some g := by simpa using hv
    have := h.lt g hv; omega
/-- the edits of kind k at the first n places -/
def foundL (c : CodeT) (sh : List ByteArray) (k : Int) (n : Nat) : List EditT := ((List.range n).filter fun i : Nat => editB c sh k i).map fun i : Nat => ⟨k, i⟩
noncomputable def findL (c : CodeT) (k : Int) : List EditT := if verB c = true then foundL c (verL c) k c.instrs.length else []
theorem found_len (c : CodeT) (sh : List ByteArray) (k : Int) (n : Nat) : (foundL c sh k n).length ≤ n := by
  unfold foundL
  rw [List.length_map]
  have := List.length_filter_le (fun i : Nat => editB c sh k i) (List.range n)
  rwa [List.length_range] at this
theorem findL_len (c : CodeT) (k : Int) : (findL c k).length ≤ c.instrs.length := by
  unfold findL
  split
  · exact found_len _ _ _ _
  · simp
theorem found_yes {c : CodeT} {sh : List ByteArray} {k : Int} {n : Nat} (h : editB c sh k n = true) : foundL c sh k (n + 1) = foundL c sh k n ++ [⟨k, n⟩] := by
  unfold foundL; rw [List.range_succ, List.filter_append, List.map_append]; simp [h]
theorem found_no {c : CodeT} {sh : List ByteArray} {k : Int} {n : Nat} (h : editB c sh k n = false) : foundL c sh k (n + 1) = foundL c sh k n := by
  unfold foundL; rw [List.range_succ, List.filter_append, List.map_append]; simp [h]
/-- the edits found, in a row of the call's own -/
def FindRes (c : CodeT) (k : Int) (w : World) (e : Ending) (w' : World) : Prop := ∃ v, e = .returned v ∧ OwnLR w' w.heap.size w'.heap.size 2 EditT.dats v (findL c k) ∧ Below w.heap.size w w'
theorem info_edit : (Tryz.prog.info? 46).map (fun i => (i.zero, i.size, i.bytes)) = some (some (.agg #[.int .i64 0, .int .i64 0]), 2, 16) := by kernel_rfl
set_option maxRecDepth 100000 in
set_option maxHeartbeats 2000000 in
theorem impl_FindEdits (c : CodeT) (v : Value) (kd : Int) (w : World) (lo hi : Nat) (h : SRep w lo hi CodeT.dats v c) (hhi : hi ≤ w.heap.size) (hst : SpaceTab w) (htx : ∀ y ∈ c.instrs, y.text.size ≤ 1048576) :
    Calls Tryz.prog 24 #[v, .int .i64 kd] w (FindRes c kd w) := by
  have h0 := Lib.hid h
  obtain ⟨Aroutines, nroutines, Arecords, nrecords, Aglobals, nglobals, Ainstrs, ninstrs, rfl, -⟩ := CodeT.form h
  have hwa : Below w.heap.size w ((w.alloc (.cells #[Value.slice Aroutines c.routines.length nroutines, .slice Arecords c.records.length nrecords, .slice Aglobals c.globals.length nglobals, .int .i64 c.main, .slice Ainstrs c.instrs.length ninstrs] 34)).alloc (.cells #[] 46)) := ((Below.refl _ _).alloc (Nat.le_refl _) _).alloc (by simp) _
  have a0 := (Blk.new w 34 #[Value.slice Aroutines c.routines.length nroutines, .slice Arecords c.records.length nrecords, .slice Aglobals c.globals.length nglobals, .int .i64 c.main, .slice Ainstrs c.instrs.length ninstrs]).alloc (.cells #[] 46)
  have own0 : ((w.alloc (.cells #[Value.slice Aroutines c.routines.length nroutines, .slice Arecords c.records.length nrecords, .slice Aglobals c.globals.length nglobals, .int .i64 c.main, .slice Ainstrs c.instrs.length ninstrs] 34)).alloc (.cells #[] 46)).ownsRow (w.heap.size + 1) 46 2 (.slice (some ⟨w.heap.size + 1, 0, none⟩) 0 0) 0 [] := by
    have := World.ownsRow_made (base := w.heap.size + 1) (e := 46) (size := 2) (w.alloc (.cells #[Value.slice Aroutines c.routines.length nroutines, .slice Arecords c.records.length nrecords, .slice Aglobals c.globals.length nglobals, .int .i64 c.main, .slice Ainstrs c.instrs.length ninstrs] 34)) #[] 0 (by simp) (by unfold maxLen; omega) rfl
    simpa using this
  have HV := Lib.hid (impl_VerifyR c _ _ lo hi (h0.out.below hwa hhi) (Nat.le_trans hhi hwa.size) (hst.below hwa hst.2) htx)
  obtain ⟨b, hb⟩ : ∃ b, verB c = b := ⟨_, rfl⟩
  have HB := Lib.hid hb
  clear h htx hb hst
  go_enter Tryz.func24, Tryz.ntmps24
  go_wp2_with fail
  refine HV.out.mono ?_; rintro e w3 ⟨u, rfl, gu, hb⟩
  rw [HB.out]
  have z3 : w.heap.size + 2 ≤ w3.heap.size := by have hh := hb.size; simp at hh; omega
  have hw3 := hwa.trans (hb.mono hwa.size)
  have a1 := a0.later hb
  have own1 := own_later own0 hb
  have gu := gu.rep
  have e2 : ((w.alloc (.cells #[Value.slice Aroutines c.routines.length nroutines, .slice Arecords c.records.length nrecords, .slice Aglobals c.globals.length nglobals, .int .i64 c.main, .slice Ainstrs c.instrs.length ninstrs] 34)).alloc (.cells #[] 46)).heap.size = w.heap.size + 2 := by simp
  rw [e2] at gu
  clear hb a0 own0 hwa HV e2
  have ca := a1.cell
  have la := a1.lt
  cases b with
  | false =>
    have HF : Hid (findL c kd = []) := by show _ = _; unfold findL; rw [HB.out]; rfl
    go_wp2_with fail
    go_ret
    refine ⟨_, rfl, ?_, hw3⟩
    rw [HF.out]
    exact OwnLR.edits (l := []) (own_low own1 (Nat.le_succ _)) (Nat.le_refl _)
  | true =>
    have HF : Hid (findL c kd = foundL c (verL c) kd c.instrs.length) := by show _ = _; unfold findL; rw [HB.out]; rfl
    obtain ⟨-, hsl⟩ := verL_yes HB.out
    have hcv := verC_valid HB.out
    have hn2 := hcv.n2
    have HCV := Lib.hid hcv
    have HSL := Lib.hid hsl
    obtain ⟨sh, hsh⟩ : ∃ sh, verL c = sh := ⟨_, rfl⟩
    rw [hsh] at gu HF HSL
    clear hcv hsl hsh
    go_wp2_with fail
    refine (impl_targetsOf c _ _ lo hi (h0.out.below hw3 hhi) (Nat.le_trans hhi hw3.size) HCV.out).mono ?_; rintro e w4 ⟨gt, rfl, ot, hb4⟩
    have ty := Rds.of_own ot
    have hw4 := hw3.trans (hb4.mono hw3.size)
    have a4 := a1.later hb4
    have own4 := own_later own1 hb4
    have gu4 := gu.below hb4 (Nat.le_refl _)
    have z4 := hb4.size
    have hgt := (ot.lt gt rfl).2
    clear ca la hb4 ot a1 own1 gu hw3
    have ca := a4.cell
    have la := a4.lt
    go_wp2_with fail
    go_loopw [5, 25] (fun ov i wr => ∃ k : Nat, k ≤ c.instrs.length ∧ i = .int .i64 k ∧ wr.ownsRow (w.heap.size + 1) 46 2 ov (foundL c sh kd k).length (edVals (foundL c sh kd k)) ∧ Below w.heap.size w wr ∧ Blk wr w.heap.size 34 #[Value.slice Aroutines c.routines.length nroutines, .slice Arecords c.records.length nrecords, .slice Aglobals c.globals.length nglobals, .int .i64 c.main, .slice Ainstrs c.instrs.length ninstrs] ∧ LRep wr (w.heap.size + 2) w3.heap.size 1 strDats u sh ∧ Rds wr w3.heap.size w4.heap.size 1 (.slice (some ⟨gt, 0, none⟩) c.instrs.length c.instrs.length) c.instrs.length (flags c.instrs.length (tgB c)) ∧ Apart ov (w.heap.size + 2) w4.heap.size ∧ w4.heap.size ≤ wr.heap.size) (fun _ i _ => c.instrs.length - (intOf i).toNat)
    case atStart => exact ⟨0, Nat.zero_le _, rfl, own4, hw4, a4, gu4, ty, fun b hb => .inl (by simp [Value.ownBlock] at hb; omega), Nat.le_refl _⟩
    case round =>
      clear own4 hw4 a4 gu4 ty ca la
      obtain ⟨k, hk, rfl, own, hw, a1, gu, ty, hap, hz⟩ := hrel
      obtain ⟨wo, rfl⟩ : ∃ wo : World, wo = wr := ⟨_, rfl⟩
      have ca := a1.cell
      have la := a1.lt
      have hfl := found_len c sh kd k
      by_cases hlt : k < c.instrs.length
      · obtain ⟨x, hx⟩ : ∃ x, c.instrs[k]? = some x := ⟨_, List.getElem?_eq_getElem hlt⟩
        obtain ⟨r, hr⟩ : ∃ r, editB c sh kd k = r := ⟨_, rfl⟩
        have HR : Hid (editAt c sh kd k x = r) := by show _ = _; rw [← edit_at hx]; exact hr
        have bb : Below wo.heap.size wo (wo.alloc (.cells #[Value.int .i64 kd, .int .i64 k] 46)) := (Below.refl _ _).alloc (Nat.le_refl _) _
        have HA := Lib.hid (impl_acceptedEdit c sh (.agg #[Value.slice Aroutines c.routines.length nroutines, .slice Arecords c.records.length nrecords, .slice Aglobals c.globals.length nglobals, .int .i64 c.main, .slice Ainstrs c.instrs.length ninstrs]) u (.slice (some ⟨gt, 0, none⟩) c.instrs.length c.instrs.length) x kd k _ lo hi _ _ _ _ (h0.out.below (hw.trans (bb.mono hw.size)) hhi) (by simp; omega) (gu.below bb (by omega)) (by simp; omega) HSL.out (ty.below bb hz) (by simp; omega) HCV.out hx)
        have a2 := a1.alloc (.cells #[Value.int .i64 kd, .int .i64 k] 46)
        have own2 := own.alloc (.cells #[Value.int .i64 kd, .int .i64 k] 46)
        have be := Blk.new wo 46 #[Value.int .i64 kd, .int .i64 k]
        have hw2 := hw.trans (bb.mono hw.size)
        have gu2 := gu.below bb (by omega)
        have ty2 := ty.below bb hz
        have HFY := Lib.hid (fun e : r = true => found_yes (c := c) (sh := sh) (k := kd) (n := k) (hr.trans e))
        have HFN := Lib.hid (fun e : r = false => found_no (c := c) (sh := sh) (k := kd) (n := k) (hr.trans e))
        clear own hw a1 gu ty hx hr bb
        go_wp2_with fail
        refine HA.out.mono ?_; rw [HR.out]; rintro e w6 ⟨rfl, hb⟩
        have z6 : wo.heap.size < w6.heap.size := by have hh := hb.size; simp at hh; omega
        have a3 := a2.later hb
        have own3 := own_later own2 hb
        have be3 := be.later hb
        have hw6 := hw2.trans (hb.mono hw2.size)
        have gu3 := gu2.below hb (by simp; omega)
        have ty3 := ty2.below hb (by simp; omega)
        clear a2 own2 be hw2 gu2 ty2 hb HA ca la
        have cb := be3.cell
        have lb := be3.lt
        cases r with
        | false =>
          have HN := HFN.out rfl
          clear HFY HFN
          go_wp2_with fail
          go_roundw
          case rel => exact ⟨k + 1, by omega, by go_num, by rw [HN]; exact own3, hw6, a3, gu3, ty3, hap, by omega⟩
          case measure => simp [intOf]; omega
        | true =>
          have HY := Lib.hid (HFY.out rfl)
          clear HFY HFN
          have hroom : ((foundL c sh kd k).length + 1) * 16 ≤ 140737488355328 := by omega
          go_wp2_with (first | (at_builtin; refine wpList_push rfl (.tmp 36) (.tmp 38) 49 rfl 46 _ 2 16 info_edit Tryz.underlying49 rfl (by decide) (by decide) (w.heap.size + 1) _ _ _ rfl own3 #[.int .i64 kd, .int .i64 k] 1 _ rfl rfl (by simp [Value.oneCell']) hroom (by omega) ?_))
          intro v2 w7 hown7 hg7 hat7
          have a7 := a3.grown hg7 (fun e => by have := (own3.lt _ e.symm).1; omega)
          have hw7 := below_push hw6 hw6.size (own_low own3 (Nat.le_succ _)) hg7
          have gu7 := LRep.grown gu3 hg7 (by omega) (fun g hg => by rcases hap g hg with h | h <;> omega)
          have ty7 := ty3.grown hg7 (by omega) (fun g hg => by rcases hap g hg with h | h <;> omega)
          have hap7 := hap.push hat7 (by omega)
          have z7 := hg7.size
          have hown8 : w7.ownsRow (w.heap.size + 1) 46 2 v2 (foundL c sh kd (k + 1)).length (edVals (foundL c sh kd (k + 1))) := by
            rw [HY.out, List.length_append, edVals_snoc]; exact hown7
          clear hown7 own3 a3 hw6 gu3 ty3 cb lb be3 hat7 hg7 hap
          go_wp2_with fail
          go_roundw
          case rel => exact ⟨k + 1, by omega, by go_num, hown8, hw7, a7, gu7, ty7, hap7, by omega⟩
          case measure => simp [intOf]; omega
      · obtain rfl : k = c.instrs.length := by omega
        go_wp2_with fail
        go_ret
        refine ⟨_, rfl, ?_, hw⟩
        rw [HF.out]
        exact OwnLR.edits (own_low own (Nat.le_succ _)) (Nat.le_refl _)
set_option maxRecDepth 100000 in
set_option maxHeartbeats 2000000 in
theorem spec_l35Pass (c : CodeT) (v : Value) (kd : Int) (w : World) (lo hi : Nat) (h : SRep w lo hi CodeT.dats v c) (hhi : hi ≤ w.heap.size) (htx : ∀ y ∈ c.instrs, y.text.size ≤ 1048576) :
    Calls Tryz.prog 60 #[v, .int .i64 kd] w (FindRes c kd w) := by
  have h0 := Lib.hid h
  obtain ⟨Aroutines, nroutines, Arecords, nrecords, Aglobals, nglobals, Ainstrs, ninstrs, rfl, -⟩ := CodeT.form h
  have hwa : Below w.heap.size w ((w.alloc (.cells #[Value.slice Aroutines c.routines.length nroutines, .slice Arecords c.records.length nrecords, .slice Aglobals c.globals.length nglobals, .int .i64 c.main, .slice Ainstrs c.instrs.length ninstrs] 34)).alloc (.cells #[] 46)) := ((Below.refl _ _).alloc (Nat.le_refl _) _).alloc (by simp) _
  have a0 := (Blk.new w 34 #[Value.slice Aroutines c.routines.length nroutines, .slice Arecords c.records.length nrecords, .slice Aglobals c.globals.length nglobals, .int .i64 c.main, .slice Ainstrs c.instrs.length ninstrs]).alloc (.cells #[] 46)
  have own0 : ((w.alloc (.cells #[Value.slice Aroutines c.routines.length nroutines, .slice Arecords c.records.length nrecords, .slice Aglobals c.globals.length nglobals, .int .i64 c.main, .slice Ainstrs c.instrs.length ninstrs] 34)).alloc (.cells #[] 46)).ownsRow (w.heap.size + 1) 46 2 (.slice (some ⟨w.heap.size + 1, 0, none⟩) 0 0) 0 [] := by
    have := World.ownsRow_made (base := w.heap.size + 1) (e := 46) (size := 2) (w.alloc (.cells #[Value.slice Aroutines c.routines.length nroutines, .slice Arecords c.records.length nrecords, .slice Aglobals c.globals.length nglobals, .int .i64 c.main, .slice Ainstrs c.instrs.length ninstrs] 34)) #[] 0 (by simp) (by unfold maxLen; omega) rfl
    simpa using this
  have HV := Lib.hid (spec_VerifyR c _ _ lo hi (h0.out.below hwa hhi) (Nat.le_trans hhi hwa.size) htx)
  obtain ⟨b, hb⟩ : ∃ b, verB c = b := ⟨_, rfl⟩
  have HB := Lib.hid hb
  clear h htx hb
  go_enter Tryz.func60, Tryz.ntmps60
  go_wp2_with fail
  refine HV.out.mono ?_; rintro e w3 ⟨u, rfl, gu, hb⟩
  rw [HB.out]
  have z3 : w.heap.size + 2 ≤ w3.heap.size := by have hh := hb.size; simp at hh; omega
  have hw3 := hwa.trans (hb.mono hwa.size)
  have a1 := a0.later hb
  have own1 := own_later own0 hb
  have gu := gu.rep
  have e2 : ((w.alloc (.cells #[Value.slice Aroutines c.routines.length nroutines, .slice Arecords c.records.length nrecords, .slice Aglobals c.globals.length nglobals, .int .i64 c.main, .slice Ainstrs c.instrs.length ninstrs] 34)).alloc (.cells #[] 46)).heap.size = w.heap.size + 2 := by simp
  rw [e2] at gu
  clear hb a0 own0 hwa HV e2
  have ca := a1.cell
  have la := a1.lt
  cases b with
  | false =>
    have HF : Hid (findL c kd = []) := by show _ = _; unfold findL; rw [HB.out]; rfl
    go_wp2_with fail
    go_ret
    refine ⟨_, rfl, ?_, hw3⟩
    rw [HF.out]
    exact OwnLR.edits (l := []) (own_low own1 (Nat.le_succ _)) (Nat.le_refl _)
  | true =>
    have HF : Hid (findL c kd = foundL c (verL c) kd c.instrs.length) := by show _ = _; unfold findL; rw [HB.out]; rfl
    obtain ⟨-, hsl⟩ := verL_yes HB.out
    have hcv := verC_valid HB.out
    have hn2 := hcv.n2
    have HCV := Lib.hid hcv
    have HSL := Lib.hid hsl
    obtain ⟨sh, hsh⟩ : ∃ sh, verL c = sh := ⟨_, rfl⟩
    rw [hsh] at gu HF HSL
    clear hcv hsl hsh
    go_wp2_with fail
    go_loopw [5, 8] (fun ov i wr => ∃ k : Nat, k ≤ c.instrs.length ∧ i = .int .i64 k ∧ wr.ownsRow (w.heap.size + 1) 46 2 ov (foundL c sh kd k).length (edVals (foundL c sh kd k)) ∧ Below w.heap.size w wr ∧ Blk wr w.heap.size 34 #[Value.slice Aroutines c.routines.length nroutines, .slice Arecords c.records.length nrecords, .slice Aglobals c.globals.length nglobals, .int .i64 c.main, .slice Ainstrs c.instrs.length ninstrs] ∧ LRep wr (w.heap.size + 2) w3.heap.size 1 strDats u sh ∧ Apart ov (w.heap.size + 2) w3.heap.size ∧ w3.heap.size ≤ wr.heap.size) (fun _ i _ => c.instrs.length - (intOf i).toNat)
    case atStart => exact ⟨0, Nat.zero_le _, rfl, own1, hw3, a1, gu, fun b hb => .inl (by simp [Value.ownBlock] at hb; omega), Nat.le_refl _⟩
    case round =>
      clear own1 hw3 a1 gu ca la
      obtain ⟨k, hk, rfl, own, hw, a1, gu, hap, hz⟩ := hrel
      obtain ⟨wo, rfl⟩ : ∃ wo : World, wo = wr := ⟨_, rfl⟩
      have ca := a1.cell
      have la := a1.lt
      have hfl := found_len c sh kd k
      by_cases hlt : k < c.instrs.length
      · obtain ⟨r, hr⟩ : ∃ r, editB c sh kd k = r := ⟨_, rfl⟩
        have HR := Lib.hid hr
        have bb : Below wo.heap.size wo (wo.alloc (.cells #[Value.int .i64 kd, .int .i64 k] 46)) := (Below.refl _ _).alloc (Nat.le_refl _) _
        have HA := Lib.hid (spec_l35Check c sh (.agg #[Value.slice Aroutines c.routines.length nroutines, .slice Arecords c.records.length nrecords, .slice Aglobals c.globals.length nglobals, .int .i64 c.main, .slice Ainstrs c.instrs.length ninstrs]) u kd k _ lo hi _ _ (h0.out.below (hw.trans (bb.mono hw.size)) hhi) (by simp; omega) (gu.below bb (by omega)) (by simp; omega) HSL.out HCV.out)
        have a2 := a1.alloc (.cells #[Value.int .i64 kd, .int .i64 k] 46)
        have own2 := own.alloc (.cells #[Value.int .i64 kd, .int .i64 k] 46)
        have be := Blk.new wo 46 #[Value.int .i64 kd, .int .i64 k]
        have hw2 := hw.trans (bb.mono hw.size)
        have gu2 := gu.below bb (by omega)
        have HFY := Lib.hid (fun e : r = true => found_yes (c := c) (sh := sh) (k := kd) (n := k) (hr.trans e))
        have HFN := Lib.hid (fun e : r = false => found_no (c := c) (sh := sh) (k := kd) (n := k) (hr.trans e))
        clear own hw a1 gu hr bb
        go_wp2_with fail
        refine HA.out.mono ?_; rw [HR.out]; rintro e w6 ⟨rfl, hb⟩
        have z6 : wo.heap.size < w6.heap.size := by have hh := hb.size; simp at hh; omega
        have a3 := a2.later hb
        have own3 := own_later own2 hb
        have be3 := be.later hb
        have hw6 := hw2.trans (hb.mono hw2.size)
        have gu3 := gu2.below hb (by simp; omega)
        clear a2 own2 be hw2 gu2 hb HA ca la
        have cb := be3.cell
        have lb := be3.lt
        cases r with
        | false =>
          have HN := HFN.out rfl
          clear HFY HFN
          go_wp2_with fail
          go_roundw
          case rel => exact ⟨k + 1, by omega, by go_num, by rw [HN]; exact own3, hw6, a3, gu3, hap, by omega⟩
          case measure => simp [intOf]; omega
        | true =>
          have HY := Lib.hid (HFY.out rfl)
          clear HFY HFN
          have hroom : ((foundL c sh kd k).length + 1) * 16 ≤ 140737488355328 := by omega
          go_wp2_with (first | (at_builtin; refine wpList_push rfl (.tmp 33) (.tmp 35) 49 rfl 46 _ 2 16 info_edit Tryz.underlying49 rfl (by decide) (by decide) (w.heap.size + 1) _ _ _ rfl own3 #[.int .i64 kd, .int .i64 k] 1 _ rfl rfl (by simp [Value.oneCell']) hroom (by omega) ?_))
          intro v2 w7 hown7 hg7 hat7
          have a7 := a3.grown hg7 (fun e => by have := (own3.lt _ e.symm).1; omega)
          have hw7 := below_push hw6 hw6.size (own_low own3 (Nat.le_succ _)) hg7
          have gu7 := LRep.grown gu3 hg7 (by omega) (fun g hg => by rcases hap g hg with h | h <;> omega)
          have hap7 := hap.push hat7 (by omega)
          have z7 := hg7.size
          have hown8 : w7.ownsRow (w.heap.size + 1) 46 2 v2 (foundL c sh kd (k + 1)).length (edVals (foundL c sh kd (k + 1))) := by
            rw [HY.out, List.length_append, edVals_snoc]; exact hown7
          clear hown7 own3 a3 hw6 gu3 cb lb be3 hat7 hg7 hap
          go_wp2_with fail
          go_roundw
          case rel => exact ⟨k + 1, by omega, by go_num, hown8, hw7, a7, gu7, hap7, by omega⟩
          case measure => simp [intOf]; omega
      · obtain rfl : k = c.instrs.length := by omega
        go_wp2_with fail
        go_ret
        refine ⟨_, rfl, ?_, hw⟩
        rw [HF.out]
        exact OwnLR.edits (own_low own (Nat.le_succ _)) (Nat.le_refl _)
set_option maxRecDepth 100000 in
set_option maxHeartbeats 2000000 in
theorem spec_FindEdits (c : CodeT) (v : Value) (kd : Int) (w : World) (lo hi : Nat) (h : SRep w lo hi CodeT.dats v c) (hhi : hi ≤ w.heap.size) (htx : ∀ y ∈ c.instrs, y.text.size ≤ 1048576) :
    Calls Tryz.prog 23 #[v, .int .i64 kd] w (FindRes c kd w) := by
  have h0 := h
  obtain ⟨Aroutines, nroutines, Arecords, nrecords, Aglobals, nglobals, Ainstrs, ninstrs, rfl, -⟩ := CodeT.form h
  have hwa : Below w.heap.size w (w.alloc (.cells #[Value.slice Aroutines c.routines.length nroutines, .slice Arecords c.records.length nrecords, .slice Aglobals c.globals.length nglobals, .int .i64 c.main, .slice Ainstrs c.instrs.length ninstrs] 34)) := (Below.refl _ _).alloc (Nat.le_refl _) _
  have HP := Lib.hid (spec_l35Pass c _ kd _ lo hi (h0.below hwa hhi) (Nat.le_trans hhi hwa.size) htx)
  clear h h0 htx
  go_enter Tryz.func23, Tryz.ntmps23
  go_wp2_with fail
  refine HP.out.mono ?_; rintro e w3 ⟨u, rfl, gu, hb⟩
  have hw3 := hwa.trans (hb.mono hwa.size)
  go_wp2_with fail
  go_ret
  exact ⟨_, rfl, gu.wide (by simp) (Nat.le_refl _), hw3⟩
end Go.Proofs.YtekobbeoaalibaaGreatDoor
