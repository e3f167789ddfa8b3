/- VerifyCode of the reference, given what IsValidCode answers. -/
import Derived.Test.YtekobbeoaalibaaGreatDoorAfter
import Derived.Test.YtekobbeoaalibaaGreatDoorVerJ
import Derived.Test.YtekobbeoaalibaaGreatDoorInsDefs
import Derived.Deep.LoopGhost
import Derived.BigRegion
import Derived.StillTailTactics
import Derived.Deep.RegionHeld3
namespace Go.Proofs.YtekobbeoaalibaaGreatDoor
open Go.RowKit
set_option linter.unusedVariables false

theorem info_shapeS : (Tryz.prog.info? 9).map (fun i => (i.zero, i.size, i.bytes)) = some (some (.string ⟨#[]⟩), 1, 16) := by kernel_rfl
/-- between the rounds of the second loop: ok is the flag -/
def StartS (w0 : World) (c : CodeT) (sv : Value) (i tv ok : Value) (wr : World) : Prop :=
  ∃ k : Nat, k ≤ c.routines.length ∧ i = .int .i64 k ∧ ∃ (q : St × Bool), ok = .bool (!q.2) ∧ RE w0 wr c.instrs.length [] q.1 sv tv ∧ Inv c.instrs.length q.1 ∧ Hid (startsP (c.routines.take k) (st0 c.instrs.length) = if q.2 = true then none else some q.1)
def RunS (w0 : World) (c : CodeT) (sv : Value) (gk : Nat) (tv ok : Value) (wr : World) : Prop :=
  ∃ (q : St × Bool), ok = .bool (!q.2) ∧ RE w0 wr c.instrs.length [] q.1 sv tv ∧ Inv c.instrs.length q.1 ∧ gk = (if q.2 = true then 0 else q.1.mu + 1) ∧ Hid (verdict c = if q.2 = true then none else verd c.instrs q.1)
theorem giveP_reach {q : St × Bool} {p : Int} {s : ByteArray} (h : q.2 = false) : giveP q p s = ((reach q.1 p s).getD q.1, !(reach q.1 p s).isSome) := by
  unfold giveP
  cases hr : reach q.1 p s with
  | none => rfl
  | some s1 => simp [h]
theorem step_back {c : List InsT} {st : St} {i : Nat} {x : InsT} (hb : backB c i x = true) : stepAt c st i x = none := by unfold stepAt; rw [if_pos hb]
theorem step_aft {c : List InsT} {st : St} {i : Nat} {x : InsT} (ha : after x (st.at_ i) = none) : stepAt c st i x = none := by unfold stepAt; rw [ha]; split <;> rfl
theorem step_none1 {c : List InsT} {st : St} {i : Nat} {x : InsT} {nx lb : ByteArray} (ha : after x (st.at_ i) = some (nx, lb)) (hr : reach st ((i : Int) + 1) nx = none) : stepAt c st i x = none := by unfold stepAt; rw [ha]; split; rfl; simp [hr]
theorem step_some1 {c : List InsT} {st s1 : St} {i : Nat} {x : InsT} {nx lb : ByteArray} (hb : backB c i x = false) (ha : after x (st.at_ i) = some (nx, lb)) (hr : reach st ((i : Int) + 1) nx = some s1) :
    stepAt c st i x = if (giveP (s1, false) x.a lb).2 = true then none else some (giveP (s1, false) x.a lb).1 := by
  unfold stepAt
  rw [hb, if_neg (by decide), ha]
  simp only [hr, Option.bind_some]
  rw [giveP_reach rfl]
  cases reach s1 x.a lb <;> rfl
theorem after_lab {n : Nat} {x : InsT} {s nx lb : ByteArray} (hv : InsV n x) (h : after x s = some (nx, lb)) (hl : 0 < lb.size) : 0 ≤ x.a := by
  have F0 : ¬ 0 < (⟨#[]⟩ : ByteArray).size := by rw [size_nil]; omega
  by_cases hj : jumpB x.op = true
  · rcases hv.lab hj with h1 | ⟨h1, h2⟩
    · exact h1.1
    · exfalso
      simp only [after, h1, h2] at h
      have h' := (Option.some.inj h)
      have h2 := congrArg Prod.snd h'
      apply F0
      rw [show (⟨#[]⟩ : ByteArray) = lb from h2]
      exact hl
  · exfalso
    have hn : ¬ (x.op = 13 ∨ x.op = 15 ∨ x.op = 17 ∨ x.op = 19 ∨ x.op = 27) := fun e => hj (decide_eq_true e)
    have q1 : ¬ x.op = 13 := fun e => hn (by omega)
    have q2 : ¬ x.op = 15 := fun e => hn (by omega)
    have q3 : ¬ x.op = 17 := fun e => hn (by omega)
    have q4 : ¬ x.op = 19 := fun e => hn (by omega)
    have q5 : ¬ x.op = 27 := fun e => hn (by omega)
    unfold after at h
    rw [if_neg q1, if_neg q2, if_neg q3, if_neg q4, if_neg q5] at h
    apply F0
    have e : (⟨#[]⟩ : ByteArray) = lb := by
      by_cases z0 : x.op = 5
      · rw [if_pos z0] at h; split at h <;> first | exact congrArg Prod.snd (Option.some.inj h) | exact absurd h (by simp)
      rw [if_neg z0] at h
      by_cases z1 : x.op ≤ 10
      · rw [if_pos z1] at h; exact congrArg Prod.snd (Option.some.inj h)
      rw [if_neg z1] at h
      by_cases z2 : x.op ≤ 12
      · rw [if_pos z2] at h; split at h <;> first | exact congrArg Prod.snd (Option.some.inj h) | exact absurd h (by simp)
      rw [if_neg z2] at h
      by_cases z3 : x.op = 14
      · rw [if_pos z3] at h; split at h <;> first | exact congrArg Prod.snd (Option.some.inj h) | exact absurd h (by simp)
      rw [if_neg z3] at h
      by_cases z4 : x.op = 16
      · rw [if_pos z4] at h; exact congrArg Prod.snd (Option.some.inj h)
      rw [if_neg z4] at h
      by_cases z5 : x.op = 18
      · rw [if_pos z5] at h; exact congrArg Prod.snd (Option.some.inj h)
      rw [if_neg z5] at h
      by_cases z6 : x.op = 20
      · rw [if_pos z6] at h; split at h <;> first | exact congrArg Prod.snd (Option.some.inj h) | exact absurd h (by simp)
      rw [if_neg z6] at h
      by_cases z7 : x.op = 21
      · rw [if_pos z7] at h; split at h <;> first | exact congrArg Prod.snd (Option.some.inj h) | exact absurd h (by simp)
      rw [if_neg z7] at h
      by_cases z8 : x.op = 22
      · rw [if_pos z8] at h; split at h <;> first | exact congrArg Prod.snd (Option.some.inj h) | exact absurd h (by simp)
      rw [if_neg z8] at h
      by_cases z9 : x.op = 23
      · rw [if_pos z9] at h; split at h <;> first | exact congrArg Prod.snd (Option.some.inj h) | exact absurd h (by simp)
      rw [if_neg z9] at h
      by_cases z10 : x.op = 24
      · rw [if_pos z10] at h; split at h <;> first | exact congrArg Prod.snd (Option.some.inj h) | exact absurd h (by simp)
      rw [if_neg z10] at h
      by_cases z11 : x.op = 25
      · rw [if_pos z11] at h; split at h <;> first | exact congrArg Prod.snd (Option.some.inj h) | exact absurd h (by simp)
      rw [if_neg z11] at h
      by_cases z12 : x.op = 26
      · rw [if_pos z12] at h; split at h <;> first | exact congrArg Prod.snd (Option.some.inj h) | exact absurd h (by simp)
      rw [if_neg z12] at h
      by_cases z13 : x.op = 28
      · rw [if_pos z13] at h; split at h <;> first | exact congrArg Prod.snd (Option.some.inj h) | exact absurd h (by simp)
      rw [if_neg z13] at h
      by_cases z14 : x.op = 29
      · rw [if_pos z14] at h; split at h <;> first | exact congrArg Prod.snd (Option.some.inj h) | exact absurd h (by simp)
      rw [if_neg z14] at h
      split at h <;> first | exact congrArg Prod.snd (Option.some.inj h) | exact absurd h (by simp)
    rw [e]; exact hl
theorem aft_none {n : Nat} {x : InsT} {s : ByteArray} {w : World} (hv : InsV n x) (hg : goodB s = true) (hs : s.size ≤ 1048576) (h : after x s = none) :
    Calls Tryz.prog 49 #[.agg #[.int .i64 x.op, .int .i64 x.a, .int .i64 x.b, .int .i64 x.line, .string x.text], .string s] w fun e w' => ∃ nx lb, e = .returned (.tuple #[.string nx, .string lb, .bool false]) ∧ Below w.heap.size w w' :=
  (spec_l30After x s w hv hg hs).mono fun e w' ⟨nx, lb, he, hb, _⟩ => ⟨nx, lb, by rw [he, h]; rfl, hb⟩
theorem aft_some {n : Nat} {x : InsT} {s nx lb : ByteArray} {w : World} (hv : InsV n x) (hg : goodB s = true) (hs : s.size ≤ 1048576) (h : after x s = some (nx, lb)) :
    Calls Tryz.prog 49 #[.agg #[.int .i64 x.op, .int .i64 x.a, .int .i64 x.b, .int .i64 x.line, .string x.text], .string s] w fun e w' => e = .returned (.tuple #[.string nx, .string lb, .bool true]) ∧ Below w.heap.size w w' :=
  (spec_l30After x s w hv hg hs).mono fun e w' ⟨nx', lb', he, hb, hq⟩ => by
    obtain ⟨h1, h2⟩ := hq _ h
    refine ⟨?_, hb⟩
    rw [he, h, h1, h2]; rfl
set_option maxRecDepth 100000 in
set_option maxHeartbeats 8000000 in
theorem spec_VerifyCode (c : CodeT) (vb : Bool) (x : Value) (w : World) (lo hi : Nat) (h : SRep w lo hi CodeT.dats x c) (hhi : hi ≤ w.heap.size)
    (HV : ∀ W, Below w.heap.size w W → Calls Tryz.prog 46 #[x] W fun e w' => e = .returned (.bool vb) ∧ Below W.heap.size W w') (hok : vb = true → CodeV c) :
    Calls Tryz.prog 14 #[x] w fun e w' => VerPost (verOf vb c) w e w' ∧ VerNil (verOf vb c) e := by
  have HVC := Lib.hid HV
  clear HV
  obtain ⟨Aroutines, nroutines, Arecords, nrecords, Aglobals, nglobals, Ainstrs, ninstrs, rfl, hr, ur, mr, hd, ud, md, hg, ug, mg, hi1, ui, mi⟩ := CodeT.form h
  unfold maxLen at mr md mg mi
  have hwa : Below w.heap.size w (w.alloc (.cells #[.slice Aroutines c.routines.length nroutines, .slice Arecords c.records.length nrecords, .slice Aglobals c.globals.length nglobals, .int .i64 c.main, .slice Ainstrs c.instrs.length ninstrs] 34)) := (Below.refl _ _).alloc (Nat.le_refl _) _
  have a0 := Blk.new w 34 #[.slice Aroutines c.routines.length nroutines, .slice Arecords c.records.length nrecords, .slice Aglobals c.globals.length nglobals, .int .i64 c.main, .slice Ainstrs c.instrs.length ninstrs]
  cases vb with
  | false =>
    clear hok
    go_enter Tryz.func14, Tryz.ntmps14
    go_wp2_with fail
    refine (HVC.out _ hwa).mono ?_; rintro e w1 ⟨rfl, hb1⟩
    have hw1 := hwa.trans (hb1.mono hwa.size)
    go_wp2_with fail
    go_ret2
    exact ver_no rfl hw1 rfl
  | true =>
    have hcv := hok rfl
    have n1 := hcv.n1
    have n2 := hcv.n2
    clear hok
    go_enter Tryz.func14, Tryz.ntmps14
    go_wp2_with fail
    refine (HVC.out _ hwa).mono ?_; rintro e w1 ⟨rfl, hb1⟩
    have hw1 := hwa.trans (hb1.mono hwa.size)
    have a1 := a0.later hb1
    clear hb1 a0 HVC hwa
    have ha1 := a1.lt
    have ho0 := World.ownsRow_lit w1 #[] 0 (base := w1.heap.size) (e := 9) (size := 1) (Nat.le_refl _) (by decide) rfl
    have hb0 : Below w1.heap.size w1 (w1.alloc (.cells #[] 9)) := (Below.refl _ _).alloc (Nat.le_refl _) _
    go_wp2_with fail
    go_loopw [4, 5] (fun v i wr => ∃ k : Nat, k ≤ c.instrs.length ∧ i = .int .i64 k ∧ wr.ownsRow w1.heap.size 9 1 v k ((List.replicate k (⟨#[]⟩ : ByteArray)).map Value.string) ∧ Below w1.heap.size w1 wr) (fun _ i _ => c.instrs.length - (intOf i).toNat)
    case atStart => exact ⟨0, Nat.zero_le _, rfl, ho0, hb0⟩
    case round =>
      clear ho0 hb0
      obtain ⟨k, hk, rfl, ho, hb⟩ := hrel
      have a2 := a1.below hb ha1
      have ca := a2.cell
      have la := a2.lt
      by_cases hlt : k < c.instrs.length
      · go_wp2_with (first | (at_builtin; refine wpList_push rfl (.tmp 25) (.tmp 26) 24 rfl 9 _ 1 16 info_shapeS Tryz.underlying24 rfl (by decide) (by decide) w1.heap.size _ _ _ rfl ho #[.string ⟨#[]⟩] 1 _ rfl rfl (by simp [Value.oneCell']) (by omega) hb.size ?_))
        rintro v' w9 hown9 hgrow -
        have hb9 := below_push hb hb.size ho hgrow
        have ho9 : w9.ownsRow w1.heap.size 9 1 v' (k + 1) ((List.replicate (k + 1) (⟨#[]⟩ : ByteArray)).map Value.string) := by rw [List.replicate_succ', List.map_append, List.map_replicate]; exact hown9
        clear hown9 hgrow ho ca la
        go_wp2_with fail
        go_roundw
        case rel => exact ⟨k + 1, by omega, by go_num, ho9, hb9⟩
        case measure => simp [intOf]; omega
      · obtain rfl : k = c.instrs.length := by omega
        clear hlt
        obtain ⟨gs, caps, rfl, -⟩ := ho.form n1
        have hgl := (ho.lt gs rfl).2
        have hre : RE w1 (wr.alloc (.cells #[] 3)) c.instrs.length [] (st0 c.instrs.length) (.slice (some ⟨gs, 0, none⟩) c.instrs.length caps) (.slice (some ⟨wr.heap.size, 0, none⟩) 0 0) :=
          ⟨⟨ho.alloc _, own_low (World.ownsRow_lit wr #[] 0 (base := wr.heap.size) (e := 3) (size := 1) (Nat.le_refl _) (by decide) rfl) hb.size, hb.alloc hb.size _, fun k hk e => by injection hk with hk; injection e with e; dsimp only at hk e; omega⟩, fun x hx => by cases hx⟩
        clear ho
        go_upto_region 9 with (fail)
        clear ca la a2
        generalize wr.alloc (.cells #[] 3) = w2 at hre ⊢
        go_wp2_with fail
        go_loopw [6, 7, 8] (fun tv ok i wx => StartS w1 c (.slice (some ⟨gs, 0, none⟩) c.instrs.length caps) i tv ok wx) (fun _ _ i _ => c.routines.length - (intOf i).toNat)
        case atStart => exact ⟨0, Nat.zero_le _, rfl, (st0 c.instrs.length, false), rfl, hre, inv0 _, rfl⟩
        case round =>
          clear hre hb hgl
          obtain ⟨k, hk, rfl, ⟨st, bad⟩, rfl, hre, hI, hst⟩ := hrel
          have hb := hre.rows.bel
          have hw2 : Below w.heap.size w wr := hw1.trans (hb.mono hw1.size)
          have a2 := a1.below hb ha1
          have ca := a2.cell
          have la := a2.lt
          by_cases hlt : k < c.routines.length
          · cases bad with
            | false =>
              obtain ⟨r, hrk⟩ : ∃ r, c.routines[k]? = some r := ⟨_, List.getElem?_eq_getElem hlt⟩
              obtain ⟨g, off, hA, hg1, hg2, hmem, -, -, -, q2, q3⟩ := CRoT.at_ (hr.below hw2 hhi) hrk
              subst hA
              obtain ⟨s0, s1, e0, e1⟩ := hcv.ros r hmem
              obtain ⟨sl, hsl⟩ : ∃ sl : Nat, r.slots = sl := ⟨r.slots.toNat, by omega⟩
              obtain ⟨z, hz⟩ : ∃ z, startS r = z := ⟨_, rfl⟩
              have hF : Fit c.instrs.length (empties st.sh) z := by rw [← hz]; exact start_fit (by omega) (empties_le hI)
              have HST : Hid (startsP (c.routines.take (k + 1)) (st0 c.instrs.length) = if (giveP (st, false) r.entry z).2 = true then none else some (giveP (st, false) r.entry z).1) := by
                show _ = _
                rw [take_snoc_of hrk, ← hz]
                exact start_step hst.out
              have hInv := (giveP_inv (q := (st, false)) (p := r.entry) (s := z) hI hF).1
              have HGR := Lib.hid (giveP_reach (q := (st, false)) (p := r.entry) (s := z) rfl)
              rw [hsl] at q2 s0 s1
              have hzz : (⟨#[UInt8.ofNat (65 + (sl : Int)).toNat]⟩ : ByteArray) = z := by rw [← hz, startS, hsl]; congr 3
              have hcvt : (convert 77 9 (.slice (some ⟨wr.heap.size, 0, none⟩) 1 1)).run Tryz.prog (wr.alloc (.cells #[.int .u8 (65 + (sl : Int))] 5)).drew = .ok (.string z) (wr.alloc (.cells #[.int .u8 (65 + (sl : Int))] 5)).drew := by
                have := run_convert_byte1 (P := Tryz.prog) 77 9 5 Tryz.underlying77 Tryz.underlying5 Tryz.underlying9 wr.drew (65 + (sl : Int)) 1 5
                rw [hzz] at this
                exact this
              have hreA := (hre.alloc (.cells #[.int .u8 (65 + (sl : Int))] 5)).same (Same.refl _).drew
              have g1 : IntKind.i64.wrap (65 + (sl : Int)) = 65 + (sl : Int) := IntWalk.i64_in _ (by omega)
              have g2 : IntKind.u8.wrap (65 + (sl : Int)) = 65 + (sl : Int) := wrap8' _ (by omega) (by omega)
              have k0 : (0 : Int) ≤ (k : Int) := by omega
              have k1 : (k : Int) < (c.routines.length : Int) := by omega
              have hS : ∀ W, Below w1.heap.size w1 W → (∀ j, W.cell? ⟨w.heap.size, j, none⟩ = (#[.slice (some ⟨g, off, none⟩) c.routines.length nroutines, .slice Arecords c.records.length nrecords, .slice Aglobals c.globals.length nglobals, .int .i64 c.main, .slice Ainstrs c.instrs.length ninstrs] : Array Value)[j]?) ∧ W.cell? ⟨g, off + k * 4 + 2, none⟩ = some (.int .i64 (sl : Int)) ∧ W.cell? ⟨g, off + k * 4 + 3, none⟩ = some (.int .i64 r.entry) := fun W hW =>
                ⟨(a1.below hW ha1).cell, (hW.cell (p := ⟨g, off + k * 4 + 2, none⟩) (by show g < _; have := hw1.size; omega)).trans ((hb.cell (p := ⟨g, off + k * 4 + 2, none⟩) (by show g < _; have := hw1.size; omega)).symm.trans q2), (hW.cell (p := ⟨g, off + k * 4 + 3, none⟩) (by show g < _; have := hw1.size; omega)).trans ((hb.cell (p := ⟨g, off + k * 4 + 3, none⟩) (by show g < _; have := hw1.size; omega)).symm.trans q3)⟩
              have HS := Lib.hid hS
              have hbD : Below w1.heap.size w1 wr.drew := hb.drew
              have hbA := hreA.rows.bel
              clear hS hzz hz hsl hrk hmem hst
              go_wp2_with fail
              have hgw : g < wr.heap.size := by have := hw2.size; omega
              go_region_with (first
                | (go_at_call 47; have hG := spec_l30Reach hreA hI n1 n2 r.entry z (fun _ => e0); refine hG.mono ?_; clear hG; rintro e w5 ⟨tv5, rfl, h5⟩))
              all_goals
                clear hcvt g1 g2 HS hbD hbA hreA ca la q2 q3
                go_wp2_with fail
                go_roundw
                case rel => exact ⟨k + 1, by omega, by go_num, giveP (st, false) r.entry z, by rw [HGR.out, Bool.not_not], by rw [HGR.out]; exact h5, hInv, HST⟩
                case measure => simp [intOf]; omega
            | true =>
              have HR : Hid (verOf true c = none) := by
                show verdict c = none
                have h1 := startsP_none (qs := c.routines.drop k) (hst.out.trans (if_pos rfl))
                rw [List.take_append_drop] at h1
                unfold verdict
                rw [h1]; rfl
              clear hst
              go_wp2_with fail
              go_loopg [6, 7] 0 (fun gk tv' ok wx => gk = 0 ∧ ok = .bool false ∧ RE w1 wx c.instrs.length [] st (.slice (some ⟨gs, 0, none⟩) c.instrs.length caps) tv')
              case atStart => exact ⟨rfl, rfl, hre⟩
              case round =>
                clear hre hb hw2 a2 ca la
                obtain ⟨-, rfl, hre⟩ := hrel
                have hw2 : Below w.heap.size w wr := hw1.trans (hre.rows.bel.mono hw1.size)
                obtain ⟨At, capt, rfl, ht1, ht2⟩ := hre.rows.todo
                unfold maxLen at ht2
                by_cases h0 : 0 < st.wk.length
                · go_wp2_with fail
                  go_ret2
                  exact ver_no HR.out hw2 rfl
                · go_wp2_with fail
                  go_ret2
                  exact ver_no HR.out hw2 rfl
          · obtain rfl : k = c.routines.length := by omega
            rw [List.take_length] at hst
            have hstart : ∀ tv, RE w1 wr c.instrs.length [] st (.slice (some ⟨gs, 0, none⟩) c.instrs.length caps) tv → RunS w1 c (.slice (some ⟨gs, 0, none⟩) c.instrs.length caps) (if bad = true then 0 else st.mu + 1) tv (.bool (!bad)) wr := fun tv hre => by
              refine ⟨(st, bad), rfl, hre, hI, rfl, ?_⟩
              show _ = _
              unfold verdict
              rw [hst.out]
              cases bad <;> rfl
            have hstart := hstart _ hre
            obtain ⟨n0, hn0⟩ : ∃ n0, (if bad = true then 0 else st.mu + 1) = n0 := ⟨_, rfl⟩
            rw [hn0] at hstart
            clear hn0 hst hI hre
            go_wp2_with fail
            clear ca la a2 hw2 hb
            go_loopg [6, 7] n0 (fun gk tv' ok wx => RunS w1 c (.slice (some ⟨gs, 0, none⟩) c.instrs.length caps) gk tv' ok wx)
            case atStart => exact hstart
            case round =>
              clear hstart
              obtain ⟨⟨st, bad⟩, rfl, hre, hI, hgk, hV⟩ := hrel
              have hb := hre.rows.bel
              have hw2 : Below w.heap.size w wr := hw1.trans (hb.mono hw1.size)
              cases bad with
              | true =>
                have HR : Hid (verOf true c = none) := hV.out
                clear hV hgk
                obtain ⟨At, capt, rfl, ht1, ht2⟩ := hre.rows.todo
                unfold maxLen at ht2
                by_cases h0 : 0 < st.wk.length
                · go_wp2_with fail
                  go_ret2
                  exact ver_no HR.out hw2 rfl
                · go_wp2_with fail
                  go_ret2
                  exact ver_no HR.out hw2 rfl
              | false =>
                rcases List.eq_nil_or_concat st.wk with hwk | ⟨ws, i, hwk⟩
                · obtain ⟨At, capt, rfl, ht1, ht2⟩ := hre.rows.todo
                  unfold maxLen at ht2
                  obtain ⟨sh, wk⟩ := st
                  simp only at hwk
                  subst hwk
                  have HR : Hid (verOf true c = some sh) := hV.out.trans (verd_nil _ _)
                  have ho := hre.rows.sho
                  have HL := Lib.hid hre.rows.len
                  clear hV hgk
                  go_wp2_with fail
                  go_ret2
                  exact ver_yes HR.out hw2 rfl (by rw [HL.out]; exact own_low ho hw1.size)
                · rw [List.concat_eq_append] at hwk
                  obtain ⟨sh, wk⟩ := st
                  simp only at hwk
                  subst hwk
                  obtain ⟨g, capt, rfl, hgl, hgb, ht1, ht2, qt, hpop⟩ := hre.rows.pop
                  have hrp : RE w1 wr c.instrs.length [] ⟨sh, ws⟩ (.slice (some ⟨gs, 0, none⟩) c.instrs.length caps) (.slice (some ⟨g, 0, none⟩) ws.length capt) := ⟨hpop, fun x hx => by cases hx⟩
                  obtain ⟨hIp, hin, hsp⟩ := hI.pop
                  obtain ⟨x, hx⟩ : ∃ x, c.instrs[i]? = some x := ⟨_, List.getElem?_eq_getElem hin⟩
                  have hxv := hcv.ins x (List.mem_of_getElem? hx)
                  obtain ⟨hgd, hle⟩ := hIp.good _ (at_mem hsp) hsp
                  have qs := hpop.cell hin
                  obtain ⟨s, hs⟩ : ∃ s, (St.mk sh ws).at_ i = s := ⟨_, rfl⟩
                  have HS := Lib.hid hs
                  rw [hs] at qs hgd hle hsp
                  have hs6 : s.size ≤ 1048576 := by omega
                  have HX := Lib.hid hx
                  have HGK := Lib.hid hgk
                  have HG := Lib.hid hgd
                  obtain ⟨gI, oI, hA, hgI1, hgI2, -, -, q0, q1, q2, q3, q4⟩ := InsT.at_ (hi1.below hw2 hhi) hx
                  subst hA
                  unfold maxLen at ht2
                  have hstep : ∀ q' : St × Bool, (stepAt c.instrs ⟨sh, ws⟩ i x = if q'.2 = true then none else some q'.1) → (verdict c = if q'.2 = true then none else verd c.instrs q'.1) ∧ (if q'.2 = true then 0 else q'.1.mu + 1) < gk := fun q' hq' => by
                    obtain ⟨h1, h2⟩ := run_step (q := q') hI (by unfold step; rw [HX.out]; exact hq')
                    refine ⟨hV.out.trans h1, ?_⟩
                    rw [HGK.out]; exact h2
                  have HST := Lib.hid hstep
                  have HNO : Hid (stepAt c.instrs ⟨sh, ws⟩ i x = none → verOf true c = none) := fun e => ((HST.out (⟨sh, ws⟩, true) (e.trans (if_pos rfl).symm)).1).trans (if_pos rfl)
                  have hn0 : 0 < c.instrs.length := n1
                  have a2 := a1.below hb ha1
                  have ca := a2.cell
                  have la := a2.lt
                  clear hx hs hgk hgd hstep hV hpop hre
                  cases hj : jumpB x.op with
                  | false =>
                    have HJ := Lib.hid hj
                    have HBK : Hid (backB c.instrs i x = false) := back_no hj
                    clear hj
                    cases hA : after x s with
                    | none =>
                      have HR : Hid (verOf true c = none) := HNO.out (step_aft (by rw [HS.out]; exact hA))
                      have HAF := Lib.hid (fun W => aft_none (w := W) hxv HG.out hs6 hA)
                      clear hA
                      go_upto_region 18 with (fail)
                      have h3 := hrp.more #[.int .i64 x.op, .int .i64 x.a, .int .i64 x.b, .int .i64 x.line, .string x.text] 79
                      have qs3 := h3.rows.cell hin
                      rw [HS.out] at qs3
                      obtain ⟨bx, hbx⟩ : ∃ bx, wr.heap.size = bx := ⟨_, rfl⟩
                      rw [hbx] at h3 ⊢
                      have a3 := a2.alloc (.cells #[.int .i64 x.op, .int .i64 x.a, .int .i64 x.b, .int .i64 x.line, .string x.text] 79)
                      generalize wr.alloc (.cells #[.int .i64 x.op, .int .i64 x.a, .int .i64 x.b, .int .i64 x.line, .string x.text] 79) = w3 at h3 qs3 a3 ⊢
                      clear qs q0 q1 q2 q3 q4 qt ca la a2 hbx hrp hb
                      have cx := h3.one.cell
                      have lx := h3.one.lt
                      have hw3 : Below w.heap.size w w3 := hw1.trans (h3.rows.bel.mono hw1.size)
                      clear hw2
                      go_wp2_with fail
                      refine (spec_l28Jumps x.op _).mono ?_; rw [HJ.out]; rintro e w4 ⟨rfl, rfl⟩
                      go_wp2_with fail
                      go_region_held3 (fun W => (∀ j, W.cell? ⟨bx, j, none⟩ = (#[.int .i64 x.op, .int .i64 x.a, .int .i64 x.b, .int .i64 x.line, .string x.text] : Array Value)[j]?) ∧ W.cell? ⟨gs, i, none⟩ = some (.string s))
                        (first | exact ⟨cx, qs3⟩ | exact ⟨h5.one.cell, by rw [← HS.out]; exact h5.rows.cell hin⟩)
                        (first
                          | (go_at_call 49; refine (HAF.out _).mono ?_; rintro e w5 ⟨nx, lb, rfl, hb5⟩; have h5 := (h3.same (Same.refl w3).drew).later hb5))
                      have hw5 : Below w.heap.size w w5 := hw1.trans (h5.rows.bel.mono hw1.size)
                      clear cx lx
                      go_wp2_with fail
                      go_ret2
                      exact ver_no HR.out hw5 rfl
                    | some ab =>
                      obtain ⟨nx, lb⟩ := ab
                      have HAF := Lib.hid (fun W => aft_some (w := W) hxv HG.out hs6 hA)
                      have hlab := after_lab hxv hA
                      obtain ⟨f1, f2⟩ := after_fit HG.out hle hA
                      have hA' : after x ((St.mk sh ws).at_ i) = some (nx, lb) := by rw [HS.out]; exact hA
                      have HA := Lib.hid hA'
                      clear hA hA'
                      cases hr1 : reach ⟨sh, ws⟩ ((i : Int) + 1) nx with
                      | none =>
                        have HR1 := Lib.hid hr1
                        have HQ := Lib.hid (HST.out (⟨sh, ws⟩, true) ((step_none1 HA.out hr1).trans (if_pos rfl).symm))
                        clear hr1
                        go_upto_region 18 with (fail)
                        have h3 := hrp.more #[.int .i64 x.op, .int .i64 x.a, .int .i64 x.b, .int .i64 x.line, .string x.text] 79
                        have qs3 := h3.rows.cell hin
                        rw [HS.out] at qs3
                        obtain ⟨bx, hbx⟩ : ∃ bx, wr.heap.size = bx := ⟨_, rfl⟩
                        rw [hbx] at h3 ⊢
                        have a3 := a2.alloc (.cells #[.int .i64 x.op, .int .i64 x.a, .int .i64 x.b, .int .i64 x.line, .string x.text] 79)
                        generalize wr.alloc (.cells #[.int .i64 x.op, .int .i64 x.a, .int .i64 x.b, .int .i64 x.line, .string x.text] 79) = w3 at h3 qs3 a3 ⊢
                        clear qs q0 q1 q2 q3 q4 qt ca la a2 hbx hrp hb
                        have cx := h3.one.cell
                        have lx := h3.one.lt
                        have hw3 : Below w.heap.size w w3 := hw1.trans (h3.rows.bel.mono hw1.size)
                        clear hw2
                        go_wp2_with fail
                        refine (spec_l28Jumps x.op _).mono ?_; rw [HJ.out]; rintro e w4 ⟨rfl, rfl⟩
                        go_wp2_with fail
                        go_region_held3 (fun W => (∀ j, W.cell? ⟨bx, j, none⟩ = (#[.int .i64 x.op, .int .i64 x.a, .int .i64 x.b, .int .i64 x.line, .string x.text] : Array Value)[j]?) ∧ W.cell? ⟨gs, i, none⟩ = some (.string s))
                          (first | exact ⟨cx, qs3⟩ | exact ⟨h5.one.cell, by rw [← HS.out]; exact h5.rows.cell hin⟩)
                          (first
                            | (go_at_call 49; refine (HAF.out _).mono ?_; rintro e w5 ⟨rfl, hb5⟩; have h5 := (h3.same (Same.refl w3).drew).later hb5))
                        clear cx lx hb5
                        have cx := h5.one.cell
                        have lx := h5.one.lt
                        go_wp2_with fail
                        have hG := spec_l30Reach h5 hIp n1 n2 ((i : Int) + 1) nx (fun _ => by omega)
                        rw [HR1.out] at hG
                        refine hG.mono ?_; clear hG; rintro e w6 ⟨tv6, rfl, h6⟩
                        simp only [Option.getD_none] at h6
                        clear cx lx
                        go_wp2_with fail
                        go_roundg 0
                        case measure => have := HQ.out.2; simpa using this
                        case rel => exact ⟨(⟨sh, ws⟩, true), rfl, h6.less, hIp, rfl, HQ.out.1⟩
                      | some s1 =>
                        have HR1 := Lib.hid hr1
                        obtain ⟨hI1, hm1, hem1, -⟩ := reach_inv hIp f1 hr1
                        have HQ := Lib.hid (HST.out (giveP (s1, false) x.a lb) (step_some1 HBK.out HA.out hr1))
                        have HGR := Lib.hid (giveP_reach (q := (s1, false)) (p := x.a) (s := lb) rfl)
                        have hI2 := (giveP_inv (q := (s1, false)) (p := x.a) (s := lb) hI1 (f2.less hem1)).1
                        clear hr1
                        go_upto_region 18 with (fail)
                        have h3 := hrp.more #[.int .i64 x.op, .int .i64 x.a, .int .i64 x.b, .int .i64 x.line, .string x.text] 79
                        have qs3 := h3.rows.cell hin
                        rw [HS.out] at qs3
                        obtain ⟨bx, hbx⟩ : ∃ bx, wr.heap.size = bx := ⟨_, rfl⟩
                        rw [hbx] at h3 ⊢
                        have a3 := a2.alloc (.cells #[.int .i64 x.op, .int .i64 x.a, .int .i64 x.b, .int .i64 x.line, .string x.text] 79)
                        generalize wr.alloc (.cells #[.int .i64 x.op, .int .i64 x.a, .int .i64 x.b, .int .i64 x.line, .string x.text] 79) = w3 at h3 qs3 a3 ⊢
                        clear qs q0 q1 q2 q3 q4 qt ca la a2 hbx hrp hb
                        have cx := h3.one.cell
                        have lx := h3.one.lt
                        have hw3 : Below w.heap.size w w3 := hw1.trans (h3.rows.bel.mono hw1.size)
                        clear hw2
                        go_wp2_with fail
                        refine (spec_l28Jumps x.op _).mono ?_; rw [HJ.out]; rintro e w4 ⟨rfl, rfl⟩
                        go_wp2_with fail
                        go_region_held3 (fun W => (∀ j, W.cell? ⟨bx, j, none⟩ = (#[.int .i64 x.op, .int .i64 x.a, .int .i64 x.b, .int .i64 x.line, .string x.text] : Array Value)[j]?) ∧ W.cell? ⟨gs, i, none⟩ = some (.string s))
                          (first | exact ⟨cx, qs3⟩ | exact ⟨h5.one.cell, by rw [← HS.out]; exact h5.rows.cell hin⟩)
                          (first
                            | (go_at_call 49; refine (HAF.out _).mono ?_; rintro e w5 ⟨rfl, hb5⟩; have h5 := (h3.same (Same.refl w3).drew).later hb5))
                        clear cx lx hb5
                        have cx := h5.one.cell
                        have lx := h5.one.lt
                        go_wp2_with fail
                        have hG := spec_l30Reach h5 hIp n1 n2 ((i : Int) + 1) nx (fun _ => by omega)
                        rw [HR1.out] at hG
                        refine hG.mono ?_; clear hG; rintro e w6 ⟨tv6, rfl, h6⟩
                        simp only [Option.getD_some] at h6
                        clear cx lx
                        have cx := h6.one.cell
                        have lx := h6.one.lt
                        go_wp2_with fail
                        have hG := spec_l30Reach h6 hI1 n1 n2 x.a lb hlab
                        refine hG.mono ?_; clear hG; rintro e w7 ⟨tv7, rfl, h7⟩
                        clear cx lx
                        go_wp2_with fail
                        go_roundg (if (giveP (s1, false) x.a lb).2 = true then 0 else (giveP (s1, false) x.a lb).1.mu + 1)
                        case measure => exact HQ.out.2
                        case rel => exact ⟨giveP (s1, false) x.a lb, by rw [HGR.out, Bool.not_not], by rw [HGR.out]; exact h7.less, hI2, rfl, HQ.out.1⟩
                  | true =>
                    have HJ := Lib.hid hj
                    have hlj := hxv.lab hj
                    by_cases hA0 : 0 ≤ x.a
                    · by_cases hA1 : x.a ≤ i
                      · obtain ⟨y, hy⟩ : ∃ y, c.instrs[x.a.toNat]? = some y := ⟨_, List.getElem?_eq_getElem (by omega)⟩
                        have hax : x.a < (c.instrs.length : Int) := by omega
                        have hbk := back_at hj ⟨hA0, hA1⟩ hy
                        clear hj hlj
                        by_cases h18 : y.op = 18
                        · have f18 : (y.op != 18) = false := by simp [h18]
                          have HBK : Hid (backB c.instrs i x = false) := by show _ = _; rw [hbk, h18]; rfl
                          clear hbk h18
                          cases hA : after x s with
                          | none =>
                            have HR : Hid (verOf true c = none) := HNO.out (step_aft (by rw [HS.out]; exact hA))
                            have HAF := Lib.hid (fun W => aft_none (w := W) hxv HG.out hs6 hA)
                            clear hA
                            go_upto_region 18 with (fail)
                            have h3 := hrp.more #[.int .i64 x.op, .int .i64 x.a, .int .i64 x.b, .int .i64 x.line, .string x.text] 79
                            have qs3 := h3.rows.cell hin
                            rw [HS.out] at qs3
                            obtain ⟨bx, hbx⟩ : ∃ bx, wr.heap.size = bx := ⟨_, rfl⟩
                            rw [hbx] at h3 ⊢
                            have a3 := a2.alloc (.cells #[.int .i64 x.op, .int .i64 x.a, .int .i64 x.b, .int .i64 x.line, .string x.text] 79)
                            have y3 := (InsT.at_ ((hi1.below hw2 hhi).alloc (Nat.le_trans hhi hw2.size) (.cells #[.int .i64 x.op, .int .i64 x.a, .int .i64 x.b, .int .i64 x.line, .string x.text] 79)) hy)
                            generalize wr.alloc (.cells #[.int .i64 x.op, .int .i64 x.a, .int .i64 x.b, .int .i64 x.line, .string x.text] 79) = w3 at h3 qs3 a3 y3 ⊢
                            clear qs q0 q1 q2 q3 q4 qt ca la a2 hbx hrp hb
                            have cx := h3.one.cell
                            have lx := h3.one.lt
                            have hw3 : Below w.heap.size w w3 := hw1.trans (h3.rows.bel.mono hw1.size)
                            clear hw2
                            have ca := a3.cell
                            have la := a3.lt
                            obtain ⟨gJ, oJ, hAJ, -, -, -, -, y0, -⟩ := y3
                            injection hAJ with hAJ; injection hAJ with hA1 hA2; subst hA1 hA2
                            go_wp2_with fail
                            refine (spec_l28Jumps x.op _).mono ?_; rw [HJ.out]; rintro e w4 ⟨rfl, rfl⟩
                            go_wp2_with fail
                            go_region_held3 (fun W => (∀ j, W.cell? ⟨bx, j, none⟩ = (#[.int .i64 x.op, .int .i64 x.a, .int .i64 x.b, .int .i64 x.line, .string x.text] : Array Value)[j]?) ∧ W.cell? ⟨gs, i, none⟩ = some (.string s))
                              (first | exact ⟨cx, qs3⟩ | exact ⟨h5.one.cell, by rw [← HS.out]; exact h5.rows.cell hin⟩)
                              (first
                                | (go_at_call 49; refine (HAF.out _).mono ?_; rintro e w5 ⟨nx, lb, rfl, hb5⟩; have h5 := (h3.same (Same.refl w3).drew).later hb5))
                            have hw5 : Below w.heap.size w w5 := hw1.trans (h5.rows.bel.mono hw1.size)
                            clear cx lx
                            go_wp2_with fail
                            go_ret2
                            exact ver_no HR.out hw5 rfl
                          | some ab =>
                            obtain ⟨nx, lb⟩ := ab
                            have HAF := Lib.hid (fun W => aft_some (w := W) hxv HG.out hs6 hA)
                            have hlab := after_lab hxv hA
                            obtain ⟨f1, f2⟩ := after_fit HG.out hle hA
                            have hA' : after x ((St.mk sh ws).at_ i) = some (nx, lb) := by rw [HS.out]; exact hA
                            have HA := Lib.hid hA'
                            clear hA hA'
                            cases hr1 : reach ⟨sh, ws⟩ ((i : Int) + 1) nx with
                            | none =>
                              have HR1 := Lib.hid hr1
                              have HQ := Lib.hid (HST.out (⟨sh, ws⟩, true) ((step_none1 HA.out hr1).trans (if_pos rfl).symm))
                              clear hr1
                              go_upto_region 18 with (fail)
                              have h3 := hrp.more #[.int .i64 x.op, .int .i64 x.a, .int .i64 x.b, .int .i64 x.line, .string x.text] 79
                              have qs3 := h3.rows.cell hin
                              rw [HS.out] at qs3
                              obtain ⟨bx, hbx⟩ : ∃ bx, wr.heap.size = bx := ⟨_, rfl⟩
                              rw [hbx] at h3 ⊢
                              have a3 := a2.alloc (.cells #[.int .i64 x.op, .int .i64 x.a, .int .i64 x.b, .int .i64 x.line, .string x.text] 79)
                              have y3 := (InsT.at_ ((hi1.below hw2 hhi).alloc (Nat.le_trans hhi hw2.size) (.cells #[.int .i64 x.op, .int .i64 x.a, .int .i64 x.b, .int .i64 x.line, .string x.text] 79)) hy)
                              generalize wr.alloc (.cells #[.int .i64 x.op, .int .i64 x.a, .int .i64 x.b, .int .i64 x.line, .string x.text] 79) = w3 at h3 qs3 a3 y3 ⊢
                              clear qs q0 q1 q2 q3 q4 qt ca la a2 hbx hrp hb
                              have cx := h3.one.cell
                              have lx := h3.one.lt
                              have hw3 : Below w.heap.size w w3 := hw1.trans (h3.rows.bel.mono hw1.size)
                              clear hw2
                              have ca := a3.cell
                              have la := a3.lt
                              obtain ⟨gJ, oJ, hAJ, -, -, -, -, y0, -⟩ := y3
                              injection hAJ with hAJ; injection hAJ with hA1 hA2; subst hA1 hA2
                              go_wp2_with fail
                              refine (spec_l28Jumps x.op _).mono ?_; rw [HJ.out]; rintro e w4 ⟨rfl, rfl⟩
                              go_wp2_with fail
                              go_region_held3 (fun W => (∀ j, W.cell? ⟨bx, j, none⟩ = (#[.int .i64 x.op, .int .i64 x.a, .int .i64 x.b, .int .i64 x.line, .string x.text] : Array Value)[j]?) ∧ W.cell? ⟨gs, i, none⟩ = some (.string s))
                                (first | exact ⟨cx, qs3⟩ | exact ⟨h5.one.cell, by rw [← HS.out]; exact h5.rows.cell hin⟩)
                                (first
                                  | (go_at_call 49; refine (HAF.out _).mono ?_; rintro e w5 ⟨rfl, hb5⟩; have h5 := (h3.same (Same.refl w3).drew).later hb5))
                              clear cx lx hb5
                              have cx := h5.one.cell
                              have lx := h5.one.lt
                              go_wp2_with fail
                              have hG := spec_l30Reach h5 hIp n1 n2 ((i : Int) + 1) nx (fun _ => by omega)
                              rw [HR1.out] at hG
                              refine hG.mono ?_; clear hG; rintro e w6 ⟨tv6, rfl, h6⟩
                              simp only [Option.getD_none] at h6
                              clear cx lx
                              go_wp2_with fail
                              go_roundg 0
                              case measure => have := HQ.out.2; simpa using this
                              case rel => exact ⟨(⟨sh, ws⟩, true), rfl, h6.less, hIp, rfl, HQ.out.1⟩
                            | some s1 =>
                              have HR1 := Lib.hid hr1
                              obtain ⟨hI1, hm1, hem1, -⟩ := reach_inv hIp f1 hr1
                              have HQ := Lib.hid (HST.out (giveP (s1, false) x.a lb) (step_some1 HBK.out HA.out hr1))
                              have HGR := Lib.hid (giveP_reach (q := (s1, false)) (p := x.a) (s := lb) rfl)
                              have hI2 := (giveP_inv (q := (s1, false)) (p := x.a) (s := lb) hI1 (f2.less hem1)).1
                              clear hr1
                              go_upto_region 18 with (fail)
                              have h3 := hrp.more #[.int .i64 x.op, .int .i64 x.a, .int .i64 x.b, .int .i64 x.line, .string x.text] 79
                              have qs3 := h3.rows.cell hin
                              rw [HS.out] at qs3
                              obtain ⟨bx, hbx⟩ : ∃ bx, wr.heap.size = bx := ⟨_, rfl⟩
                              rw [hbx] at h3 ⊢
                              have a3 := a2.alloc (.cells #[.int .i64 x.op, .int .i64 x.a, .int .i64 x.b, .int .i64 x.line, .string x.text] 79)
                              have y3 := (InsT.at_ ((hi1.below hw2 hhi).alloc (Nat.le_trans hhi hw2.size) (.cells #[.int .i64 x.op, .int .i64 x.a, .int .i64 x.b, .int .i64 x.line, .string x.text] 79)) hy)
                              generalize wr.alloc (.cells #[.int .i64 x.op, .int .i64 x.a, .int .i64 x.b, .int .i64 x.line, .string x.text] 79) = w3 at h3 qs3 a3 y3 ⊢
                              clear qs q0 q1 q2 q3 q4 qt ca la a2 hbx hrp hb
                              have cx := h3.one.cell
                              have lx := h3.one.lt
                              have hw3 : Below w.heap.size w w3 := hw1.trans (h3.rows.bel.mono hw1.size)
                              clear hw2
                              have ca := a3.cell
                              have la := a3.lt
                              obtain ⟨gJ, oJ, hAJ, -, -, -, -, y0, -⟩ := y3
                              injection hAJ with hAJ; injection hAJ with hA1 hA2; subst hA1 hA2
                              go_wp2_with fail
                              refine (spec_l28Jumps x.op _).mono ?_; rw [HJ.out]; rintro e w4 ⟨rfl, rfl⟩
                              go_wp2_with fail
                              go_region_held3 (fun W => (∀ j, W.cell? ⟨bx, j, none⟩ = (#[.int .i64 x.op, .int .i64 x.a, .int .i64 x.b, .int .i64 x.line, .string x.text] : Array Value)[j]?) ∧ W.cell? ⟨gs, i, none⟩ = some (.string s))
                                (first | exact ⟨cx, qs3⟩ | exact ⟨h5.one.cell, by rw [← HS.out]; exact h5.rows.cell hin⟩)
                                (first
                                  | (go_at_call 49; refine (HAF.out _).mono ?_; rintro e w5 ⟨rfl, hb5⟩; have h5 := (h3.same (Same.refl w3).drew).later hb5))
                              clear cx lx hb5
                              have cx := h5.one.cell
                              have lx := h5.one.lt
                              go_wp2_with fail
                              have hG := spec_l30Reach h5 hIp n1 n2 ((i : Int) + 1) nx (fun _ => by omega)
                              rw [HR1.out] at hG
                              refine hG.mono ?_; clear hG; rintro e w6 ⟨tv6, rfl, h6⟩
                              simp only [Option.getD_some] at h6
                              clear cx lx
                              have cx := h6.one.cell
                              have lx := h6.one.lt
                              go_wp2_with fail
                              have hG := spec_l30Reach h6 hI1 n1 n2 x.a lb hlab
                              refine hG.mono ?_; clear hG; rintro e w7 ⟨tv7, rfl, h7⟩
                              clear cx lx
                              go_wp2_with fail
                              go_roundg (if (giveP (s1, false) x.a lb).2 = true then 0 else (giveP (s1, false) x.a lb).1.mu + 1)
                              case measure => exact HQ.out.2
                              case rel => exact ⟨giveP (s1, false) x.a lb, by rw [HGR.out, Bool.not_not], by rw [HGR.out]; exact h7.less, hI2, rfl, HQ.out.1⟩
                        · have f18 : (y.op != 18) = true := by simpa using h18
                          have HR : Hid (verOf true c = none) := HNO.out (step_back (by rw [hbk]; simpa using h18))
                          clear hbk h18
                          go_upto_region 18 with (fail)
                          have h3 := hrp.more #[.int .i64 x.op, .int .i64 x.a, .int .i64 x.b, .int .i64 x.line, .string x.text] 79
                          have qs3 := h3.rows.cell hin
                          rw [HS.out] at qs3
                          obtain ⟨bx, hbx⟩ : ∃ bx, wr.heap.size = bx := ⟨_, rfl⟩
                          rw [hbx] at h3 ⊢
                          have a3 := a2.alloc (.cells #[.int .i64 x.op, .int .i64 x.a, .int .i64 x.b, .int .i64 x.line, .string x.text] 79)
                          have y3 := (InsT.at_ ((hi1.below hw2 hhi).alloc (Nat.le_trans hhi hw2.size) (.cells #[.int .i64 x.op, .int .i64 x.a, .int .i64 x.b, .int .i64 x.line, .string x.text] 79)) hy)
                          generalize wr.alloc (.cells #[.int .i64 x.op, .int .i64 x.a, .int .i64 x.b, .int .i64 x.line, .string x.text] 79) = w3 at h3 qs3 a3 y3 ⊢
                          clear qs q0 q1 q2 q3 q4 qt ca la a2 hbx hrp hb
                          have cx := h3.one.cell
                          have lx := h3.one.lt
                          have hw3 : Below w.heap.size w w3 := hw1.trans (h3.rows.bel.mono hw1.size)
                          clear hw2
                          have ca := a3.cell
                          have la := a3.lt
                          obtain ⟨gJ, oJ, hAJ, -, -, -, -, y0, -⟩ := y3
                          injection hAJ with hAJ; injection hAJ with hA1 hA2; subst hA1 hA2
                          go_wp2_with fail
                          refine (spec_l28Jumps x.op _).mono ?_; rw [HJ.out]; rintro e w4 ⟨rfl, rfl⟩
                          go_wp2_with fail
                          go_ret2
                          exact ver_no HR.out hw3 rfl
                      · have HBK : Hid (backB c.instrs i x = false) := back_far (by omega)
                        have hd : decide (x.a ≤ (i : Int)) = false := decide_eq_false hA1
                        clear hj hlj
                        cases hA : after x s with
                        | none =>
                          have HR : Hid (verOf true c = none) := HNO.out (step_aft (by rw [HS.out]; exact hA))
                          have HAF := Lib.hid (fun W => aft_none (w := W) hxv HG.out hs6 hA)
                          clear hA
                          go_upto_region 18 with (fail)
                          have h3 := hrp.more #[.int .i64 x.op, .int .i64 x.a, .int .i64 x.b, .int .i64 x.line, .string x.text] 79
                          have qs3 := h3.rows.cell hin
                          rw [HS.out] at qs3
                          obtain ⟨bx, hbx⟩ : ∃ bx, wr.heap.size = bx := ⟨_, rfl⟩
                          rw [hbx] at h3 ⊢
                          have a3 := a2.alloc (.cells #[.int .i64 x.op, .int .i64 x.a, .int .i64 x.b, .int .i64 x.line, .string x.text] 79)
                          generalize wr.alloc (.cells #[.int .i64 x.op, .int .i64 x.a, .int .i64 x.b, .int .i64 x.line, .string x.text] 79) = w3 at h3 qs3 a3 ⊢
                          clear qs q0 q1 q2 q3 q4 qt ca la a2 hbx hrp hb
                          have cx := h3.one.cell
                          have lx := h3.one.lt
                          have hw3 : Below w.heap.size w w3 := hw1.trans (h3.rows.bel.mono hw1.size)
                          clear hw2
                          go_wp2_with fail
                          refine (spec_l28Jumps x.op _).mono ?_; rw [HJ.out]; rintro e w4 ⟨rfl, rfl⟩
                          go_wp2_with fail
                          go_region_held3 (fun W => (∀ j, W.cell? ⟨bx, j, none⟩ = (#[.int .i64 x.op, .int .i64 x.a, .int .i64 x.b, .int .i64 x.line, .string x.text] : Array Value)[j]?) ∧ W.cell? ⟨gs, i, none⟩ = some (.string s))
                            (first | exact ⟨cx, qs3⟩ | exact ⟨h5.one.cell, by rw [← HS.out]; exact h5.rows.cell hin⟩)
                            (first
                              | (go_at_call 49; refine (HAF.out _).mono ?_; rintro e w5 ⟨nx, lb, rfl, hb5⟩; have h5 := (h3.same (Same.refl w3).drew).later hb5))
                          have hw5 : Below w.heap.size w w5 := hw1.trans (h5.rows.bel.mono hw1.size)
                          clear cx lx
                          go_wp2_with fail
                          go_ret2
                          exact ver_no HR.out hw5 rfl
                        | some ab =>
                          obtain ⟨nx, lb⟩ := ab
                          have HAF := Lib.hid (fun W => aft_some (w := W) hxv HG.out hs6 hA)
                          have hlab := after_lab hxv hA
                          obtain ⟨f1, f2⟩ := after_fit HG.out hle hA
                          have hA' : after x ((St.mk sh ws).at_ i) = some (nx, lb) := by rw [HS.out]; exact hA
                          have HA := Lib.hid hA'
                          clear hA hA'
                          cases hr1 : reach ⟨sh, ws⟩ ((i : Int) + 1) nx with
                          | none =>
                            have HR1 := Lib.hid hr1
                            have HQ := Lib.hid (HST.out (⟨sh, ws⟩, true) ((step_none1 HA.out hr1).trans (if_pos rfl).symm))
                            clear hr1
                            go_upto_region 18 with (fail)
                            have h3 := hrp.more #[.int .i64 x.op, .int .i64 x.a, .int .i64 x.b, .int .i64 x.line, .string x.text] 79
                            have qs3 := h3.rows.cell hin
                            rw [HS.out] at qs3
                            obtain ⟨bx, hbx⟩ : ∃ bx, wr.heap.size = bx := ⟨_, rfl⟩
                            rw [hbx] at h3 ⊢
                            have a3 := a2.alloc (.cells #[.int .i64 x.op, .int .i64 x.a, .int .i64 x.b, .int .i64 x.line, .string x.text] 79)
                            generalize wr.alloc (.cells #[.int .i64 x.op, .int .i64 x.a, .int .i64 x.b, .int .i64 x.line, .string x.text] 79) = w3 at h3 qs3 a3 ⊢
                            clear qs q0 q1 q2 q3 q4 qt ca la a2 hbx hrp hb
                            have cx := h3.one.cell
                            have lx := h3.one.lt
                            have hw3 : Below w.heap.size w w3 := hw1.trans (h3.rows.bel.mono hw1.size)
                            clear hw2
                            go_wp2_with fail
                            refine (spec_l28Jumps x.op _).mono ?_; rw [HJ.out]; rintro e w4 ⟨rfl, rfl⟩
                            go_wp2_with fail
                            go_region_held3 (fun W => (∀ j, W.cell? ⟨bx, j, none⟩ = (#[.int .i64 x.op, .int .i64 x.a, .int .i64 x.b, .int .i64 x.line, .string x.text] : Array Value)[j]?) ∧ W.cell? ⟨gs, i, none⟩ = some (.string s))
                              (first | exact ⟨cx, qs3⟩ | exact ⟨h5.one.cell, by rw [← HS.out]; exact h5.rows.cell hin⟩)
                              (first
                                | (go_at_call 49; refine (HAF.out _).mono ?_; rintro e w5 ⟨rfl, hb5⟩; have h5 := (h3.same (Same.refl w3).drew).later hb5))
                            clear cx lx hb5
                            have cx := h5.one.cell
                            have lx := h5.one.lt
                            go_wp2_with fail
                            have hG := spec_l30Reach h5 hIp n1 n2 ((i : Int) + 1) nx (fun _ => by omega)
                            rw [HR1.out] at hG
                            refine hG.mono ?_; clear hG; rintro e w6 ⟨tv6, rfl, h6⟩
                            simp only [Option.getD_none] at h6
                            clear cx lx
                            go_wp2_with fail
                            go_roundg 0
                            case measure => have := HQ.out.2; simpa using this
                            case rel => exact ⟨(⟨sh, ws⟩, true), rfl, h6.less, hIp, rfl, HQ.out.1⟩
                          | some s1 =>
                            have HR1 := Lib.hid hr1
                            obtain ⟨hI1, hm1, hem1, -⟩ := reach_inv hIp f1 hr1
                            have HQ := Lib.hid (HST.out (giveP (s1, false) x.a lb) (step_some1 HBK.out HA.out hr1))
                            have HGR := Lib.hid (giveP_reach (q := (s1, false)) (p := x.a) (s := lb) rfl)
                            have hI2 := (giveP_inv (q := (s1, false)) (p := x.a) (s := lb) hI1 (f2.less hem1)).1
                            clear hr1
                            go_upto_region 18 with (fail)
                            have h3 := hrp.more #[.int .i64 x.op, .int .i64 x.a, .int .i64 x.b, .int .i64 x.line, .string x.text] 79
                            have qs3 := h3.rows.cell hin
                            rw [HS.out] at qs3
                            obtain ⟨bx, hbx⟩ : ∃ bx, wr.heap.size = bx := ⟨_, rfl⟩
                            rw [hbx] at h3 ⊢
                            have a3 := a2.alloc (.cells #[.int .i64 x.op, .int .i64 x.a, .int .i64 x.b, .int .i64 x.line, .string x.text] 79)
                            generalize wr.alloc (.cells #[.int .i64 x.op, .int .i64 x.a, .int .i64 x.b, .int .i64 x.line, .string x.text] 79) = w3 at h3 qs3 a3 ⊢
                            clear qs q0 q1 q2 q3 q4 qt ca la a2 hbx hrp hb
                            have cx := h3.one.cell
                            have lx := h3.one.lt
                            have hw3 : Below w.heap.size w w3 := hw1.trans (h3.rows.bel.mono hw1.size)
                            clear hw2
                            go_wp2_with fail
                            refine (spec_l28Jumps x.op _).mono ?_; rw [HJ.out]; rintro e w4 ⟨rfl, rfl⟩
                            go_wp2_with fail
                            go_region_held3 (fun W => (∀ j, W.cell? ⟨bx, j, none⟩ = (#[.int .i64 x.op, .int .i64 x.a, .int .i64 x.b, .int .i64 x.line, .string x.text] : Array Value)[j]?) ∧ W.cell? ⟨gs, i, none⟩ = some (.string s))
                              (first | exact ⟨cx, qs3⟩ | exact ⟨h5.one.cell, by rw [← HS.out]; exact h5.rows.cell hin⟩)
                              (first
                                | (go_at_call 49; refine (HAF.out _).mono ?_; rintro e w5 ⟨rfl, hb5⟩; have h5 := (h3.same (Same.refl w3).drew).later hb5))
                            clear cx lx hb5
                            have cx := h5.one.cell
                            have lx := h5.one.lt
                            go_wp2_with fail
                            have hG := spec_l30Reach h5 hIp n1 n2 ((i : Int) + 1) nx (fun _ => by omega)
                            rw [HR1.out] at hG
                            refine hG.mono ?_; clear hG; rintro e w6 ⟨tv6, rfl, h6⟩
                            simp only [Option.getD_some] at h6
                            clear cx lx
                            have cx := h6.one.cell
                            have lx := h6.one.lt
                            go_wp2_with fail
                            have hG := spec_l30Reach h6 hI1 n1 n2 x.a lb hlab
                            refine hG.mono ?_; clear hG; rintro e w7 ⟨tv7, rfl, h7⟩
                            clear cx lx
                            go_wp2_with fail
                            go_roundg (if (giveP (s1, false) x.a lb).2 = true then 0 else (giveP (s1, false) x.a lb).1.mu + 1)
                            case measure => exact HQ.out.2
                            case rel => exact ⟨giveP (s1, false) x.a lb, by rw [HGR.out, Bool.not_not], by rw [HGR.out]; exact h7.less, hI2, rfl, HQ.out.1⟩
                    · have HBK : Hid (backB c.instrs i x = false) := back_far (by omega)
                      have hd : decide (0 ≤ x.a) = false := decide_eq_false hA0
                      clear hj hlj
                      cases hA : after x s with
                      | none =>
                        have HR : Hid (verOf true c = none) := HNO.out (step_aft (by rw [HS.out]; exact hA))
                        have HAF := Lib.hid (fun W => aft_none (w := W) hxv HG.out hs6 hA)
                        clear hA
                        go_upto_region 18 with (fail)
                        have h3 := hrp.more #[.int .i64 x.op, .int .i64 x.a, .int .i64 x.b, .int .i64 x.line, .string x.text] 79
                        have qs3 := h3.rows.cell hin
                        rw [HS.out] at qs3
                        obtain ⟨bx, hbx⟩ : ∃ bx, wr.heap.size = bx := ⟨_, rfl⟩
                        rw [hbx] at h3 ⊢
                        have a3 := a2.alloc (.cells #[.int .i64 x.op, .int .i64 x.a, .int .i64 x.b, .int .i64 x.line, .string x.text] 79)
                        generalize wr.alloc (.cells #[.int .i64 x.op, .int .i64 x.a, .int .i64 x.b, .int .i64 x.line, .string x.text] 79) = w3 at h3 qs3 a3 ⊢
                        clear qs q0 q1 q2 q3 q4 qt ca la a2 hbx hrp hb
                        have cx := h3.one.cell
                        have lx := h3.one.lt
                        have hw3 : Below w.heap.size w w3 := hw1.trans (h3.rows.bel.mono hw1.size)
                        clear hw2
                        go_wp2_with fail
                        refine (spec_l28Jumps x.op _).mono ?_; rw [HJ.out]; rintro e w4 ⟨rfl, rfl⟩
                        go_wp2_with fail
                        go_region_held3 (fun W => (∀ j, W.cell? ⟨bx, j, none⟩ = (#[.int .i64 x.op, .int .i64 x.a, .int .i64 x.b, .int .i64 x.line, .string x.text] : Array Value)[j]?) ∧ W.cell? ⟨gs, i, none⟩ = some (.string s))
                          (first | exact ⟨cx, qs3⟩ | exact ⟨h5.one.cell, by rw [← HS.out]; exact h5.rows.cell hin⟩)
                          (first
                            | (go_at_call 49; refine (HAF.out _).mono ?_; rintro e w5 ⟨nx, lb, rfl, hb5⟩; have h5 := (h3.same (Same.refl w3).drew).later hb5))
                        have hw5 : Below w.heap.size w w5 := hw1.trans (h5.rows.bel.mono hw1.size)
                        clear cx lx
                        go_wp2_with fail
                        go_ret2
                        exact ver_no HR.out hw5 rfl
                      | some ab =>
                        obtain ⟨nx, lb⟩ := ab
                        have HAF := Lib.hid (fun W => aft_some (w := W) hxv HG.out hs6 hA)
                        have hlab := after_lab hxv hA
                        obtain ⟨f1, f2⟩ := after_fit HG.out hle hA
                        have hA' : after x ((St.mk sh ws).at_ i) = some (nx, lb) := by rw [HS.out]; exact hA
                        have HA := Lib.hid hA'
                        clear hA hA'
                        cases hr1 : reach ⟨sh, ws⟩ ((i : Int) + 1) nx with
                        | none =>
                          have HR1 := Lib.hid hr1
                          have HQ := Lib.hid (HST.out (⟨sh, ws⟩, true) ((step_none1 HA.out hr1).trans (if_pos rfl).symm))
                          clear hr1
                          go_upto_region 18 with (fail)
                          have h3 := hrp.more #[.int .i64 x.op, .int .i64 x.a, .int .i64 x.b, .int .i64 x.line, .string x.text] 79
                          have qs3 := h3.rows.cell hin
                          rw [HS.out] at qs3
                          obtain ⟨bx, hbx⟩ : ∃ bx, wr.heap.size = bx := ⟨_, rfl⟩
                          rw [hbx] at h3 ⊢
                          have a3 := a2.alloc (.cells #[.int .i64 x.op, .int .i64 x.a, .int .i64 x.b, .int .i64 x.line, .string x.text] 79)
                          generalize wr.alloc (.cells #[.int .i64 x.op, .int .i64 x.a, .int .i64 x.b, .int .i64 x.line, .string x.text] 79) = w3 at h3 qs3 a3 ⊢
                          clear qs q0 q1 q2 q3 q4 qt ca la a2 hbx hrp hb
                          have cx := h3.one.cell
                          have lx := h3.one.lt
                          have hw3 : Below w.heap.size w w3 := hw1.trans (h3.rows.bel.mono hw1.size)
                          clear hw2
                          go_wp2_with fail
                          refine (spec_l28Jumps x.op _).mono ?_; rw [HJ.out]; rintro e w4 ⟨rfl, rfl⟩
                          go_wp2_with fail
                          go_region_held3 (fun W => (∀ j, W.cell? ⟨bx, j, none⟩ = (#[.int .i64 x.op, .int .i64 x.a, .int .i64 x.b, .int .i64 x.line, .string x.text] : Array Value)[j]?) ∧ W.cell? ⟨gs, i, none⟩ = some (.string s))
                            (first | exact ⟨cx, qs3⟩ | exact ⟨h5.one.cell, by rw [← HS.out]; exact h5.rows.cell hin⟩)
                            (first
                              | (go_at_call 49; refine (HAF.out _).mono ?_; rintro e w5 ⟨rfl, hb5⟩; have h5 := (h3.same (Same.refl w3).drew).later hb5))
                          clear cx lx hb5
                          have cx := h5.one.cell
                          have lx := h5.one.lt
                          go_wp2_with fail
                          have hG := spec_l30Reach h5 hIp n1 n2 ((i : Int) + 1) nx (fun _ => by omega)
                          rw [HR1.out] at hG
                          refine hG.mono ?_; clear hG; rintro e w6 ⟨tv6, rfl, h6⟩
                          simp only [Option.getD_none] at h6
                          clear cx lx
                          go_wp2_with fail
                          go_roundg 0
                          case measure => have := HQ.out.2; simpa using this
                          case rel => exact ⟨(⟨sh, ws⟩, true), rfl, h6.less, hIp, rfl, HQ.out.1⟩
                        | some s1 =>
                          have HR1 := Lib.hid hr1
                          obtain ⟨hI1, hm1, hem1, -⟩ := reach_inv hIp f1 hr1
                          have HQ := Lib.hid (HST.out (giveP (s1, false) x.a lb) (step_some1 HBK.out HA.out hr1))
                          have HGR := Lib.hid (giveP_reach (q := (s1, false)) (p := x.a) (s := lb) rfl)
                          have hI2 := (giveP_inv (q := (s1, false)) (p := x.a) (s := lb) hI1 (f2.less hem1)).1
                          clear hr1
                          go_upto_region 18 with (fail)
                          have h3 := hrp.more #[.int .i64 x.op, .int .i64 x.a, .int .i64 x.b, .int .i64 x.line, .string x.text] 79
                          have qs3 := h3.rows.cell hin
                          rw [HS.out] at qs3
                          obtain ⟨bx, hbx⟩ : ∃ bx, wr.heap.size = bx := ⟨_, rfl⟩
                          rw [hbx] at h3 ⊢
                          have a3 := a2.alloc (.cells #[.int .i64 x.op, .int .i64 x.a, .int .i64 x.b, .int .i64 x.line, .string x.text] 79)
                          generalize wr.alloc (.cells #[.int .i64 x.op, .int .i64 x.a, .int .i64 x.b, .int .i64 x.line, .string x.text] 79) = w3 at h3 qs3 a3 ⊢
                          clear qs q0 q1 q2 q3 q4 qt ca la a2 hbx hrp hb
                          have cx := h3.one.cell
                          have lx := h3.one.lt
                          have hw3 : Below w.heap.size w w3 := hw1.trans (h3.rows.bel.mono hw1.size)
                          clear hw2
                          go_wp2_with fail
                          refine (spec_l28Jumps x.op _).mono ?_; rw [HJ.out]; rintro e w4 ⟨rfl, rfl⟩
                          go_wp2_with fail
                          go_region_held3 (fun W => (∀ j, W.cell? ⟨bx, j, none⟩ = (#[.int .i64 x.op, .int .i64 x.a, .int .i64 x.b, .int .i64 x.line, .string x.text] : Array Value)[j]?) ∧ W.cell? ⟨gs, i, none⟩ = some (.string s))
                            (first | exact ⟨cx, qs3⟩ | exact ⟨h5.one.cell, by rw [← HS.out]; exact h5.rows.cell hin⟩)
                            (first
                              | (go_at_call 49; refine (HAF.out _).mono ?_; rintro e w5 ⟨rfl, hb5⟩; have h5 := (h3.same (Same.refl w3).drew).later hb5))
                          clear cx lx hb5
                          have cx := h5.one.cell
                          have lx := h5.one.lt
                          go_wp2_with fail
                          have hG := spec_l30Reach h5 hIp n1 n2 ((i : Int) + 1) nx (fun _ => by omega)
                          rw [HR1.out] at hG
                          refine hG.mono ?_; clear hG; rintro e w6 ⟨tv6, rfl, h6⟩
                          simp only [Option.getD_some] at h6
                          clear cx lx
                          have cx := h6.one.cell
                          have lx := h6.one.lt
                          go_wp2_with fail
                          have hG := spec_l30Reach h6 hI1 n1 n2 x.a lb hlab
                          refine hG.mono ?_; clear hG; rintro e w7 ⟨tv7, rfl, h7⟩
                          clear cx lx
                          go_wp2_with fail
                          go_roundg (if (giveP (s1, false) x.a lb).2 = true then 0 else (giveP (s1, false) x.a lb).1.mu + 1)
                          case measure => exact HQ.out.2
                          case rel => exact ⟨giveP (s1, false) x.a lb, by rw [HGR.out, Bool.not_not], by rw [HGR.out]; exact h7.less, hI2, rfl, HQ.out.1⟩
end Go.Proofs.YtekobbeoaalibaaGreatDoor
