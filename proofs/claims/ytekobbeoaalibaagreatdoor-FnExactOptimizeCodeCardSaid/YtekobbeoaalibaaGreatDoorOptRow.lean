/- FnExactOptimizeCode: row and card. For every input the law returns true and each argument reads as before. -/
import Derived.Test.YtekobbeoaalibaaGreatDoorCards
import Derived.Test.YtekobbeoaalibaaGreatDoorTie
import Derived.Test.YtekobbeoaalibaaGreatDoorRowKit
import Derived.Test.YtekobbeoaalibaaGreatDoorOptLaw
import Derived.Test.YtekobbeoaalibaaGreatDoorLaidSpace
import Derived.Test.YtekobbeoaalibaaGreatDoorOpenCode
import Derived.Deep.DeepHandedRow
import Derived.Lib.LaidTab
import Derived.LaidSub
import Derived.LaidMore
import Derived.Lay
import Derived.Carry
import Derived.Lib.SmallJoins
namespace Go.Proofs.YtekobbeoaalibaaGreatDoor
open Go.ChangeShapes Go.WideShapes Go.ChangeAt Go.RowKit
open Go.ChangeMaps (open_string)
set_option linter.unusedVariables false

theorem laidOut_fnExactOptimizeCode : laidOutB Tryz.prog = true := by kernel_rfl
set_option maxRecDepth 100000 in
theorem fnExactOptimizeCode_contract (H : Type) (enc : TypeId × Value → H) (W : World) (base : Nat) (args : Array Value) (ds gs : List (DataW H)) (before : List MemPlace)
    (hval0 : ∀ (j : Nat) t v, Tryz.f8.params[j]? = some t → args[j]? = some v → Value.okWide Tryz.prog W .any base t v)
    (hW : DataW.Whole enc Tryz.prog Tryz.f8.params.toList Rows.fnExactOptimizeCodeSpec.vars false W args.toList ds gs before) (hL : laidMetH Tryz.prog Rows.fnExactOptimizeCodeRow.laid W) (hSh : W.ShapedOpen Tryz.prog) :
    Calls Tryz.prog 8 args W fun e W' => ∃ v, e = .returned v ∧ Rows.fnExactOptimizeCodeSpec.post enc Tryz.prog Tryz.f8 false true false false W args v W' := by
  have hval := hval0
  have hW' := hW
  obtain ⟨p, q, hA0, hV, rfl, hfz, hnd⟩ := hW
  have hA : DataW.TrodAll enc Tryz.prog W 0 (fun _ => true) true Tryz.f8.params.toList args.toList ds p := hA0
  rw [Tryz.params8] at hA hval
  obtain ⟨v0, vs0, d0, ds0, p0, q0, hargs, rfl, rfl, h0, r0⟩ := trodAll_cons hA
  obtain ⟨rfl, rfl, rfl⟩ := trodAll_nil r0
  obtain rfl : args = #[v0] := by cases args; simp_all
  obtain ⟨rfl, rfl⟩ := trodVars_none hV
  have lt0 : ∀ x ∈ p0, x.block < W.heap.size := by obtain ⟨m, hm⟩ := h0; exact DataW.trod_lt m _ _ _ hm
  obtain ⟨c0, w0, f0⟩ := open_code (hval 0 27 v0 rfl rfl) h0
  clear hA0 hval0
  refine (law_OptimizeCode v0 c0 W 0 W.heap.size w0 (Nat.le_refl _) f0 (spaceTab_of (laid := Rows.fnExactOptimizeCodeRow.laid) (by kernel_rfl) (by rw [MakeChecks.laidMetH_plain _ _ _ (by kernel_rfl)] at hL; exact hL))).mono fun e W' ⟨he, bel⟩ => ?_
  subst he
  exact ⟨_, rfl, _, _, _, [], _, [], hW', trodAll_mk1 (shut_bool Tryz.underlying4 _), (trodAll_cons_mk (Below.trod laidOut_fnExactOptimizeCode (by kernel_rfl) (of_decide_eq_true (by kernel_rfl)) h0 bel lt0) trodAll_mk0), rfl, bel.frame _, fun h => by cases h⟩

set_option maxRecDepth 100000 in
theorem fnExactOptimizeCode_witness (os : Os) {H : Type} (enc : TypeId × Value → H) : ∃ (w : World) (tape : Tape) (i : Input), w.os = os ∧ (w.forCall tape i).Shaped Tryz.checked.prog ∧ i.vars = [] ∧ Input.okWide Tryz.checked.prog (w.forCall tape i) .any w.heap.size 8 i ∧
      (OpenSpec.ofChange Rows.fnExactOptimizeCodeSpec).preRow enc Tryz.checked.prog Tryz.f8 Rows.fnExactOptimizeCodeRow.domain false Rows.fnExactOptimizeCodeRow.laid (w.forCall tape i).memory i.args ∧ ({ modest := false } : Assume).holds Tryz.checked.prog (lone (Frame.enter Tryz.checked.prog 8 i.args .normal) [] (w.forCall tape i)) := by
  have hok : Input.okWideB Tryz.checked.prog ((World.laidAll Tryz.prog os Rows.fnExactOptimizeCodeRow.laid).forCall (fun _ _ => 0) ⟨#[], #[.agg #[.slice none 0 0, .slice none 0 0, .slice none 0 0, .int .i64 0, .slice none 0 0]], []⟩) 8 ⟨#[], #[.agg #[.slice none 0 0, .slice none 0 0, .slice none 0 0, .int .i64 0, .slice none 0 0]], []⟩ = true := by kernel_rfl
  have hx : ∃ d places, DataW.whole enc Tryz.prog ((World.laidAll Tryz.prog os Rows.fnExactOptimizeCodeRow.laid).forCall (fun _ _ => 0) ⟨#[], #[.agg #[.slice none 0 0, .slice none 0 0, .slice none 0 0, .int .i64 0, .slice none 0 0]], []⟩).memory Tryz.f8.params.toList Rows.fnExactOptimizeCodeSpec.vars false #[.agg #[.slice none 0 0, .slice none 0 0, .slice none 0 0, .int .i64 0, .slice none 0 0]].toList 8 = some (d, [], places) := by
    have h : (DataW.whole enc Tryz.prog ((World.laidAll Tryz.prog os Rows.fnExactOptimizeCodeRow.laid).forCall (fun _ _ => 0) ⟨#[], #[.agg #[.slice none 0 0, .slice none 0 0, .slice none 0 0, .int .i64 0, .slice none 0 0]], []⟩).memory Tryz.f8.params.toList Rows.fnExactOptimizeCodeSpec.vars false #[.agg #[.slice none 0 0, .slice none 0 0, .slice none 0 0, .int .i64 0, .slice none 0 0]].toList 8).map (fun x => x.2.1) = some [] := by kernel_rfl
    revert h
    generalize DataW.whole enc Tryz.prog ((World.laidAll Tryz.prog os Rows.fnExactOptimizeCodeRow.laid).forCall (fun _ _ => 0) ⟨#[], #[.agg #[.slice none 0 0, .slice none 0 0, .slice none 0 0, .int .i64 0, .slice none 0 0]], []⟩).memory Tryz.f8.params.toList Rows.fnExactOptimizeCodeSpec.vars false #[.agg #[.slice none 0 0, .slice none 0 0, .slice none 0 0, .int .i64 0, .slice none 0 0]].toList 8 = y
    intro h
    match y, h with
    | some (d, g, p), h => exact ⟨d, p, by injection h with h; rw [show g = [] from h]⟩
  obtain ⟨d, places, hx⟩ := hx
  refine ⟨World.laidAll Tryz.prog os Rows.fnExactOptimizeCodeRow.laid, fun _ _ => 0, ⟨#[], #[.agg #[.slice none 0 0, .slice none 0 0, .slice none 0 0, .int .i64 0, .slice none 0 0]], []⟩, World.laidAll_os _ _ _, World.shaped_of_ZipB (by kernel_rfl) (by kernel_rfl), (Input.okWide_of_okWideB (base := 0) hok).1, (Input.okWide_of_okWideB hok).2,
    OpenSpec.preRow_of_cond 8 hx (by kernel_rfl) (fun k hk => by cases hk) (by kernel_rfl) (laidMet_laidAll _ (by kernel_rfl) (by kernel_rfl)), ?_⟩
  simp only [Assume.holds]
  exact ⟨by simp, by simp, fun _ => Modest.zero, by simp, by simp⟩

set_option maxRecDepth 100000 in
theorem fnExactOptimizeCode_lifted (os : Os) (started : os.Started) (H : Type) (enc : TypeId × Value → H) (F : Stop.Interp) :
    ReturnsInHanded {} Tryz.checked os 8 .any ((OpenSpec.ofChange Rows.fnExactOptimizeCodeSpec).preRow enc Tryz.prog Tryz.f8 Rows.fnExactOptimizeCodeRow.domain false Rows.fnExactOptimizeCodeRow.laid) (((OpenSpec.ofChange Rows.fnExactOptimizeCodeSpec).at F).post enc Tryz.prog Tryz.f8 false true false false) := by
  refine returnsInHanded_of_row (C := Tryz.checked) (s := OpenSpec.ofChange Rows.fnExactOptimizeCodeSpec) ownKnob_none started (by kernel_rfl) Tryz.func8 (fnExactOptimizeCode_witness os enc) ?_
  intro W base args ds gs before hval hW _ _ _ hL hSh _
  exact fnExactOptimizeCode_contract H enc W base args ds gs before hval hW hL hSh

theorem fnExactOptimizeCode_said : Rows.FnExactOptimizeCodeSaid :=
  OpenClaim.holds_of_cond 8 Tryz.f8 rfl rfl rfl rfl rfl rfl rfl ⟨rfl, rfl, rfl, rfl, rfl⟩ rfl rfl rfl rfl rfl (by kernel_rfl) Tryz.func8 (by kernel_rfl)
    (of_decide_eq_true (by kernel_rfl)) (by unfold Func.isWrapper; first | (rw [if_pos (by decide +kernel)]; kernel_rfl) | (rw [if_neg (by decide +kernel)]; exact ⟨rfl, rfl⟩))
    (fun os started H enc _ F => by rw [OpenClaim.pre_eq_preRow]; exact fnExactOptimizeCode_lifted os started H enc F)

theorem fnExactOptimizeCode_plain (f : FuncId) (fn : Func) (hf : Tryz.pinned.checked.prog.funcNamed "loop.example/g03106/laws.FnExactOptimizeCode" = some f) (hfn : Tryz.pinned.checked.prog.funcs[f]? = some fn) :
    false = Tryz.pinned.checked.prog.looks [] ∧ ∀ (j : Nat) t, fn.params[j]? = some t → Tryz.pinned.checked.prog.wantsStandIn t = false := by
  obtain rfl : f = 8 := Option.some.inj ((show Tryz.prog.funcNamed "loop.example/g03106/laws.FnExactOptimizeCode" = some 8 by kernel_rfl).symm.trans hf) |>.symm
  obtain rfl : fn = Tryz.f8 := (Option.some.inj (Tryz.func8.symm.trans hfn)).symm
  refine ⟨by kernel_rfl, fun j t ht => ?_⟩
  rw [Tryz.params8] at ht
  have hm : t ∈ [27] := by simpa using Array.mem_of_getElem? ht
  have hall : ([27].all fun u => !Tryz.prog.wantsStandIn u) = true := by kernel_rfl
  exact (show Tryz.prog.wantsStandIn t = false by simpa using List.all_eq_true.1 hall t hm)

theorem fnExactOptimizeCode_card : Rows.FnExactOptimizeCodeCardSaid :=
  Claim7.holds_tied_plain_at .later [] _ _ _ _ fnExactOptimizeCode_said (fun _ h => by cases h) (by kernel_rfl) (fun _ h => by cases h) fnExactOptimizeCode_row_tie rfl ⟨rfl, rfl⟩ (by kernel_rfl) rfl fnExactOptimizeCode_plain (by kernel_rfl)
#print axioms fnExactOptimizeCode_card
end Go.Proofs.YtekobbeoaalibaaGreatDoor
