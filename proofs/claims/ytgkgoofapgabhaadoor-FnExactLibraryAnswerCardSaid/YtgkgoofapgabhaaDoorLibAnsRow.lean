/- FnExactLibraryAnswer: row and card. For every input the law returns true and each argument reads as before. -/
import Derived.Test.YtgkgoofapgabhaaDoorCards
import Derived.Test.YtgkgoofapgabhaaDoorTie
import Derived.Test.YtgkgoofapgabhaaDoorRowKit
import Derived.Test.YtgkgoofapgabhaaDoorLibAnsLaw
import Derived.Test.YtgkgoofapgabhaaDoorLaidPow
import Derived.Deep.DeepHandedRow
import Derived.Lib.LaidTab
import Derived.LaidSub
import Derived.LaidMore
import Derived.Lay
import Derived.Carry
import Derived.Lib.SmallJoins
namespace Go.Proofs.YtgkgoofapgabhaaDoor
open Go.ChangeShapes Go.WideShapes Go.ChangeAt Go.RowKit
open Go.ChangeMaps (open_string)
set_option linter.unusedVariables false

theorem laidOut_fnExactLibraryAnswer : laidOutB Tryd.prog = true := by kernel_rfl
set_option maxRecDepth 100000 in
theorem fnExactLibraryAnswer_contract (H : Type) (enc : TypeId × Value → H) (W : World) (base : Nat) (args : Array Value) (ds gs : List (DataW H)) (before : List MemPlace)
    (hval0 : ∀ (j : Nat) t v, Tryd.f7.params[j]? = some t → args[j]? = some v → Value.okWide Tryd.prog W .any base t v)
    (hW : DataW.Whole enc Tryd.prog Tryd.f7.params.toList Rows.fnExactLibraryAnswerSpec.vars false W args.toList ds gs before) (hL : laidMetH Tryd.prog Rows.fnExactLibraryAnswerRow.laid W) (hSh : W.ShapedOpen Tryd.prog) :
    Calls Tryd.prog 7 args W fun e W' => ∃ v, e = .returned v ∧ Rows.fnExactLibraryAnswerSpec.post enc Tryd.prog Tryd.f7 false true false false W args v W' := by
  have hval := hval0
  have hW' := hW
  obtain ⟨p, q, hA0, hV, rfl, hfz, hnd⟩ := hW
  have hA : DataW.TrodAll enc Tryd.prog W 0 (fun _ => true) true Tryd.f7.params.toList args.toList ds p := hA0
  rw [Tryd.params7] at hA hval
  obtain ⟨v0, vs0, d0, ds0, p0, q0, hargs, rfl, rfl, h0, r0⟩ := trodAll_cons hA
  obtain ⟨v1, vs1, d1, ds1, p1, q1, rfl, rfl, rfl, h1, r1⟩ := trodAll_cons r0
  obtain ⟨rfl, rfl, rfl⟩ := trodAll_nil r1
  obtain rfl : args = #[v0, v1] := by cases args; simp_all
  obtain ⟨rfl, rfl⟩ := trodVars_none hV
  have lt0 : ∀ x ∈ p0, x.block < W.heap.size := by obtain ⟨m, hm⟩ := h0; exact DataW.trod_lt m _ _ _ hm
  have lt1 : ∀ x ∈ p1, x.block < W.heap.size := by obtain ⟨m, hm⟩ := h1; exact DataW.trod_lt m _ _ _ hm
  obtain ⟨a0, rfl, -, -, w0⟩ := open_int Tryd.underlying3 (hval 0 3 v0 rfl rfl) h0
  obtain ⟨a1, rfl, -, -, w1⟩ := open_string Tryd.underlying9 (hval 1 9 v1 rfl rfl) h1
  clear hA0 hval0
  refine (law_LibraryAnswer a0 a1 W w1 hSh (powTab_of (laid := Rows.fnExactLibraryAnswerRow.laid) (by kernel_rfl) (by rw [MakeChecks.laidMetH_plain _ _ _ (by kernel_rfl)] at hL; exact hL))).mono fun e W' ⟨he, bel⟩ => ?_
  subst he
  exact ⟨_, rfl, _, _, _, [], _, [], hW', trodAll_mk1 (shut_bool Tryd.underlying4 _), (trodAll_cons_mk (Below.trod laidOut_fnExactLibraryAnswer (by kernel_rfl) (of_decide_eq_true (by kernel_rfl)) h0 bel lt0) (trodAll_cons_mk (Below.trod laidOut_fnExactLibraryAnswer (by kernel_rfl) (of_decide_eq_true (by kernel_rfl)) h1 bel lt1) trodAll_mk0)), rfl, bel.frame _, fun h => by cases h⟩

set_option maxRecDepth 100000 in
theorem fnExactLibraryAnswer_witness (os : Os) {H : Type} (enc : TypeId × Value → H) : ∃ (w : World) (tape : Tape) (i : Input), w.os = os ∧ (w.forCall tape i).Shaped Tryd.checked.prog ∧ i.vars = [] ∧ Input.okWide Tryd.checked.prog (w.forCall tape i) .any w.heap.size 7 i ∧
      (OpenSpec.ofChange Rows.fnExactLibraryAnswerSpec).preRow enc Tryd.checked.prog Tryd.f7 Rows.fnExactLibraryAnswerRow.domain false Rows.fnExactLibraryAnswerRow.laid (w.forCall tape i).memory i.args ∧ ({ modest := false } : Assume).holds Tryd.checked.prog (lone (Frame.enter Tryd.checked.prog 7 i.args .normal) [] (w.forCall tape i)) := by
  have hok : Input.okWideB Tryd.checked.prog ((World.laidAll Tryd.prog os Rows.fnExactLibraryAnswerRow.laid).forCall (fun _ _ => 0) ⟨#[], #[.int .i64 0, .string ByteArray.empty], []⟩) 7 ⟨#[], #[.int .i64 0, .string ByteArray.empty], []⟩ = true := by kernel_rfl
  have hx : ∃ d places, DataW.whole enc Tryd.prog ((World.laidAll Tryd.prog os Rows.fnExactLibraryAnswerRow.laid).forCall (fun _ _ => 0) ⟨#[], #[.int .i64 0, .string ByteArray.empty], []⟩).memory Tryd.f7.params.toList Rows.fnExactLibraryAnswerSpec.vars false #[.int .i64 0, .string ByteArray.empty].toList 8 = some (d, [], places) := by
    have h : (DataW.whole enc Tryd.prog ((World.laidAll Tryd.prog os Rows.fnExactLibraryAnswerRow.laid).forCall (fun _ _ => 0) ⟨#[], #[.int .i64 0, .string ByteArray.empty], []⟩).memory Tryd.f7.params.toList Rows.fnExactLibraryAnswerSpec.vars false #[.int .i64 0, .string ByteArray.empty].toList 8).map (fun x => x.2.1) = some [] := by kernel_rfl
    revert h
    generalize DataW.whole enc Tryd.prog ((World.laidAll Tryd.prog os Rows.fnExactLibraryAnswerRow.laid).forCall (fun _ _ => 0) ⟨#[], #[.int .i64 0, .string ByteArray.empty], []⟩).memory Tryd.f7.params.toList Rows.fnExactLibraryAnswerSpec.vars false #[.int .i64 0, .string ByteArray.empty].toList 8 = y
    intro h
    match y, h with
    | some (d, g, p), h => exact ⟨d, p, by injection h with h; rw [show g = [] from h]⟩
  obtain ⟨d, places, hx⟩ := hx
  refine ⟨World.laidAll Tryd.prog os Rows.fnExactLibraryAnswerRow.laid, fun _ _ => 0, ⟨#[], #[.int .i64 0, .string ByteArray.empty], []⟩, World.laidAll_os _ _ _, World.shaped_of_ZipB (by kernel_rfl) (by kernel_rfl), (Input.okWide_of_okWideB (base := 0) hok).1, (Input.okWide_of_okWideB hok).2,
    OpenSpec.preRow_of_cond 8 hx (by kernel_rfl) (fun k hk => by cases hk) (by kernel_rfl) (laidMet_laidAll _ (by kernel_rfl) (by kernel_rfl)), ?_⟩
  simp only [Assume.holds]
  exact ⟨by simp, by simp, fun _ => Modest.zero, by simp, by simp⟩

set_option maxRecDepth 100000 in
theorem fnExactLibraryAnswer_lifted (os : Os) (started : os.Started) (H : Type) (enc : TypeId × Value → H) (F : Stop.Interp) :
    ReturnsInHanded {} Tryd.checked os 7 .any ((OpenSpec.ofChange Rows.fnExactLibraryAnswerSpec).preRow enc Tryd.prog Tryd.f7 Rows.fnExactLibraryAnswerRow.domain false Rows.fnExactLibraryAnswerRow.laid) (((OpenSpec.ofChange Rows.fnExactLibraryAnswerSpec).at F).post enc Tryd.prog Tryd.f7 false true false false) := by
  refine returnsInHanded_of_row (C := Tryd.checked) (s := OpenSpec.ofChange Rows.fnExactLibraryAnswerSpec) ownKnob_none started (by kernel_rfl) Tryd.func7 (fnExactLibraryAnswer_witness os enc) ?_
  intro W base args ds gs before hval hW _ _ _ hL hSh _
  exact fnExactLibraryAnswer_contract H enc W base args ds gs before hval hW hL hSh

theorem fnExactLibraryAnswer_said : Rows.FnExactLibraryAnswerSaid :=
  OpenClaim.holds_of_cond 7 Tryd.f7 rfl rfl rfl rfl rfl rfl rfl ⟨rfl, rfl, rfl, rfl, rfl⟩ rfl rfl rfl rfl rfl (by kernel_rfl) Tryd.func7 (by kernel_rfl)
    (of_decide_eq_true (by kernel_rfl)) (by unfold Func.isWrapper; first | (rw [if_pos (by decide +kernel)]; kernel_rfl) | (rw [if_neg (by decide +kernel)]; exact ⟨rfl, rfl⟩))
    (fun os started H enc _ F => by rw [OpenClaim.pre_eq_preRow]; exact fnExactLibraryAnswer_lifted os started H enc F)

theorem fnExactLibraryAnswer_plain (f : FuncId) (fn : Func) (hf : Tryd.pinned.checked.prog.funcNamed "loop.example/g03106/laws.FnExactLibraryAnswer" = some f) (hfn : Tryd.pinned.checked.prog.funcs[f]? = some fn) :
    false = Tryd.pinned.checked.prog.looks [] ∧ ∀ (j : Nat) t, fn.params[j]? = some t → Tryd.pinned.checked.prog.wantsStandIn t = false := by
  obtain rfl : f = 7 := Option.some.inj ((show Tryd.prog.funcNamed "loop.example/g03106/laws.FnExactLibraryAnswer" = some 7 by kernel_rfl).symm.trans hf) |>.symm
  obtain rfl : fn = Tryd.f7 := (Option.some.inj (Tryd.func7.symm.trans hfn)).symm
  refine ⟨by kernel_rfl, fun j t ht => ?_⟩
  rw [Tryd.params7] at ht
  have hm : t ∈ [3, 9] := by simpa using Array.mem_of_getElem? ht
  have hall : ([3, 9].all fun u => !Tryd.prog.wantsStandIn u) = true := by kernel_rfl
  exact (show Tryd.prog.wantsStandIn t = false by simpa using List.all_eq_true.1 hall t hm)

theorem fnExactLibraryAnswer_card : Rows.FnExactLibraryAnswerCardSaid :=
  Claim7.holds_tied_plain_at .later [] _ _ _ _ fnExactLibraryAnswer_said (fun _ h => by cases h) (by kernel_rfl) (fun _ h => by cases h) fnExactLibraryAnswer_row_tie rfl ⟨rfl, rfl⟩ (by kernel_rfl) rfl fnExactLibraryAnswer_plain (by kernel_rfl)
#print axioms fnExactLibraryAnswer_card
end Go.Proofs.YtgkgoofapgabhaaDoor
