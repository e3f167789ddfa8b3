/- VerifyCode and IsVerified of both sides: one answer. -/
import Derived.Test.YtekobbeoaalibaaGreatDoorCodeI
import Derived.Test.YtekobbeoaalibaaGreatDoorCodeS
import Derived.Test.YtekobbeoaalibaaGreatDoorVerCI
import Derived.Test.YtekobbeoaalibaaGreatDoorVerCS
namespace Go.Proofs.YtekobbeoaalibaaGreatDoor
open Go.RowKit
set_option linter.unusedVariables false

noncomputable def verC (c : CodeT) : Option (List ByteArray) := verOf (validCode c) c
theorem impl_VerifyCode' (c : CodeT) (x : Value) (w : World) (lo hi : Nat) (h : SRep w lo hi CodeT.dats x c) (hhi : hi ≤ w.heap.size) (hst : SpaceTab w) (htx : ∀ y ∈ c.instrs, y.text.size ≤ 1048576) :
    Calls Tryz.prog 15 #[x] w fun e w' => VerPost (verC c) w e w' ∧ VerNil (verC c) e :=
  impl_VerifyCode c (validCode c) x w lo hi h hhi (fun W hW => impl_IsValidCode c x W lo hi (h.below hW hhi) (Nat.le_trans hhi hW.size) (hst.below hW hst.2) htx) valid_v
theorem spec_VerifyCode' (c : CodeT) (x : Value) (w : World) (lo hi : Nat) (h : SRep w lo hi CodeT.dats x c) (hhi : hi ≤ w.heap.size) (htx : ∀ y ∈ c.instrs, y.text.size ≤ 1048576) :
    Calls Tryz.prog 14 #[x] w fun e w' => VerPost (verC c) w e w' ∧ VerNil (verC c) e :=
  spec_VerifyCode c (validCode c) x w lo hi h hhi (fun W hW => spec_IsValidCode c x W lo hi (h.below hW hhi) (Nat.le_trans hhi hW.size) htx) valid_v
set_option maxRecDepth 100000 in
theorem impl_IsVerified (c : CodeT) (x : Value) (w : World) (lo hi : Nat) (h : SRep w lo hi CodeT.dats x c) (hhi : hi ≤ w.heap.size) (hst : SpaceTab w) (htx : ∀ y ∈ c.instrs, y.text.size ≤ 1048576) :
    Calls Tryz.prog 12 #[x] w fun e w' => e = .returned (.bool (verC c).isSome) ∧ Below w.heap.size w w' := by
  have HC := Lib.hid (fun (W : World) (hW : Below w.heap.size w W) => impl_VerifyCode' c x W lo hi (h.below hW hhi) (Nat.le_trans hhi hW.size) (hst.below hW hst.2) htx)
  obtain ⟨Aroutines, nroutines, Arecords, nrecords, Aglobals, nglobals, Ainstrs, ninstrs, rfl, -⟩ := CodeT.form h
  have hwa : Below w.heap.size w (w.alloc (.cells #[.slice Aroutines c.routines.length nroutines, .slice Arecords c.records.length nrecords, .slice Aglobals c.globals.length nglobals, .int .i64 c.main, .slice Ainstrs c.instrs.length ninstrs] 34)) := (Below.refl _ _).alloc (Nat.le_refl _) _
  clear htx
  go_enter Tryz.func12, Tryz.ntmps12
  go_wp2_with fail
  refine (HC.out _ hwa).mono ?_; rintro e w1 ⟨⟨v, rfl, hb1, -⟩, -⟩
  have hw1 := hwa.trans (hb1.mono hwa.size)
  go_wp2_with fail
  go_ret
  exact ⟨rfl, hw1⟩
set_option maxRecDepth 100000 in
theorem spec_IsVerified (c : CodeT) (x : Value) (w : World) (lo hi : Nat) (h : SRep w lo hi CodeT.dats x c) (hhi : hi ≤ w.heap.size) (htx : ∀ y ∈ c.instrs, y.text.size ≤ 1048576) :
    Calls Tryz.prog 10 #[x] w fun e w' => e = .returned (.bool (verC c).isSome) ∧ Below w.heap.size w w' := by
  have HC := Lib.hid (fun (W : World) (hW : Below w.heap.size w W) => spec_VerifyCode' c x W lo hi (h.below hW hhi) (Nat.le_trans hhi hW.size) htx)
  obtain ⟨Aroutines, nroutines, Arecords, nrecords, Aglobals, nglobals, Ainstrs, ninstrs, rfl, -⟩ := CodeT.form h
  have hwa : Below w.heap.size w (w.alloc (.cells #[.slice Aroutines c.routines.length nroutines, .slice Arecords c.records.length nrecords, .slice Aglobals c.globals.length nglobals, .int .i64 c.main, .slice Ainstrs c.instrs.length ninstrs] 34)) := (Below.refl _ _).alloc (Nat.le_refl _) _
  clear htx
  go_enter Tryz.func10, Tryz.ntmps10
  go_wp2_with fail
  refine (HC.out _ hwa).mono ?_; rintro e w1 ⟨⟨v, rfl, hb1, -⟩, -⟩
  have hw1 := hwa.trans (hb1.mono hwa.size)
  go_wp2_with fail
  go_ret
  exact ⟨rfl, hw1⟩
end Go.Proofs.YtekobbeoaalibaaGreatDoor
