/-
  DERIVED. GIVEN WITH THE SEED: THE CARDS: each row of YtekobbeoaalibaaGreatDoorRows.lean that lists a variable, with what it lists TIED to the program's text (the seventh form; the later family's looks); each row that meets fmt, with fmt's text TOLD by the authors' own Lean function (tested against real Go, not proved from fmt's source: count such statements apart). THE CARD IS WHAT COUNTS. Prove the row's statement (the work); the ties are given (YtekobbeoaalibaaGreatDoorTie.lean); close each card by the builder's one call (the guide's Derived/Test/ToyasCard.lean, 'card_holds'). Laid BY PROGRAM, IN A SANDBOX (cutbox-door.mjs). By AI agents, Wed Nov 11 2026. No macro, syntax, notation, axiom, sorry.
-/
import Derived.Test.YtekobbeoaalibaaGreatDoorRows
import GoSem.ClaimSeven
namespace Go.Proofs.YtekobbeoaalibaaGreatDoor
namespace Rows

/-- THE TIED CARD OF 'laws.FnExactIsVerified'. -/
def fnExactIsVerifiedCard : Claim7 := { stood := { row := fnExactIsVerifiedRow, standIns := [], harness := (true, "dbd5f85ae9c18f8da444d5f53cc94748ea1aaefa6d134754d1d6696bac9dbec9"), looks := false }, kinds := [], alts := [], laidByText := true, laidKinds := [.listed, .data], laidTests := true, laidLooks := .later }
def FnExactIsVerifiedCardSaid : Prop := Claim7.holds Tryz.pinned (.plain (OpenSpec.ofChange fnExactIsVerifiedSpec)) fnExactIsVerifiedCard

/-- THE TIED CARD OF 'laws.FnExactVerifyCode'. -/
def fnExactVerifyCodeCard : Claim7 := { stood := { row := fnExactVerifyCodeRow, standIns := [], harness := (true, "dbd5f85ae9c18f8da444d5f53cc94748ea1aaefa6d134754d1d6696bac9dbec9"), looks := false }, kinds := [], alts := [], laidByText := true, laidKinds := [.listed, .data], laidTests := true, laidLooks := .later }
def FnExactVerifyCodeCardSaid : Prop := Claim7.holds Tryz.pinned (.plain (OpenSpec.ofChange fnExactVerifyCodeSpec)) fnExactVerifyCodeCard

/-- THE TIED CARD OF 'laws.FnExactCheckEdit'. -/
def fnExactCheckEditCard : Claim7 := { stood := { row := fnExactCheckEditRow, standIns := [], harness := (true, "dbd5f85ae9c18f8da444d5f53cc94748ea1aaefa6d134754d1d6696bac9dbec9"), looks := false }, kinds := [], alts := [], laidByText := true, laidKinds := [.listed, .data], laidTests := true, laidLooks := .later }
def FnExactCheckEditCardSaid : Prop := Claim7.holds Tryz.pinned (.plain (OpenSpec.ofChange fnExactCheckEditSpec)) fnExactCheckEditCard

/-- THE TIED CARD OF 'laws.FnExactFindEdits'. -/
def fnExactFindEditsCard : Claim7 := { stood := { row := fnExactFindEditsRow, standIns := [], harness := (true, "dbd5f85ae9c18f8da444d5f53cc94748ea1aaefa6d134754d1d6696bac9dbec9"), looks := false }, kinds := [], alts := [], laidByText := true, laidKinds := [.listed, .data], laidTests := true, laidLooks := .later }
def FnExactFindEditsCardSaid : Prop := Claim7.holds Tryz.pinned (.plain (OpenSpec.ofChange fnExactFindEditsSpec)) fnExactFindEditsCard

/-- THE TIED CARD OF 'laws.FnExactApplyEdits'. -/
def fnExactApplyEditsCard : Claim7 := { stood := { row := fnExactApplyEditsRow, standIns := [], harness := (true, "dbd5f85ae9c18f8da444d5f53cc94748ea1aaefa6d134754d1d6696bac9dbec9"), looks := false }, kinds := [], alts := [], laidByText := true, laidKinds := [.listed, .data], laidTests := true, laidLooks := .later }
def FnExactApplyEditsCardSaid : Prop := Claim7.holds Tryz.pinned (.plain (OpenSpec.ofChange fnExactApplyEditsSpec)) fnExactApplyEditsCard

/-- THE TIED CARD OF 'laws.FnExactOptimizeCode'. -/
def fnExactOptimizeCodeCard : Claim7 := { stood := { row := fnExactOptimizeCodeRow, standIns := [], harness := (true, "dbd5f85ae9c18f8da444d5f53cc94748ea1aaefa6d134754d1d6696bac9dbec9"), looks := false }, kinds := [], alts := [], laidByText := true, laidKinds := [.listed, .data], laidTests := true, laidLooks := .later }
def FnExactOptimizeCodeCardSaid : Prop := Claim7.holds Tryz.pinned (.plain (OpenSpec.ofChange fnExactOptimizeCodeSpec)) fnExactOptimizeCodeCard

/-- THE SECOND FORM's CARD OF 'laws.FnExactIsVerified'. -/
def fnExactIsVerifiedUptoCard : Claim7 := { stood := { row := fnExactIsVerifiedUptoRow, standIns := [], harness := (true, "dbd5f85ae9c18f8da444d5f53cc94748ea1aaefa6d134754d1d6696bac9dbec9"), looks := false }, kinds := [], alts := [], laidByText := true, laidKinds := [.listed, .data], laidTests := true, laidLooks := .later }
def FnExactIsVerifiedUptoCardSaid : Prop := Claim7.holds Tryz.pinned (.plain (OpenSpec.upto fnExactIsVerifiedSpec)) fnExactIsVerifiedUptoCard

/-- THE SECOND FORM's CARD OF 'laws.FnExactVerifyCode'. -/
def fnExactVerifyCodeUptoCard : Claim7 := { stood := { row := fnExactVerifyCodeUptoRow, standIns := [], harness := (true, "dbd5f85ae9c18f8da444d5f53cc94748ea1aaefa6d134754d1d6696bac9dbec9"), looks := false }, kinds := [], alts := [], laidByText := true, laidKinds := [.listed, .data], laidTests := true, laidLooks := .later }
def FnExactVerifyCodeUptoCardSaid : Prop := Claim7.holds Tryz.pinned (.plain (OpenSpec.upto fnExactVerifyCodeSpec)) fnExactVerifyCodeUptoCard

/-- THE SECOND FORM's CARD OF 'laws.FnExactCheckEdit'. -/
def fnExactCheckEditUptoCard : Claim7 := { stood := { row := fnExactCheckEditUptoRow, standIns := [], harness := (true, "dbd5f85ae9c18f8da444d5f53cc94748ea1aaefa6d134754d1d6696bac9dbec9"), looks := false }, kinds := [], alts := [], laidByText := true, laidKinds := [.listed, .data], laidTests := true, laidLooks := .later }
def FnExactCheckEditUptoCardSaid : Prop := Claim7.holds Tryz.pinned (.plain (OpenSpec.upto fnExactCheckEditSpec)) fnExactCheckEditUptoCard

/-- THE SECOND FORM's CARD OF 'laws.FnExactFindEdits'. -/
def fnExactFindEditsUptoCard : Claim7 := { stood := { row := fnExactFindEditsUptoRow, standIns := [], harness := (true, "dbd5f85ae9c18f8da444d5f53cc94748ea1aaefa6d134754d1d6696bac9dbec9"), looks := false }, kinds := [], alts := [], laidByText := true, laidKinds := [.listed, .data], laidTests := true, laidLooks := .later }
def FnExactFindEditsUptoCardSaid : Prop := Claim7.holds Tryz.pinned (.plain (OpenSpec.upto fnExactFindEditsSpec)) fnExactFindEditsUptoCard

/-- THE SECOND FORM's CARD OF 'laws.FnExactApplyEdits'. -/
def fnExactApplyEditsUptoCard : Claim7 := { stood := { row := fnExactApplyEditsUptoRow, standIns := [], harness := (true, "dbd5f85ae9c18f8da444d5f53cc94748ea1aaefa6d134754d1d6696bac9dbec9"), looks := false }, kinds := [], alts := [], laidByText := true, laidKinds := [.listed, .data], laidTests := true, laidLooks := .later }
def FnExactApplyEditsUptoCardSaid : Prop := Claim7.holds Tryz.pinned (.plain (OpenSpec.upto fnExactApplyEditsSpec)) fnExactApplyEditsUptoCard

/-- THE SECOND FORM's CARD OF 'laws.FnExactOptimizeCode'. -/
def fnExactOptimizeCodeUptoCard : Claim7 := { stood := { row := fnExactOptimizeCodeUptoRow, standIns := [], harness := (true, "dbd5f85ae9c18f8da444d5f53cc94748ea1aaefa6d134754d1d6696bac9dbec9"), looks := false }, kinds := [], alts := [], laidByText := true, laidKinds := [.listed, .data], laidTests := true, laidLooks := .later }
def FnExactOptimizeCodeUptoCardSaid : Prop := Claim7.holds Tryz.pinned (.plain (OpenSpec.upto fnExactOptimizeCodeSpec)) fnExactOptimizeCodeUptoCard
end Rows
end Go.Proofs.YtekobbeoaalibaaGreatDoor
