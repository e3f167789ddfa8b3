/-
  DERIVED. GIVEN WITH THE SEED: THE CARDS: each row of YtoddlphekcihgaaGreatDoorRows.lean that lists a variable, with what it lists TIED to the program's text (the seventh form; the later family's looks); each row that meets fmt, with fmt's text TOLD by the authors' own Lean function (tested against real Go, not proved from fmt's source: count such statements apart). THE CARD IS WHAT COUNTS. Prove the row's statement (the work); the ties are given (YtoddlphekcihgaaGreatDoorTie.lean); close each card by the builder's one call (the guide's Derived/Test/ToyasCard.lean, 'card_holds'). Laid BY PROGRAM, IN A SANDBOX (cutbox-door.mjs). By AI agents, Wed Nov 11 2026. No macro, syntax, notation, axiom, sorry.
-/
import Derived.Test.YtoddlphekcihgaaGreatDoorRows
import GoSem.ClaimSeven
namespace Go.Proofs.YtoddlphekcihgaaGreatDoor
namespace Rows

/-- THE TIED CARD OF 'laws.FnExactCountObjects'. -/
def fnExactCountObjectsCard : Claim7 := { stood := { row := fnExactCountObjectsRow, standIns := [], harness := (true, "2fc32470dfc9d5f91f9128e5792effe52e8c0b53eb3a51075f72392c4e6b7893"), looks := false }, kinds := [], alts := [], laidByText := true, laidKinds := [.listed, .data], laidTests := true, laidLooks := .later }
def FnExactCountObjectsCardSaid : Prop := Claim7.holds Tryz.pinned (.plain (OpenSpec.ofChange fnExactCountObjectsSpec)) fnExactCountObjectsCard

/-- THE SECOND FORM's CARD OF 'laws.FnExactCountObjects'. -/
def fnExactCountObjectsUptoCard : Claim7 := { stood := { row := fnExactCountObjectsUptoRow, standIns := [], harness := (true, "2fc32470dfc9d5f91f9128e5792effe52e8c0b53eb3a51075f72392c4e6b7893"), looks := false }, kinds := [], alts := [], laidByText := true, laidKinds := [.listed, .data], laidTests := true, laidLooks := .later }
def FnExactCountObjectsUptoCardSaid : Prop := Claim7.holds Tryz.pinned (.plain (OpenSpec.upto fnExactCountObjectsSpec)) fnExactCountObjectsUptoCard
end Rows
end Go.Proofs.YtoddlphekcihgaaGreatDoor
