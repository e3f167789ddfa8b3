/-
  DERIVED. GIVEN WITH THE SEED: THE CARDS: each row of YtjeomamdlmoghaaGreatDoorRows.lean that lists a variable, with what it lists TIED to the program's text (the seventh form; the later family's looks); each row that meets fmt, with fmt's text TOLD by the authors' own Lean function (tested against real Go, not proved from fmt's source: count such statements apart). THE CARD IS WHAT COUNTS. Prove the row's statement (the work); the ties are given (YtjeomamdlmoghaaGreatDoorTie.lean); close each card by the builder's one call (the guide's Derived/Test/ToyasCard.lean, 'card_holds'). Laid BY PROGRAM, IN A SANDBOX (cutbox-door.mjs). By AI agents, Wed Nov 11 2026. No macro, syntax, notation, axiom, sorry.
-/
import Derived.Test.YtjeomamdlmoghaaGreatDoorRows
import GoSem.ClaimSeven
namespace Go.Proofs.YtjeomamdlmoghaaGreatDoor
namespace Rows

/-- THE TIED CARD OF 'laws.FnExactFoldProgram'. -/
def fnExactFoldProgramCard : Claim7 := { stood := { row := fnExactFoldProgramRow, standIns := [], harness := (true, "74cd5a8d45b0dcd0764b0b2be10dfc3bba9c4761ccd4132a175dcd8f6dad14ea"), looks := false }, kinds := [], alts := [], laidByText := true, laidKinds := [.data, .data, .data, .listed, .data], laidTests := true, laidLooks := .later }
def FnExactFoldProgramCardSaid : Prop := Claim7.holds Tryz.pinned (.plain (OpenSpec.ofChange fnExactFoldProgramSpec)) fnExactFoldProgramCard

/-- THE SECOND FORM's CARD OF 'laws.FnExactFoldProgram'. -/
def fnExactFoldProgramUptoCard : Claim7 := { stood := { row := fnExactFoldProgramUptoRow, standIns := [], harness := (true, "74cd5a8d45b0dcd0764b0b2be10dfc3bba9c4761ccd4132a175dcd8f6dad14ea"), looks := false }, kinds := [], alts := [], laidByText := true, laidKinds := [.data, .data, .data, .listed, .data], laidTests := true, laidLooks := .later }
def FnExactFoldProgramUptoCardSaid : Prop := Claim7.holds Tryz.pinned (.plain (OpenSpec.upto fnExactFoldProgramSpec)) fnExactFoldProgramUptoCard
end Rows
end Go.Proofs.YtjeomamdlmoghaaGreatDoor
