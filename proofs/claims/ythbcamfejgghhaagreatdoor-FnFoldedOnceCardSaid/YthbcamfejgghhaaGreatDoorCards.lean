/-
  DERIVED. GIVEN WITH THE SEED: THE CARDS: each row of YthbcamfejgghhaaGreatDoorRows.lean that lists a variable, with what it lists TIED to the program's text (the seventh form; the later family's looks); each row that meets fmt, with fmt's text TOLD by the authors' own Lean function (tested against real Go, not proved from fmt's source: count such statements apart). THE CARD IS WHAT COUNTS. Prove the row's statement (the work); the ties are given (YthbcamfejgghhaaGreatDoorTie.lean); close each card by the builder's one call (the guide's Derived/Test/ToyasCard.lean, 'card_holds'). Laid BY PROGRAM, IN A SANDBOX (cutbox-door.mjs). By AI agents, Wed Nov 11 2026. No macro, syntax, notation, axiom, sorry.
-/
import Derived.Test.YthbcamfejgghhaaGreatDoorRows
import GoSem.ClaimSeven
namespace Go.Proofs.YthbcamfejgghhaaGreatDoor
namespace Rows

/-- THE TIED CARD OF 'laws.FnVerified'. -/
def fnVerifiedCard : Claim7 := { stood := { row := fnVerifiedRow, standIns := [], harness := (true, "02ea188e0db9b0abbbcdc7129d2f6f49d0974076486a6f9d81806ca214c20b38"), looks := false }, kinds := [], alts := [], laidByText := true, laidKinds := [.listed, .data], laidTests := true, laidLooks := .later }
def FnVerifiedCardSaid : Prop := Claim7.holds Tryz.pinned (.plain (OpenSpec.ofChange fnVerifiedSpec)) fnVerifiedCard

/-- THE TIED CARD OF 'laws.FnFoldedOnce'. -/
def fnFoldedOnceCard : Claim7 := { stood := { row := fnFoldedOnceRow, standIns := [], harness := (true, "02ea188e0db9b0abbbcdc7129d2f6f49d0974076486a6f9d81806ca214c20b38"), looks := false }, kinds := [], alts := [], laidByText := true, laidKinds := [.data, .data, .data, .listed, .data], laidTests := true, laidLooks := .later }
def FnFoldedOnceCardSaid : Prop := Claim7.holds Tryz.pinned (.plain (OpenSpec.ofChange fnFoldedOnceSpec)) fnFoldedOnceCard

/-- THE SECOND FORM's CARD OF 'laws.FnVerified'. -/
def fnVerifiedUptoCard : Claim7 := { stood := { row := fnVerifiedUptoRow, standIns := [], harness := (true, "02ea188e0db9b0abbbcdc7129d2f6f49d0974076486a6f9d81806ca214c20b38"), looks := false }, kinds := [], alts := [], laidByText := true, laidKinds := [.listed, .data], laidTests := true, laidLooks := .later }
def FnVerifiedUptoCardSaid : Prop := Claim7.holds Tryz.pinned (.plain (OpenSpec.upto fnVerifiedSpec)) fnVerifiedUptoCard

/-- THE SECOND FORM's CARD OF 'laws.FnFoldedOnce'. -/
def fnFoldedOnceUptoCard : Claim7 := { stood := { row := fnFoldedOnceUptoRow, standIns := [], harness := (true, "02ea188e0db9b0abbbcdc7129d2f6f49d0974076486a6f9d81806ca214c20b38"), looks := false }, kinds := [], alts := [], laidByText := true, laidKinds := [.data, .data, .data, .listed, .data], laidTests := true, laidLooks := .later }
def FnFoldedOnceUptoCardSaid : Prop := Claim7.holds Tryz.pinned (.plain (OpenSpec.upto fnFoldedOnceSpec)) fnFoldedOnceUptoCard
end Rows
end Go.Proofs.YthbcamfejgghhaaGreatDoor
