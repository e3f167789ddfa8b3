/-
  DERIVED. GIVEN WITH THE SEED: THE CARDS: each row of YtppdelelgkepaaaDoorRows.lean that lists a variable, with what it lists TIED to the program's text (the seventh form; the later family's looks); each row that meets fmt, with fmt's text TOLD by the authors' own Lean function (tested against real Go, not proved from fmt's source: count such statements apart). THE CARD IS WHAT COUNTS. Prove the row's statement (the work); the ties are given (YtppdelelgkepaaaDoorTie.lean); close each card by the builder's one call (the guide's Derived/Test/ToyasCard.lean, 'card_holds'). Laid BY PROGRAM, IN A SANDBOX (cutbox-door.mjs). By AI agents, Wed Nov 11 2026. No macro, syntax, notation, axiom, sorry.
-/
import Derived.Test.YtppdelelgkepaaaDoorRows
import GoSem.ClaimSeven
namespace Go.Proofs.YtppdelelgkepaaaDoor
namespace Rows

/-- THE TIED CARD OF 'laws.FnExactCanFail'. -/
def fnExactCanFailCard : Claim7 := { stood := { row := fnExactCanFailRow, standIns := [], harness := (true, "0d0bee47989830d4d9bd45da1cb98f66518c42d89ec35e06998410b415691d43"), looks := false }, kinds := [], alts := [], laidByText := true, laidKinds := [.listed, .data], laidTests := true, laidLooks := .later }
def FnExactCanFailCardSaid : Prop := Claim7.holds Tryd.pinned (.plain (OpenSpec.ofChange fnExactCanFailSpec)) fnExactCanFailCard

/-- THE TIED CARD OF 'laws.FnExactCanResume'. -/
def fnExactCanResumeCard : Claim7 := { stood := { row := fnExactCanResumeRow, standIns := [], harness := (true, "0d0bee47989830d4d9bd45da1cb98f66518c42d89ec35e06998410b415691d43"), looks := false }, kinds := [], alts := [], laidByText := true, laidKinds := [.listed, .data], laidTests := true, laidLooks := .later }
def FnExactCanResumeCardSaid : Prop := Claim7.holds Tryd.pinned (.plain (OpenSpec.ofChange fnExactCanResumeSpec)) fnExactCanResumeCard

/-- THE SECOND FORM's CARD OF 'laws.FnExactCanFail'. -/
def fnExactCanFailUptoCard : Claim7 := { stood := { row := fnExactCanFailUptoRow, standIns := [], harness := (true, "0d0bee47989830d4d9bd45da1cb98f66518c42d89ec35e06998410b415691d43"), looks := false }, kinds := [], alts := [], laidByText := true, laidKinds := [.listed, .data], laidTests := true, laidLooks := .later }
def FnExactCanFailUptoCardSaid : Prop := Claim7.holds Tryd.pinned (.plain (OpenSpec.upto fnExactCanFailSpec)) fnExactCanFailUptoCard

/-- THE SECOND FORM's CARD OF 'laws.FnExactCanResume'. -/
def fnExactCanResumeUptoCard : Claim7 := { stood := { row := fnExactCanResumeUptoRow, standIns := [], harness := (true, "0d0bee47989830d4d9bd45da1cb98f66518c42d89ec35e06998410b415691d43"), looks := false }, kinds := [], alts := [], laidByText := true, laidKinds := [.listed, .data], laidTests := true, laidLooks := .later }
def FnExactCanResumeUptoCardSaid : Prop := Claim7.holds Tryd.pinned (.plain (OpenSpec.upto fnExactCanResumeSpec)) fnExactCanResumeUptoCard
end Rows
end Go.Proofs.YtppdelelgkepaaaDoor
