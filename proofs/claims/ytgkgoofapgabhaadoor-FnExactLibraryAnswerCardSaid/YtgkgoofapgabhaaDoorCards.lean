/-
  DERIVED. GIVEN WITH THE SEED: THE CARDS: each row of YtgkgoofapgabhaaDoorRows.lean that lists a variable, with what it lists TIED to the program's text (the seventh form; the later family's looks); each row that meets fmt, with fmt's text TOLD by the authors' own Lean function (tested against real Go, not proved from fmt's source: count such statements apart). THE CARD IS WHAT COUNTS. Prove the row's statement (the work); the ties are given (YtgkgoofapgabhaaDoorTie.lean); close each card by the builder's one call (the guide's Derived/Test/ToyasCard.lean, 'card_holds'). Laid BY PROGRAM, IN A SANDBOX (cutbox-door.mjs). By AI agents, Wed Nov 11 2026. No macro, syntax, notation, axiom, sorry.
-/
import Derived.Test.YtgkgoofapgabhaaDoorRows
import GoSem.ClaimSeven
namespace Go.Proofs.YtgkgoofapgabhaaDoor
namespace Rows

/-- THE TIED CARD OF 'laws.FnExactLibrarySource'. -/
def fnExactLibrarySourceCard : Claim7 := { stood := { row := fnExactLibrarySourceRow, standIns := [], harness := (true, "158c4dbd1d5ccfe01ffd11bb11cb92fa8d8258485183b76ffdb0fb84a597d927"), looks := false }, kinds := [], alts := [], laidByText := true, laidKinds := [.data, .pinned], laidTests := true, laidLooks := .later }
def FnExactLibrarySourceCardSaid : Prop := Claim7.holds Tryd.pinned (.plain (OpenSpec.ofChange fnExactLibrarySourceSpec)) fnExactLibrarySourceCard

/-- THE TIED CARD OF 'laws.FnExactOutcomeText'. -/
def fnExactOutcomeTextCard : Claim7 := { stood := { row := fnExactOutcomeTextRow, standIns := [], harness := (true, "158c4dbd1d5ccfe01ffd11bb11cb92fa8d8258485183b76ffdb0fb84a597d927"), looks := false }, kinds := [], alts := [], laidByText := true, laidKinds := [.data, .data, .data], laidTests := true, laidLooks := .later }
def FnExactOutcomeTextCardSaid : Prop := Claim7.holds Tryd.pinned (.plain (OpenSpec.ofChange fnExactOutcomeTextSpec)) fnExactOutcomeTextCard

/-- THE TIED CARD OF 'laws.FnExactCanFail'. -/
def fnExactCanFailCard : Claim7 := { stood := { row := fnExactCanFailRow, standIns := [], harness := (true, "158c4dbd1d5ccfe01ffd11bb11cb92fa8d8258485183b76ffdb0fb84a597d927"), looks := false }, kinds := [], alts := [], laidByText := true, laidKinds := [.listed, .data], laidTests := true, laidLooks := .later }
def FnExactCanFailCardSaid : Prop := Claim7.holds Tryd.pinned (.plain (OpenSpec.ofChange fnExactCanFailSpec)) fnExactCanFailCard

/-- THE TIED CARD OF 'laws.FnExactCanResume'. -/
def fnExactCanResumeCard : Claim7 := { stood := { row := fnExactCanResumeRow, standIns := [], harness := (true, "158c4dbd1d5ccfe01ffd11bb11cb92fa8d8258485183b76ffdb0fb84a597d927"), looks := false }, kinds := [], alts := [], laidByText := true, laidKinds := [.listed, .data], laidTests := true, laidLooks := .later }
def FnExactCanResumeCardSaid : Prop := Claim7.holds Tryd.pinned (.plain (OpenSpec.ofChange fnExactCanResumeSpec)) fnExactCanResumeCard

/-- THE TIED CARD OF 'laws.FnExactLibraryAnswer'. -/
def fnExactLibraryAnswerCard : Claim7 := { stood := { row := fnExactLibraryAnswerRow, standIns := [], harness := (true, "158c4dbd1d5ccfe01ffd11bb11cb92fa8d8258485183b76ffdb0fb84a597d927"), looks := false }, kinds := [], alts := [], laidByText := true, laidKinds := [.data, .data, .data, .data, .pinned], laidTests := true, laidLooks := .later }
def FnExactLibraryAnswerCardSaid : Prop := Claim7.holds Tryd.pinned (.plain (OpenSpec.ofChange fnExactLibraryAnswerSpec)) fnExactLibraryAnswerCard

/-- THE SECOND FORM's CARD OF 'laws.FnExactLibrarySource'. -/
def fnExactLibrarySourceUptoCard : Claim7 := { stood := { row := fnExactLibrarySourceUptoRow, standIns := [], harness := (true, "158c4dbd1d5ccfe01ffd11bb11cb92fa8d8258485183b76ffdb0fb84a597d927"), looks := false }, kinds := [], alts := [], laidByText := true, laidKinds := [.data, .pinned], laidTests := true, laidLooks := .later }
def FnExactLibrarySourceUptoCardSaid : Prop := Claim7.holds Tryd.pinned (.plain (OpenSpec.upto fnExactLibrarySourceSpec)) fnExactLibrarySourceUptoCard

/-- THE SECOND FORM's CARD OF 'laws.FnExactOutcomeText'. -/
def fnExactOutcomeTextUptoCard : Claim7 := { stood := { row := fnExactOutcomeTextUptoRow, standIns := [], harness := (true, "158c4dbd1d5ccfe01ffd11bb11cb92fa8d8258485183b76ffdb0fb84a597d927"), looks := false }, kinds := [], alts := [], laidByText := true, laidKinds := [.data, .data, .data], laidTests := true, laidLooks := .later }
def FnExactOutcomeTextUptoCardSaid : Prop := Claim7.holds Tryd.pinned (.plain (OpenSpec.upto fnExactOutcomeTextSpec)) fnExactOutcomeTextUptoCard

/-- THE SECOND FORM's CARD OF 'laws.FnExactCanFail'. -/
def fnExactCanFailUptoCard : Claim7 := { stood := { row := fnExactCanFailUptoRow, standIns := [], harness := (true, "158c4dbd1d5ccfe01ffd11bb11cb92fa8d8258485183b76ffdb0fb84a597d927"), looks := false }, kinds := [], alts := [], laidByText := true, laidKinds := [.listed, .data], laidTests := true, laidLooks := .later }
def FnExactCanFailUptoCardSaid : Prop := Claim7.holds Tryd.pinned (.plain (OpenSpec.upto fnExactCanFailSpec)) fnExactCanFailUptoCard

/-- THE SECOND FORM's CARD OF 'laws.FnExactCanResume'. -/
def fnExactCanResumeUptoCard : Claim7 := { stood := { row := fnExactCanResumeUptoRow, standIns := [], harness := (true, "158c4dbd1d5ccfe01ffd11bb11cb92fa8d8258485183b76ffdb0fb84a597d927"), looks := false }, kinds := [], alts := [], laidByText := true, laidKinds := [.listed, .data], laidTests := true, laidLooks := .later }
def FnExactCanResumeUptoCardSaid : Prop := Claim7.holds Tryd.pinned (.plain (OpenSpec.upto fnExactCanResumeSpec)) fnExactCanResumeUptoCard

/-- THE SECOND FORM's CARD OF 'laws.FnExactLibraryAnswer'. -/
def fnExactLibraryAnswerUptoCard : Claim7 := { stood := { row := fnExactLibraryAnswerUptoRow, standIns := [], harness := (true, "158c4dbd1d5ccfe01ffd11bb11cb92fa8d8258485183b76ffdb0fb84a597d927"), looks := false }, kinds := [], alts := [], laidByText := true, laidKinds := [.data, .data, .data, .data, .pinned], laidTests := true, laidLooks := .later }
def FnExactLibraryAnswerUptoCardSaid : Prop := Claim7.holds Tryd.pinned (.plain (OpenSpec.upto fnExactLibraryAnswerSpec)) fnExactLibraryAnswerUptoCard
end Rows
end Go.Proofs.YtgkgoofapgabhaaDoor
