/- The table of ASCII blanks out of a row's listed variables. -/
import Derived.Test.YtekobbeoaalibaaGreatDoorOpDefs
import Derived.Test.YtekobbeoaalibaaGreatDoorRows
import Derived.LaidSub
namespace Go.Proofs.YtekobbeoaalibaaGreatDoor
open Go.RowKit

set_option maxRecDepth 100000 in
theorem spaceTab_of {laid : List (String × DataW Unit)} {W : World} (hf : laid.filter (fun x => x.1 == "strings.asciiSpace") = [("strings.asciiSpace", Rows.laid_strings_asciiSpace)]) (h : laidMet Tryz.prog laid W) : SpaceTab W := by
  have h0 : laidMet Tryz.prog (laid.filter fun x => x.1 == "strings.asciiSpace") W := laidMet.filter (fun x => x.1 == "strings.asciiSpace") h
  rw [hf] at h0
  have h2 := Lib.tabIs_of_head (k := .u8) (zs := Lib.asciiSpaceTab) (rest := []) gSpace (by kernel_rfl) Tryz.underlying182 Tryz.underlying5 (by kernel_rfl) (by kernel_rfl) h0
  exact ⟨h2, World.block_lt_of_cell? W _ (h2.cell gSpace 0 (by decide))⟩
end Go.Proofs.YtekobbeoaalibaaGreatDoor
