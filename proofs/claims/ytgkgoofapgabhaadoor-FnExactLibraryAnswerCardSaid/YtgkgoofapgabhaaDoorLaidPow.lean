/- The table of powers of ten out of a row's listed variables. -/
import Derived.Test.YtgkgoofapgabhaaDoorFormatB
import Derived.Test.YtgkgoofapgabhaaDoorRows
import Derived.LaidSub
namespace Go.Proofs.YtgkgoofapgabhaaDoor
open Go.RowKit

theorem powTab_of {laid : List (String × DataW Unit)} {W : World} (hf : laid.filter (fun x => x.1 == "internal/strconv.uint64pow10") = [("internal/strconv.uint64pow10", Rows.laid_internal_strconv_uint64pow10)]) (h : laidMet Tryd.prog laid W) : PowTab W := by
  have h0 : laidMet Tryd.prog (laid.filter fun x => x.1 == "internal/strconv.uint64pow10") W := laidMet.filter (fun x => x.1 == "internal/strconv.uint64pow10") h
  rw [hf] at h0
  have h2 := Lib.tabIs_of_head (k := .u64) (zs := Lib.pow10Tab) (rest := []) gPow (by kernel_rfl) Tryd.underlying149 Tryd.underlying137 (by kernel_rfl) (by kernel_rfl) h0
  exact ⟨h2, World.block_lt_of_cell? W _ (h2.cell gPow 0 (by decide))⟩
end Go.Proofs.YtgkgoofapgabhaaDoor
