/- The law FnExactLibrarySource: it returns true and writes nothing that was there. -/
import Derived.Test.YtgkgoofapgabhaaDoorLibSrcB
namespace Go.Proofs.YtgkgoofapgabhaaDoor
open Go.RowKit

set_option maxRecDepth 100000 in
set_option maxHeartbeats 1000000 in
theorem law_LibrarySource (kind : Int) (s : ByteArray) (w : World) (hs : s.size ≤ 9223372036854775807) (hsh : w.ShapedOpen Tryd.prog) :
    Calls Tryd.prog 3 #[.int .i64 kind, .string s] w fun e w' => e = .returned (.bool true) ∧ Below w.heap.size w w' := by
  by_cases h0 : 1048576 < s.size
  · go_enter Tryd.func3, Tryd.ntmps3
    go_wp2_with fail
    go_ret
    exact ⟨rfl, Below.refl _ _⟩
  by_cases h : kind < 1 ∨ 7 < kind ∨ 12 < s.size
  · go_enter Tryd.func3, Tryd.ntmps3
    go_wp2_with fail
    refine (spec_LibrarySource_no kind s _ (by omega) h).mono ?_; rintro e w1 ⟨rfl, hb1⟩
    go_wp2_with fail
    refine (impl_LibrarySource_no kind s _ (by omega) h).mono ?_; rintro e w2 ⟨rfl, rfl⟩
    go_wp2_with fail
    go_ret
    exact ⟨rfl, hb1⟩
  · obtain ⟨k, hk, rfl⟩ : ∃ k : Nat, k < 7 ∧ kind = ((k + 1 : Nat) : Int) := ⟨(kind - 1).toNat, by omega, by omega⟩
    have hs1 : s.size ≤ 12 := by omega
    clear h h0
    obtain ⟨kind, hkk⟩ : ∃ kind : Int, kind = ((k + 1 : Nat) : Int) := ⟨_, rfl⟩
    have C1 := Lib.hid (fun w => spec_LibrarySource_yes k s w hk hs1)
    have C2 := Lib.hid (fun w h => impl_LibrarySource_yes k s w hk hs1 h)
    rw [← hkk] at C1 C2 ⊢
    clear hkk
    go_enter Tryd.func3, Tryd.ntmps3
    go_wp2_with fail
    refine (C1.out _).mono ?_; rintro e w1 ⟨rfl, hb1⟩
    have hsh1 := shaped_below hsh hb1
    go_wp2_with fail
    refine (C2.out _ hsh1).mono ?_; rintro e w2 ⟨rfl, hb2⟩
    go_wp2_with fail
    go_ret
    exact ⟨rfl, hb1.trans (hb2.mono hb1.size)⟩
end Go.Proofs.YtgkgoofapgabhaaDoor
