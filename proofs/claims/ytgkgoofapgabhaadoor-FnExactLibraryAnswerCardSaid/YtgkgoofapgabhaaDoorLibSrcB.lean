/- LibrarySource of the program. -/
import Derived.Test.YtgkgoofapgabhaaDoorLibSrc
namespace Go.Proofs.YtgkgoofapgabhaaDoor
open Go.RowKit

theorem impl_librarySourcesB (w : World) :
    Calls Tryd.prog 29 #[] w fun e w' => e = .returned (.slice (some ⟨w.heap.size, 0, none⟩) 7 7) ∧ Blk w' w.heap.size 9 (libSrcs.map Value.string).toArray ∧ Below w.heap.size w w' :=
  (impl_librarySources w).mono fun _ _ ⟨he, hw⟩ => ⟨he, hw ▸ Blk.new w _ _, hw ▸ (Below.refl _ _).alloc (Nat.le_refl _) _⟩
theorem _root_.Go.World.ShapedOpen.drewS {w : World} {P : Program} (h : w.ShapedOpen P) : w.drew.ShapedOpen P := World.ShapedOpen.of_heap (w := w) rfl h

set_option maxRecDepth 100000 in
set_option maxHeartbeats 1000000 in
theorem impl_LibrarySource_yes (k : Nat) (s : ByteArray) (w : World) (hk : k < 7) (hs : s.size ≤ 12) (hsh : w.ShapedOpen Tryd.prog) :
    Calls Tryd.prog 9 #[.int .i64 ((k + 1 : Nat) : Int), .string s] w fun e w' => e = .returned (.tuple #[.string (libText k s), .bool true]) ∧ Below w.heap.size w w' := by
  obtain ⟨kind, hkk⟩ : ∃ kind : Int, kind = ((k + 1 : Nat) : Int) := ⟨_, rfl⟩
  rw [← hkk]
  have hz := libSrc_size k
  have hat := Lib.hid (libSrcs_at k hk)
  have HL := Lib.hid (lib_len k s hs)
  have h1 : ¬ (kind < 1) := by omega
  have h2 : ¬ (7 < kind) := by omega
  have h9 : ¬ (12 < (s.size : Int)) := by omega
  have b1 : decide (kind < 1) = false := decide_eq_false h1
  have b2 : decide (7 < kind) = false := decide_eq_false h2
  have b9 : decide (12 < (s.size : Int)) = false := decide_eq_false h9
  have h3 : 0 ≤ kind - 1 := by omega
  have h4 : kind - 1 < 7 := by omega
  have h5 : IntKind.i64.wrap (kind - 1) = kind - 1 := IntWalk.i64_in _ (by omega)
  have h6 : (kind - 1).toNat = k := by omega
  have hs1 : s.size ≤ 1048576 := by omega
  have hz1 : (libSrc k).size < 4294967281 := by omega
  clear hkk hz
  go_enter Tryd.func9, Tryd.ntmps9
  go_wp2_with fail
  clear h1 h2 h9 b1 b2 b9
  go_region_with (first
    | (go_at_call 29; refine (impl_librarySourcesB _).mono ?_; rintro e wA ⟨rfl, hA, hbA⟩; have ca : wA.cell? ⟨w.heap.size, k, none⟩ = some (.string (libSrc k)) := (hA.cell k).trans hat.out)
    | (go_at_call 30; refine (impl_QuoteText s _ hs1).mono ?_; rintro e wQ ⟨rfl, hbQ⟩; have cq : wQ.cell? ⟨w.heap.size, k, none⟩ = some (.string (libSrc k)) := ((hA.later hbQ).cell k).trans hat.out)
    | (go_at_call 28; refine (Tryd.strings_ReplaceAll_shaped _ _ _ _ (shaped_below (shaped_below hsh.drewS hbA) hbQ) hz1 (by decide) HL.out).mono ?_; rintro e wR ⟨rfl, hbR⟩))
  all_goals
    have hw : Below w.heap.size w wR := ((Below.refl _ w).drew.trans (hbA.mono (Nat.le_refl _))).trans ((hbQ.mono (Nat.le_trans (Nat.le_refl _) hbA.size)).trans (hbR.mono (Nat.le_trans hbA.size hbQ.size)))
    go_wp2_with fail
    go_ret2
    exact ⟨rfl, hw⟩
end Go.Proofs.YtgkgoofapgabhaaDoor
