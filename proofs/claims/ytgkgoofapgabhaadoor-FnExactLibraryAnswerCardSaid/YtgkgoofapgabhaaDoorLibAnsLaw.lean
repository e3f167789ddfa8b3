/- The law FnExactLibraryAnswer: it returns true and writes nothing that was there. -/
import Derived.Test.YtgkgoofapgabhaaDoorLibAnsE
namespace Go.Proofs.YtgkgoofapgabhaaDoor
open Go.RowKit

set_option maxRecDepth 100000 in
set_option maxHeartbeats 1000000 in
theorem law_LibraryAnswer (kind : Int) (s : ByteArray) (w : World) (_h : s.size ≤ 9223372036854775807) (hsh : w.ShapedOpen Tryd.prog) (hp : PowTab w) :
    Calls Tryd.prog 7 #[.int .i64 kind, .string s] w fun e w' => e = .returned (.bool true) ∧ Below w.heap.size w w' := by
  by_cases hs : s.size ≤ 1048576
  · have hlen := libAns_len kind s hs
    have C1 := Lib.hid (fun w => spec_LibraryAnswer kind s w hs)
    have C2 := Lib.hid (fun w h p => impl_LibraryAnswer kind s w hs h p)
    generalize libAns kind s = l at *
    generalize libMay kind s.size = ok at *
    have bne : (ok != ok) = false := by simp
    go_enter Tryd.func7, Tryd.ntmps7
    go_wp2_with fail
    refine (C1.out _).mono ?_; rintro e w1 ⟨v0, rfl, ho0, hb0⟩
    have sh1 := shaped_below hsh hb0
    have p1 := hp.later hb0
    go_wp2_with fail
    refine (C2.out _ sh1 p1).mono ?_; rintro e w2 ⟨v1, rfl, ho1, hb1⟩
    have r0 := (Rds.of_own ho0).below hb1 (Nat.le_refl _)
    have sh2 := shaped_below sh1 hb1
    have p2 := p1.later hb1
    go_wp2_with fail
    refine (eqStringS_any _ _ _ _ _ (Rds.of_own ho1) r0).mono ?_; rintro e w3 ⟨rfl, hs3⟩
    rw [decide_eq_true rfl]
    go_wp2_with fail
    refine (markStringS_any _ _ _ 1 _ _ (hs3.own ho1) (by omega) (by omega) (by omega)).mono ?_; rintro e w4 ⟨rfl, ho4, hg4⟩
    go_wp2_with fail
    refine (heldStringS_any _ _ 1 _ (Rds.of_own ho4) (Nat.le_refl _) (by omega) (by omega) (by omega)).mono ?_; rintro e w5 ⟨rfl, hb5⟩
    have z1 := hb0.size
    have z2 := hb1.size
    have z3 := hs3.size
    have z4 := hg4.size
    have z5 := hb5.size
    have b5 : Below w.heap.size w w5 := (((hb0.trans (hb1.mono z1)).trans (hs3.below _)).trans (below_of_grown hg4 (by omega) (fun g hg => Nat.le_trans z1 (ho1.lt g hg).1))).trans (hb5.mono (by omega))
    go_wp2_with fail
    refine (C2.out _ (shaped_below hsh b5) (hp.later b5)).mono ?_; rintro e w6 ⟨v2, rfl, ho6, hb6⟩
    have r4 := (r0.same hs3).grown hg4 (by omega) (fun g hg => .inr (ho1.lt g hg).1)
    have r6 := (r4.below hb5 (by omega)).below hb6 (by omega)
    have b6 : Below w.heap.size w w6 := b5.trans (hb6.mono (by omega))
    have m6 := ((Rds.of_own ho4).below hb5 (Nat.le_refl _)).below hb6 (by omega)
    have z6 := hb6.size
    clear hg4 r4 hb1 hb0 hb6 r0 hb5 sh1 p1 sh2 p2
    go_wp2_with fail
    refine (eqStringS_any _ _ _ _ _ (Rds.of_own ho6) r6).mono ?_; rintro e w7 ⟨rfl, hs7⟩
    have z7 := hs7.size
    rw [decide_eq_true rfl]
    go_wp2_with fail
    refine (heldStringS_any _ _ 1 _ (m6.same hs7) (by omega) (by omega) (by omega) (by omega)).mono ?_; rintro e w8 ⟨rfl, hb8⟩
    go_wp2_with fail
    go_ret
    exact ⟨rfl, (b6.trans (hs7.below _)).trans (hb8.mono (by omega))⟩
  · go_enter Tryd.func7, Tryd.ntmps7
    go_wp2_with fail
    go_ret
    exact ⟨rfl, Below.refl _ _⟩
end Go.Proofs.YtgkgoofapgabhaaDoor
