/- LibraryAnswer of the reference: primes as texts, and the pairs of bytes. -/
import Derived.Test.YtgkgoofapgabhaaDoorLibAns
import Derived.Test.YtgkgoofapgabhaaDoorDat
import Derived.Deep.RegionHeld3
namespace Go.Proofs.YtgkgoofapgabhaaDoor
open Go.RowKit

set_option maxRecDepth 100000 in
set_option maxHeartbeats 1000000 in
theorem spec_l36Lines (v : Value) (l : List Int) (w : World) {lo hi : Nat} (h : Rds w lo hi 1 v l.length (l.map (.int .i64))) (hhi : hi ≤ w.heap.size) (hl : l.length ≤ 200) (hq : ∀ q ∈ l, 2 ≤ q ∧ q ≤ 200) :
    Calls Tryd.prog 48 #[v] w (OwnTexts (l.map formatInt) w) := by
  obtain ⟨A, c, rfl, hc1, hc2, -⟩ := h.shape
  unfold maxLen at hc2
  have HQ := Lib.hid hq
  clear hq
  go_enter Tryd.func48, Tryd.ntmps48
  go_wp2_with fail
  go_loopw [3, 4] (fun v i wr => ∃ k : Nat, k ≤ l.length ∧ i = .int .i64 k ∧ wr.ownsRow w.heap.size 9 1 v k (((l.take k).map formatInt).map .string) ∧ Below w.heap.size w wr) (fun _ i _ => l.length - (intOf i).toNat)
  case atStart => exact ⟨0, Nat.zero_le _, rfl, World.ownsRow_lit w #[] 0 (Nat.le_refl _) (by decide) rfl, (Below.refl _ _).alloc (Nat.le_refl _) _⟩
  case round =>
    obtain ⟨k, hk, rfl, hown, hb⟩ := hrel
    obtain ⟨wo, rfl⟩ : ∃ wo : World, wo = wr := ⟨_, rfl⟩
    obtain ⟨v, hv⟩ : ∃ v, v = u3 := ⟨_, rfl⟩
    subst hv
    by_cases hlt : k < l.length
    · obtain ⟨g, off, x, rfl, hg1, hg2, hx, hcell⟩ := (h.below hb hhi).atMap hlt
      have hxb := HQ.out x (List.mem_of_getElem? hx)
      have hx1 := hxb.1
      have hx2 := hxb.2
      have HX := Lib.hid (take_snoc_of hx)
      clear hx hxb
      go_wp2_with fail
      refine (spec_FormatInt x _ (by omega) (by omega)).mono ?_; rintro e w1 ⟨rfl, hb1⟩
      have hown1 := own_later hown hb1
      have hb2 := hb.trans (hb1.mono hb.size)
      clear hown hcell hb1
      go_wp2_with (first | (at_builtin; refine wpList_push rfl (.tmp 12) (.tmp 18) 25 rfl 9 _ 1 16 info_string Tryd.underlying25 rfl (by decide) (by decide) w.heap.size v _ _ rfl hown1 #[.string (formatInt x)] 1 _ rfl rfl (by simp [Value.oneCell']) (by omega) hb2.size ?_))
      rintro v' w2 hown2 hgrow -
      have hb3 := below_push hb2 hb2.size hown1 hgrow
      have ho3 : w2.ownsRow w.heap.size 9 1 v' (k + 1) (((l.take (k + 1)).map formatInt).map .string) := by rw [HX.out]; simpa using hown2
      clear hown2 hgrow hown1
      go_wp2_with fail
      go_roundw
      case rel => exact ⟨k + 1, by omega, by go_num, ho3, hb3⟩
      case measure => simp [intOf]; omega
    · obtain rfl : k = l.length := by omega
      rw [List.take_length] at hown
      go_wp2_with fail
      go_ret
      exact ⟨_, rfl, by rw [List.length_map]; exact hown, hb⟩
set_option maxRecDepth 100000 in
theorem spec_LA4 (s : ByteArray) (w : World) (hs : s.size ≤ 12) :
    Calls Tryd.prog 22 #[.int .i64 4, .string s] w (OwnAns ((primesUpTo s.size).map formatInt) true w) := by
  go_enter Tryd.func22, Tryd.ntmps22
  go_wp2_with fail
  refine (spec_LibrarySourceI 4 3 s _ rfl (by omega) hs).mono ?_; rintro e w1 ⟨rfl, hb1⟩
  go_wp2_with fail
  refine (spec_PrimesUpTo s.size _).mono ?_; rintro e w2 ⟨v, rfl, ho, hb2⟩
  go_wp2_with fail
  refine (spec_l36Lines v (primesUpTo s.size) _ (Rds.of_own ho) (Nat.le_refl _) (primes_len _) (primes_bd _)).mono ?_; rintro e w3 ⟨u, rfl, ho3, hb3⟩
  go_wp2_with fail
  go_ret2
  exact ⟨_, rfl, own_base ho3 (Nat.le_trans hb1.size hb2.size), (hb1.trans (hb2.mono hb1.size)).trans (hb3.mono (Nat.le_trans hb1.size hb2.size))⟩

set_option maxRecDepth 100000 in
set_option maxHeartbeats 1000000 in
theorem spec_LA7 (s : ByteArray) (w : World) (hs : s.size ≤ 12) :
    Calls Tryd.prog 22 #[.int .i64 7, .string s] w (OwnAns (twosTo s s.size ++ [formatInt s.size ++ formatInt s.size]) true w) := by
  have hfs := formatInt_size s.size (by omega) (by omega)
  go_enter Tryd.func22, Tryd.ntmps22
  go_wp2_with fail
  refine (spec_LibrarySourceI 7 6 s _ rfl (by omega) hs).mono ?_; rintro e w1 ⟨rfl, hb1⟩
  go_wp2_with fail
  go_loopw [10, 11] (fun v i wr => ∃ k : Nat, k ≤ s.size ∧ i = .int .i64 k ∧ wr.ownsRow w.heap.size 9 1 v k ((twosTo s k).map .string) ∧ Below w.heap.size w wr) (fun _ i _ => s.size - (intOf i).toNat)
  case atStart => exact ⟨0, Nat.zero_le _, rfl, own_base (World.ownsRow_lit w1 #[] 0 (Nat.le_refl _) (by decide) rfl) hb1.size, hb1.alloc hb1.size _⟩
  case round =>
    clear hb1
    obtain ⟨k, hk, rfl, hown, hb⟩ := hrel
    obtain ⟨wo, rfl⟩ : ∃ wo : World, wo = wr := ⟨_, rfl⟩
    obtain ⟨v, hv⟩ : ∃ v, v = u10 := ⟨_, rfl⟩
    subst hv
    by_cases hlt : k < s.size
    · go_wp2_with fail
      have e0 : (0 : Int) ≤ (k : Int) := by omega
      have e2 : (k : Int) ≤ (k : Int) + 1 := by omega
      have e5 : (k : Int) + 1 ≤ (s.size : Int) := by omega
      have e3 : ((k : Int) + 1).toNat = k + 1 := by omega
      have f0 : (0 : Int) ≤ (s.size : Int) - 1 - (k : Int) := by omega
      have f2 : (s.size : Int) - 1 - (k : Int) ≤ (s.size : Int) - (k : Int) := by omega
      have f5 : (s.size : Int) - (k : Int) ≤ (s.size : Int) := by omega
      have f6 : (s.size : Int) - 1 ≤ (s.size : Int) := by omega
      have f7 : (k : Int) ≤ (s.size : Int) - 1 := by omega
      have f8 : (k : Int) ≤ (s.size : Int) := by omega
      have f3 : ((s.size : Int) - (k : Int)).toNat = s.size - k := by omega
      have f4 : ((s.size : Int) - 1 - (k : Int)).toNat = s.size - 1 - k := by omega
      have e6 : ¬ (9223372036854775807 < (s.extract k (k + 1)).size + (s.extract (s.size - 1 - k) (s.size - k)).size) := by simp only [ByteArray.size_extract]; omega
      have e7 : ¬ (9223372036854775807 < min (k + 1) s.size - k + (min (s.size - k) s.size - (s.size - 1 - k))) := by omega
      have e9 : ¬ (9223372036854775807 < min (k + 1) s.size - k + (s.size - k - (s.size - 1 - k))) := by omega
      have e1 : IntKind.i64.wrap ((k : Int) + 1) = (k : Int) + 1 := IntWalk.i64_in _ (by omega)
      have g1 : IntKind.i64.wrap ((s.size : Int) - 1) = (s.size : Int) - 1 := IntWalk.i64_in _ (by omega)
      have g2 : IntKind.i64.wrap ((s.size : Int) - 1 - (k : Int)) = (s.size : Int) - 1 - (k : Int) := IntWalk.i64_in _ (by omega)
      have g3 : IntKind.i64.wrap ((s.size : Int) - (k : Int)) = (s.size : Int) - (k : Int) := IntWalk.i64_in _ (by omega)
      go_region_held3 (fun w' => True) (first | exact trivial)
        ((refine step_push rfl (.tmp 80) (.tmp 98) 25 rfl 9 _ 1 16 info_string Tryd.underlying25 rfl (by decide) (by decide) w.heap.size v _ _ rfl hown #[.string (twoOf s k)] 1 9 rfl (Same.refl _).drew rfl (by simp [Value.oneCell']) (by omega) hb.size ?_; intro v' w2 hown2 hgrow hat))
      have hb2 := below_push hb hb.size hown hgrow
      have ho2 : w2.ownsRow w.heap.size 9 1 v' (k + 1) ((twosTo s (k + 1)).map .string) := by rw [twosTo_succ]; simpa using hown2
      clear e0 e1 e2 e3 e5 e6 e7 e9 f0 f2 f3 f4 f5 f6 f7 f8 g1 g2 g3 hgrow hat hown2 hown
      go_wp2_with fail
      go_roundw
      case rel => exact ⟨k + 1, by omega, by go_num, ho2, hb2⟩
      case measure => simp [intOf]; omega
    · obtain rfl : k = s.size := by omega
      go_wp2_with fail
      refine (spec_FormatInt s.size _ (by omega) (by omega)).mono ?_; rintro e w1 ⟨rfl, hb1⟩
      have hown1 := own_later hown hb1
      have hb2 := hb.trans (hb1.mono hb.size)
      clear hown hb1
      go_wp2_with (first | (at_builtin; refine wpList_push rfl (.tmp 103) (.tmp 107) 25 rfl 9 _ 1 16 info_string Tryd.underlying25 rfl (by decide) (by decide) w.heap.size v _ _ rfl hown1 #[.string (formatInt s.size ++ formatInt s.size)] 1 _ rfl rfl (by simp [Value.oneCell']) (by omega) hb2.size ?_))
      rintro v' w2 hown2 hgrow -
      have hb3 := below_push hb2 hb2.size hown1 hgrow
      have ho3 : w2.ownsRow w.heap.size 9 1 v' (twosTo s s.size ++ [formatInt s.size ++ formatInt s.size]).length ((twosTo s s.size ++ [formatInt s.size ++ formatInt s.size]).map .string) := by rw [List.length_append, twosTo_len]; simpa using hown2
      clear hown2 hgrow hown1
      go_wp2_with fail
      go_ret2
      exact ⟨_, rfl, ho3, hb3⟩
end Go.Proofs.YtgkgoofapgabhaaDoor
