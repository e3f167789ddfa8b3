/- LibrarySource of the reference and of the program: both return libText. -/
import Derived.Test.YtgkgoofapgabhaaDoorProg
import Derived.Test.YtgkgoofapgabhaaDoorFormatB
import Derived.Test.YtgkgoofapgabhaaDoorLibRepl
namespace Go.Proofs.YtgkgoofapgabhaaDoor
open Go.RowKit

/-- the strings that a slice literal lays -/
def litsOf : Code → List ByteArray
  | .seq a b => litsOf a ++ litsOf b
  | .region _ ops _ => ops.toList.flatMap fun o => match o.op with
    | .buildSlice _ _ ps => ps.toList.map fun p => match p.2 with
      | .const (.string s) => s
      | _ => ByteArray.empty
    | _ => []
  | .block _ c => litsOf c
  | .scope c => litsOf c
  | _ => []
/-- the program's seven sources, as its table holds them -/
noncomputable def libSrcs : List ByteArray := match Tryd.f29.body with
  | some c => litsOf c
  | none => []
theorem libSrcs_len : libSrcs.length = 7 := by kernel_rfl
theorem libSrcs_size : ∀ s ∈ libSrcs, s.size ≤ 1000 := by decide +kernel

noncomputable def libSrc (k : Nat) : ByteArray := libSrcs.getD k ByteArray.empty
noncomputable def libText (k : Nat) (s : ByteArray) : ByteArray := ⟨(Lib.replaceAll (libSrc k).data.toList [81] (quoted 34 s).data.toList).toArray⟩
theorem quoted_ne (s : ByteArray) : (quoted 34 s).data.toList ≠ [81] := by
  intro h
  have h1 : (quoted 34 s).size = 1 := by show (quoted 34 s).data.size = 1; rw [← Array.length_toList, h]; rfl
  rw [quoted, strOfNums_size, List.length_append] at h1
  have := quoteTo_pos 34 s s.size
  simp only [List.length_singleton] at h1
  omega
theorem lib_one (k : Nat) (a b s : ByteArray) (h : (libSrc k).data.toList = a.data.toList ++ 81 :: b.data.toList) (ha : 81 ∉ a.data.toList) (hb : 81 ∉ b.data.toList) : a ++ quoted 34 s ++ b = libText k s := by
  rw [libText, h, repl_one _ _ _ _ ha hb (quoted_ne s)]
  apply ByteArray.ext
  simp
theorem lib_two (k : Nat) (a b c s : ByteArray) (h : (libSrc k).data.toList = a.data.toList ++ 81 :: (b.data.toList ++ 81 :: c.data.toList)) (ha : 81 ∉ a.data.toList) (hb : 81 ∉ b.data.toList) (hc : 81 ∉ c.data.toList) : a ++ quoted 34 s ++ b ++ quoted 34 s ++ c = libText k s := by
  rw [libText, h, repl_two _ _ _ _ _ ha hb hc (quoted_ne s)]
  apply ByteArray.ext
  simp
theorem ret_str2 {a b : ByteArray} {x : Bool} (h : a = b) : Ending.returned (.tuple #[.string a, .bool x]) = .returned (.tuple #[.string b, .bool x]) := by rw [h]

set_option maxRecDepth 100000 in
theorem impl_librarySources (w : World) :
    Calls Tryd.prog 29 #[] w fun e w' => e = .returned (.slice (some ⟨w.heap.size, 0, none⟩) 7 7) ∧ w' = w.alloc (.cells (libSrcs.map Value.string).toArray 9) := by
  go_enter Tryd.func29, Tryd.ntmps29
  go_wp2_with fail
  go_ret
  exact ⟨rfl, congrArg (fun c => w.alloc (.cells c 9)) (by kernel_rfl)⟩

set_option maxRecDepth 100000 in
theorem spec_LibrarySource_no (kind : Int) (s : ByteArray) (w : World) (hs : s.size ≤ 1048576) (h : kind < 1 ∨ 7 < kind ∨ 12 < s.size) :
    Calls Tryd.prog 8 #[.int .i64 kind, .string s] w fun e w' => e = .returned (.tuple #[.string ⟨#[]⟩, .bool false]) ∧ Below w.heap.size w w' := by
  by_cases h1 : 12 < s.size
  · go_enter Tryd.func8, Tryd.ntmps8
    go_wp2_with fail
    go_ret2
    exact ⟨rfl, Below.refl _ _⟩
  · have b1 : (kind == 1) = false := beq_eq_false_iff_ne.2 (by omega)
    have b2 : (kind == 2) = false := beq_eq_false_iff_ne.2 (by omega)
    have b3 : (kind == 3) = false := beq_eq_false_iff_ne.2 (by omega)
    have b4 : (kind == 4) = false := beq_eq_false_iff_ne.2 (by omega)
    have b5 : (kind == 5) = false := beq_eq_false_iff_ne.2 (by omega)
    have b6 : (kind == 6) = false := beq_eq_false_iff_ne.2 (by omega)
    have b7 : (kind == 7) = false := beq_eq_false_iff_ne.2 (by omega)
    clear h
    go_enter Tryd.func8, Tryd.ntmps8
    go_wp2_with fail
    refine (spec_QuoteText s _ hs).mono ?_; rintro e w1 ⟨rfl, hb⟩
    go_wp2_with fail
    go_ret2
    exact ⟨rfl, hb⟩

set_option maxRecDepth 100000 in
set_option maxHeartbeats 4000000 in
theorem spec_LibrarySource_yes (k : Nat) (s : ByteArray) (w : World) (hk : k < 7) (hs : s.size ≤ 12) :
    Calls Tryd.prog 8 #[.int .i64 ((k + 1 : Nat) : Int), .string s] w fun e w' => e = .returned (.tuple #[.string (libText k s), .bool true]) ∧ Below w.heap.size w w' := by
  have hq := quoted_size 34 s
  match k, hk with
  | 0, _ =>
    go_enter Tryd.func8, Tryd.ntmps8
    go_wp2_with fail
    refine (spec_QuoteText s _ (by omega)).mono ?_; rintro e w1 ⟨rfl, hb⟩
    go_wp2_with fail
    go_ret2
    exact ⟨ret_str2 (lib_one 0 _ _ s (by kernel_rfl) (by decide +kernel) (by decide +kernel)), hb⟩
  | 1, _ =>
    go_enter Tryd.func8, Tryd.ntmps8
    go_wp2_with fail
    refine (spec_QuoteText s _ (by omega)).mono ?_; rintro e w1 ⟨rfl, hb⟩
    go_wp2_with fail
    go_ret2
    exact ⟨ret_str2 (lib_one 1 _ _ s (by kernel_rfl) (by decide +kernel) (by decide +kernel)), hb⟩
  | 2, _ =>
    go_enter Tryd.func8, Tryd.ntmps8
    go_wp2_with fail
    refine (spec_QuoteText s _ (by omega)).mono ?_; rintro e w1 ⟨rfl, hb⟩
    go_wp2_with fail
    go_ret2
    exact ⟨ret_str2 (lib_one 2 _ _ s (by kernel_rfl) (by decide +kernel) (by decide +kernel)), hb⟩
  | 3, _ =>
    go_enter Tryd.func8, Tryd.ntmps8
    go_wp2_with fail
    refine (spec_QuoteText s _ (by omega)).mono ?_; rintro e w1 ⟨rfl, hb⟩
    go_wp2_with fail
    go_ret2
    exact ⟨ret_str2 (lib_one 3 _ _ s (by kernel_rfl) (by decide +kernel) (by decide +kernel)), hb⟩
  | 4, _ =>
    go_enter Tryd.func8, Tryd.ntmps8
    go_wp2_with fail
    refine (spec_QuoteText s _ (by omega)).mono ?_; rintro e w1 ⟨rfl, hb⟩
    go_wp2_with fail
    go_ret2
    exact ⟨ret_str2 (lib_one 4 _ _ s (by kernel_rfl) (by decide +kernel) (by decide +kernel)), hb⟩
  | 5, _ =>
    go_enter Tryd.func8, Tryd.ntmps8
    go_wp2_with fail
    refine (spec_QuoteText s _ (by omega)).mono ?_; rintro e w1 ⟨rfl, hb⟩
    go_wp2_with fail
    go_ret2
    exact ⟨ret_str2 (lib_one 5 _ _ s (by kernel_rfl) (by decide +kernel) (by decide +kernel)), hb⟩
  | 6, _ =>
    go_enter Tryd.func8, Tryd.ntmps8
    go_wp2_with fail
    refine (spec_QuoteText s _ (by omega)).mono ?_; rintro e w1 ⟨rfl, hb⟩
    go_wp2_with fail
    go_ret2
    exact ⟨ret_str2 (lib_two 6 _ _ _ s (by kernel_rfl) (by decide +kernel) (by decide +kernel) (by decide +kernel)), hb⟩

set_option maxRecDepth 100000 in
theorem impl_LibrarySource_no (kind : Int) (s : ByteArray) (w : World) (hs : s.size ≤ 1048576) (h : kind < 1 ∨ 7 < kind ∨ 12 < s.size) :
    Calls Tryd.prog 9 #[.int .i64 kind, .string s] w fun e w' => e = .returned (.tuple #[.string ⟨#[]⟩, .bool false]) ∧ w = w' := by
  by_cases h1 : kind < 1
  · go_enter Tryd.func9, Tryd.ntmps9
    go_wp2_with fail
    go_ret2
    exact ⟨rfl, rfl⟩
  by_cases h2 : 7 < kind
  · go_enter Tryd.func9, Tryd.ntmps9
    go_wp2_with fail
    go_ret2
    exact ⟨rfl, rfl⟩
  have h3 : 12 < s.size := by omega
  clear h
  go_enter Tryd.func9, Tryd.ntmps9
  go_wp2_with fail
  go_ret2
  exact ⟨rfl, rfl⟩

theorem libSrcs_at (k : Nat) (hk : k < 7) : (libSrcs.map Value.string).toArray[k]? = some (.string (libSrc k)) := by
  have hl : k < libSrcs.length := by rw [libSrcs_len]; exact hk
  rw [List.getElem?_toArray, List.getElem?_map, libSrc, List.getD, List.getElem?_eq_getElem hl]
  rfl
theorem libSrc_size (k : Nat) : (libSrc k).size ≤ 1000 := by
  rw [libSrc, List.getD]
  cases h : libSrcs[k]? with
  | none => exact Nat.zero_le _
  | some x => exact libSrcs_size x (List.mem_of_getElem? h)
theorem shaped_below {w w' : World} (h : w.ShapedOpen Tryd.prog) (hb : Below w.heap.size w w') : w'.ShapedOpen Tryd.prog :=
  h.keptBut (hb.frame (fun _ => False)) (fun _ h => h.elim)

theorem lib_len (k : Nat) (s : ByteArray) (hs : s.size ≤ 12) : (libSrc k).size + Lib.countB (libSrc k) ⟨#[81]⟩ * (quoted 34 s).size ≤ 140737488355328 := by
  have hq := quoted_size 34 s
  have hz := libSrc_size k
  have hc := Lib.countB_le ⟨#[81]⟩ (by decide) _ (libSrc k) (Nat.le_refl _)
  have := Nat.mul_le_mul (Nat.le_trans hc hz) (Nat.le_trans hq (show 2 + 4 * s.size ≤ 50 by omega))
  omega
end Go.Proofs.YtgkgoofapgabhaaDoor
