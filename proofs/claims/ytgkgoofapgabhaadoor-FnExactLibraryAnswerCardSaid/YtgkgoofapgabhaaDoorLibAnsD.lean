/- LibraryAnswer of the program: it returns libAns. -/
import Derived.Test.YtgkgoofapgabhaaDoorLibAns
import Derived.Test.YtgkgoofapgabhaaDoorDat
import Derived.Deep.RegionHeld3
namespace Go.Proofs.YtgkgoofapgabhaaDoor
open Go.RowKit
set_option linter.unusedVariables false

set_option maxRecDepth 100000 in
theorem impl_LA0 (kind : Int) (s : ByteArray) (w : World) (hs : s.size ≤ 1048576) (h : kind < 1 ∨ 7 < kind ∨ 12 < s.size) :
    Calls Tryd.prog 23 #[.int .i64 kind, .string s] w (OwnAns [] false w) := by
  go_enter Tryd.func23, Tryd.ntmps23
  go_wp2_with fail
  refine (impl_LibrarySource_no kind s _ hs h).mono ?_; rintro e w1 ⟨rfl, rfl⟩
  go_wp2_with fail
  go_ret2
  exact ⟨_, rfl, own_nil _ _, Below.refl _ _⟩
set_option maxRecDepth 100000 in
set_option maxHeartbeats 1000000 in
theorem impl_LA1 (s : ByteArray) (w : World) (hs : s.size ≤ 12) (hsh : w.ShapedOpen Tryd.prog) (hp : PowTab w) :
    Calls Tryd.prog 23 #[.int .i64 1, .string s] w (OwnAns (wordsOf s) true w) := by
  go_enter Tryd.func23, Tryd.ntmps23
  go_wp2_with fail
  refine (impl_LibrarySourceI 1 0 s _ rfl (by omega) hs hsh).mono ?_; rintro e w1 ⟨rfl, hb1⟩
  go_wp2_with fail
  refine (impl_WordsOf s _ (by omega)).mono ?_; rintro e w2 ⟨v, rfl, ho, hb2⟩
  have hw : Below w.heap.size w w2 := (hb1.alloc hb1.size _).trans (hb2.mono (by simp; have := hb1.size; omega))
  go_wp2_with fail
  go_ret2
  exact ⟨_, rfl, own_base ho (by simp; have := hb1.size; omega), hw⟩
set_option maxRecDepth 100000 in
set_option maxHeartbeats 1000000 in
theorem impl_LA2n (s : ByteArray) (w : World) (hs : s.size ≤ 12) (h5 : 5 < s.size) (hsh : w.ShapedOpen Tryd.prog) (hp : PowTab w) :
    Calls Tryd.prog 23 #[.int .i64 2, .string s] w (OwnAns [] false w) := by
  go_enter Tryd.func23, Tryd.ntmps23
  go_wp2_with fail
  refine (impl_LibrarySourceI 2 1 s _ rfl (by omega) hs hsh).mono ?_; rintro e w1 ⟨rfl, hb1⟩
  go_wp2_with fail
  go_ret2
  exact ⟨_, rfl, own_nil _ _, hb1⟩
set_option maxRecDepth 100000 in
set_option maxHeartbeats 1000000 in
theorem impl_LA2 (s : ByteArray) (w : World) (hs : s.size ≤ 12) (h5 : ¬ 5 < s.size) (hsh : w.ShapedOpen Tryd.prog) (hp : PowTab w) :
    Calls Tryd.prog 23 #[.int .i64 2, .string s] w (OwnAns (permutationsOf s) true w) := by
  go_enter Tryd.func23, Tryd.ntmps23
  go_wp2_with fail
  refine (impl_LibrarySourceI 2 1 s _ rfl (by omega) hs hsh).mono ?_; rintro e w1 ⟨rfl, hb1⟩
  go_wp2_with fail
  refine (impl_PermutationsOf s _ (by omega)).mono ?_; rintro e w2 ⟨v, rfl, ho, hb2⟩
  have hw : Below w.heap.size w w2 := (hb1.alloc hb1.size _).trans (hb2.mono (by simp; have := hb1.size; omega))
  go_wp2_with fail
  go_ret2
  exact ⟨_, rfl, own_base ho (by simp; have := hb1.size; omega), hw⟩
set_option maxRecDepth 100000 in
set_option maxHeartbeats 1000000 in
theorem impl_LA3a (s : ByteArray) (w : World) (hs : s.size ≤ 12) (h1 : s.size < 1) (hsh : w.ShapedOpen Tryd.prog) (hp : PowTab w) :
    Calls Tryd.prog 23 #[.int .i64 3, .string s] w (OwnAns [] false w) := by
  go_enter Tryd.func23, Tryd.ntmps23
  go_wp2_with fail
  refine (impl_LibrarySourceI 3 2 s _ rfl (by omega) hs hsh).mono ?_; rintro e w1 ⟨rfl, hb1⟩
  go_wp2_with fail
  go_ret2
  exact ⟨_, rfl, own_nil _ _, hb1⟩
set_option maxRecDepth 100000 in
set_option maxHeartbeats 1000000 in
theorem impl_LA3b (s : ByteArray) (w : World) (hs : s.size ≤ 12) (h7 : 7 < s.size) (hsh : w.ShapedOpen Tryd.prog) (hp : PowTab w) :
    Calls Tryd.prog 23 #[.int .i64 3, .string s] w (OwnAns [] false w) := by
  go_enter Tryd.func23, Tryd.ntmps23
  go_wp2_with fail
  refine (impl_LibrarySourceI 3 2 s _ rfl (by omega) hs hsh).mono ?_; rintro e w1 ⟨rfl, hb1⟩
  go_wp2_with fail
  go_ret2
  exact ⟨_, rfl, own_nil _ _, hb1⟩
set_option maxRecDepth 100000 in
set_option maxHeartbeats 1000000 in
theorem impl_LA3 (s : ByteArray) (w : World) (h1 : ¬ s.size < 1) (h7 : ¬ 7 < s.size) (hsh : w.ShapedOpen Tryd.prog) (hp : PowTab w) :
    Calls Tryd.prog 23 #[.int .i64 3, .string s] w (OwnAns [formatInt (queensCount s.size)] true w) := by
  have q := queens_bd s.size
  go_enter Tryd.func23, Tryd.ntmps23
  go_wp2_with fail
  refine (impl_LibrarySourceI 3 2 s _ rfl (by omega) (by omega) hsh).mono ?_; rintro e w1 ⟨rfl, hb1⟩
  have ho0 := own_base (World.ownsRow_lit w1 #[] 0 (e := 9) (size := 1) (Nat.le_refl _) (by decide) rfl) hb1.size
  have hw0 : Below w.heap.size w (w1.alloc (.cells #[] 9)) := hb1.alloc hb1.size _
  go_wp2_with fail
  refine (impl_QueensCount s.size _).mono ?_; rintro e w2 ⟨rfl, hb2⟩
  have ho2 := own_later ho0 hb2
  have hw2 := hw0.trans (hb2.mono hw0.size)
  clear ho0 hb2
  go_wp2_with fail
  refine (impl_FormatInt (queensCount s.size) _ (by omega) (by omega) (hp.later hw2)).mono ?_; rintro e w3 ⟨rfl, hb3⟩
  have ho3 := own_later ho2 hb3
  have hw3 := hw2.trans (hb3.mono hw2.size)
  clear ho2 hb3 hw0
  go_wp2_with (first | (at_builtin; refine wpList_push rfl (.tmp 59) (.tmp 63) 25 rfl 9 _ 1 16 info_string Tryd.underlying25 rfl (by decide) (by decide) w.heap.size _ _ _ rfl ho3 #[.string (formatInt (queensCount s.size))] 1 _ rfl rfl (by simp [Value.oneCell']) (by omega) hw3.size ?_))
  rintro v' w9 hown9 hgrow -
  have hb9 := below_push hw3 hw3.size ho3 hgrow
  go_wp2_with fail
  go_ret2
  exact ⟨_, rfl, by simpa using hown9, hb9⟩
set_option maxRecDepth 100000 in
set_option maxHeartbeats 1000000 in
theorem impl_LA5t (s : ByteArray) (w : World) (hs : s.size ≤ 12) (hbal : bal 0 s.data.toList = true) (hsh : w.ShapedOpen Tryd.prog) (hp : PowTab w) :
    Calls Tryd.prog 23 #[.int .i64 5, .string s] w (OwnAns [yesNo true] true w) := by
  have HC := Lib.hid (fun w => impl_IsBalanced s w (by omega))
  rw [hbal] at HC
  clear hbal
  go_enter Tryd.func23, Tryd.ntmps23
  go_wp2_with fail
  refine (impl_LibrarySourceI 5 4 s _ rfl (by omega) hs hsh).mono ?_; rintro e w1 ⟨rfl, hb1⟩
  have ho0 := own_base (World.ownsRow_lit w1 #[] 0 (e := 9) (size := 1) (Nat.le_refl _) (by decide) rfl) hb1.size
  have hw0 : Below w.heap.size w (w1.alloc (.cells #[] 9)) := hb1.alloc hb1.size _
  go_wp2_with fail
  refine (HC.out _).mono ?_; rintro e w2 ⟨rfl, hw⟩
  rw [hw] at ho0 hw0
  clear hw
  go_wp2_with (first | (at_builtin; refine wpList_push rfl (.tmp 84) (.tmp 86) 25 rfl 9 _ 1 16 info_string Tryd.underlying25 rfl (by decide) (by decide) w.heap.size _ _ _ rfl ho0 #[.string ⟨#[121, 101, 115]⟩] 1 _ rfl rfl (by simp [Value.oneCell']) (by omega) hw0.size ?_))
  rintro v' w9 hown9 hgrow -
  have hb9 := below_push hw0 hw0.size ho0 hgrow
  go_wp2_with fail
  go_ret2
  exact ⟨_, rfl, by simpa [yesNo] using hown9, hb9⟩
set_option maxRecDepth 100000 in
set_option maxHeartbeats 1000000 in
theorem impl_LA5f (s : ByteArray) (w : World) (hs : s.size ≤ 12) (hbal : bal 0 s.data.toList = false) (hsh : w.ShapedOpen Tryd.prog) (hp : PowTab w) :
    Calls Tryd.prog 23 #[.int .i64 5, .string s] w (OwnAns [yesNo false] true w) := by
  have HC := Lib.hid (fun w => impl_IsBalanced s w (by omega))
  rw [hbal] at HC
  clear hbal
  go_enter Tryd.func23, Tryd.ntmps23
  go_wp2_with fail
  refine (impl_LibrarySourceI 5 4 s _ rfl (by omega) hs hsh).mono ?_; rintro e w1 ⟨rfl, hb1⟩
  have ho0 := own_base (World.ownsRow_lit w1 #[] 0 (e := 9) (size := 1) (Nat.le_refl _) (by decide) rfl) hb1.size
  have hw0 : Below w.heap.size w (w1.alloc (.cells #[] 9)) := hb1.alloc hb1.size _
  go_wp2_with fail
  refine (HC.out _).mono ?_; rintro e w2 ⟨rfl, hw⟩
  rw [hw] at ho0 hw0
  clear hw
  go_wp2_with (first | (at_builtin; refine wpList_push rfl (.tmp 84) (.tmp 86) 25 rfl 9 _ 1 16 info_string Tryd.underlying25 rfl (by decide) (by decide) w.heap.size _ _ _ rfl ho0 #[.string ⟨#[110, 111]⟩] 1 _ rfl rfl (by simp [Value.oneCell']) (by omega) hw0.size ?_))
  rintro v' w9 hown9 hgrow -
  have hb9 := below_push hw0 hw0.size ho0 hgrow
  go_wp2_with fail
  go_ret2
  exact ⟨_, rfl, by simpa [yesNo] using hown9, hb9⟩
set_option maxRecDepth 100000 in
set_option maxHeartbeats 1000000 in
theorem impl_LA6n (s : ByteArray) (w : World) (hs : s.size ≤ 12) (har : arithmeticOf s = none) (hsh : w.ShapedOpen Tryd.prog) (hp : PowTab w) :
    Calls Tryd.prog 23 #[.int .i64 6, .string s] w (OwnAns [formatOpt none] true w) := by
  have HC := Lib.hid (fun w => impl_ArithmeticOf s w)
  rw [har] at HC
  clear har
  go_enter Tryd.func23, Tryd.ntmps23
  go_wp2_with fail
  refine (impl_LibrarySourceI 6 5 s _ rfl (by omega) hs hsh).mono ?_; rintro e w1 ⟨rfl, hb1⟩
  have ho0 := own_base (World.ownsRow_lit w1 #[] 0 (e := 9) (size := 1) (Nat.le_refl _) (by decide) rfl) hb1.size
  have hw0 : Below w.heap.size w (w1.alloc (.cells #[] 9)) := hb1.alloc hb1.size _
  go_wp2_with fail
  refine (HC.out _).mono ?_; rintro e w2 ⟨rfl, hb2⟩
  simp only [pairOf, Option.getD_none, Option.isSome_none]
  have ho2 := own_later ho0 hb2
  have hw2 := hw0.trans (hb2.mono hw0.size)
  clear ho0 hb2 hw0
  go_wp2_with (first | (at_builtin; refine wpList_push rfl (.tmp 98) (.tmp 100) 25 rfl 9 _ 1 16 info_string Tryd.underlying25 rfl (by decide) (by decide) w.heap.size _ _ _ rfl ho2 #[.string (formatOpt none)] 1 _ rfl rfl (by simp [Value.oneCell']) (by omega) hw2.size ?_))
  rintro v' w9 hown9 hgrow -
  have hb9 := below_push hw2 hw2.size ho2 hgrow
  go_wp2_with fail
  go_ret2
  exact ⟨_, rfl, by simpa using hown9, hb9⟩
set_option maxRecDepth 100000 in
set_option maxHeartbeats 1000000 in
theorem impl_LA6s (s : ByteArray) (w : World) (hs : s.size ≤ 12) (v : Int) (har : arithmeticOf s = some v) (hsh : w.ShapedOpen Tryd.prog) (hp : PowTab w) :
    Calls Tryd.prog 23 #[.int .i64 6, .string s] w (OwnAns [formatOpt (some v)] true w) := by
  have hv := arith_bd har
  have HC := Lib.hid (fun w => impl_ArithmeticOf s w)
  rw [har] at HC
  clear har
  go_enter Tryd.func23, Tryd.ntmps23
  go_wp2_with fail
  refine (impl_LibrarySourceI 6 5 s _ rfl (by omega) hs hsh).mono ?_; rintro e w1 ⟨rfl, hb1⟩
  have ho0 := own_base (World.ownsRow_lit w1 #[] 0 (e := 9) (size := 1) (Nat.le_refl _) (by decide) rfl) hb1.size
  have hw0 : Below w.heap.size w (w1.alloc (.cells #[] 9)) := hb1.alloc hb1.size _
  go_wp2_with fail
  refine (HC.out _).mono ?_; rintro e w2 ⟨rfl, hb2⟩
  simp only [pairOf, Option.getD_some, Option.isSome_some]
  have ho2 := own_later ho0 hb2
  have hw2 := hw0.trans (hb2.mono hw0.size)
  clear ho0 hb2 hw0
  go_wp2_with fail
  refine (impl_FormatInt v _ (by omega) (by omega) (hp.later hw2)).mono ?_; rintro e w3 ⟨rfl, hb3⟩
  have ho3 := own_later ho2 hb3
  have hw3 := hw2.trans (hb3.mono hw2.size)
  clear ho2 hb3 hw2
  go_wp2_with (first | (at_builtin; refine wpList_push rfl (.tmp 98) (.tmp 100) 25 rfl 9 _ 1 16 info_string Tryd.underlying25 rfl (by decide) (by decide) w.heap.size _ _ _ rfl ho3 #[.string (formatOpt (some v))] 1 _ rfl rfl (by simp [Value.oneCell']) (by omega) hw3.size ?_))
  rintro v' w9 hown9 hgrow -
  have hb9 := below_push hw3 hw3.size ho3 hgrow
  go_wp2_with fail
  go_ret2
  exact ⟨_, rfl, by simpa using hown9, hb9⟩
set_option maxRecDepth 100000 in
set_option maxHeartbeats 1000000 in
theorem impl_LA4 (s : ByteArray) (w : World) (hs : s.size ≤ 12) (hsh : w.ShapedOpen Tryd.prog) (hp : PowTab w) :
    Calls Tryd.prog 23 #[.int .i64 4, .string s] w (OwnAns ((primesUpTo s.size).map formatInt) true w) := by
  have hlen := primes_len s.size
  have HQ := Lib.hid (primes_bd s.size)
  go_enter Tryd.func23, Tryd.ntmps23
  go_wp2_with fail
  refine (impl_LibrarySourceI 4 3 s _ rfl (by omega) hs hsh).mono ?_; rintro e w1 ⟨rfl, hb1⟩
  have ho0 := own_base (World.ownsRow_lit w1 #[] 0 (e := 9) (size := 1) (Nat.le_refl _) (by decide) rfl) hb1.size
  have hw0 : Below w.heap.size w (w1.alloc (.cells #[] 9)) := hb1.alloc hb1.size _
  go_wp2_with fail
  refine (impl_PrimesUpTo s.size _).mono ?_; rintro e w2 ⟨u, rfl, hou, hb2⟩
  have ho2 := own_later ho0 hb2
  have hw2 := hw0.trans (hb2.mono hw0.size)
  have hr := Rds.of_own hou
  have hap : Apart (.slice (some ⟨w1.heap.size, 0, none⟩) 0 0) (w1.alloc (.cells #[] 9)).heap.size w2.heap.size := Apart.of_own ho0 _
  generalize (w1.alloc (.cells #[] 9)).heap.size = L at *
  generalize primesUpTo s.size = l at *
  obtain ⟨A, c, rfl, hc1, hc2, -⟩ := hr.shape
  unfold maxLen at hc2
  clear ho0 hb2 hou hw0
  go_wp2_with fail
  go_loopw [9, 70] (fun v i wr => ∃ k : Nat, k ≤ l.length ∧ i = .int .i64 k ∧ wr.ownsRow w.heap.size 9 1 v k (((l.take k).map formatInt).map .string) ∧ Below w.heap.size w wr ∧ Rds wr L w2.heap.size 1 (.slice A l.length c) l.length (l.map (.int .i64)) ∧ Apart v L w2.heap.size ∧ w2.heap.size ≤ wr.heap.size) (fun _ i _ => l.length - (intOf i).toNat)
  case atStart => exact ⟨0, Nat.zero_le _, rfl, by simpa using ho2, hw2, hr, hap, Nat.le_refl _⟩
  case round =>
    clear hb1 ho2 hw2 hr hap
    obtain ⟨k, hk, rfl, hown, hb, hr, hap, hz⟩ := hrel
    obtain ⟨wo, rfl⟩ : ∃ wo : World, wo = wr := ⟨_, rfl⟩
    obtain ⟨v, hv⟩ : ∃ v, v = u9 := ⟨_, rfl⟩
    subst hv
    by_cases hlt : k < l.length
    · obtain ⟨g, off, x, rfl, hg1, hg2, hx, hcell⟩ := hr.atMap hlt
      have hxb := HQ.out x (List.mem_of_getElem? hx)
      have hx1 := hxb.1
      have hx2 := hxb.2
      have HX := Lib.hid (take_snoc_of hx)
      clear hx hxb
      go_wp2_with fail
      refine (impl_FormatInt x _ (by omega) (by omega) (hp.later hb)).mono ?_; rintro e w3 ⟨rfl, hb3⟩
      have hown1 := own_later hown hb3
      have hb4 := hb.trans (hb3.mono hb.size)
      have hr3 := hr.below hb3 hz
      have hz3 := Nat.le_trans hz hb3.size
      clear hown hcell hb3 hr hb
      go_wp2_with (first | (at_builtin; refine wpList_push rfl (.tmp 74) (.tmp 77) 25 rfl 9 _ 1 16 info_string Tryd.underlying25 rfl (by decide) (by decide) w.heap.size v _ _ rfl hown1 #[.string (formatInt x)] 1 _ rfl rfl (by simp [Value.oneCell']) (by omega) hb4.size ?_))
      rintro v' w4 hown2 hgrow hat
      have hb5 := below_push hb4 hb4.size hown1 hgrow
      have ho3 : w4.ownsRow w.heap.size 9 1 v' (k + 1) (((l.take (k + 1)).map formatInt).map .string) := by rw [HX.out]; simpa using hown2
      have hr4 := hr3.apart hap hgrow hz3
      have hap4 := hap.push hat hz3
      have hz4 := Nat.le_trans hz3 hgrow.size
      clear hown2 hgrow hown1 hap hr3 hat
      go_wp2_with fail
      go_roundw
      case rel => exact ⟨k + 1, by omega, by go_num, ho3, hb5, hr4, hap4, hz4⟩
      case measure => simp [intOf]; omega
    · obtain rfl : k = l.length := by omega
      rw [List.take_length] at hown
      go_wp2_with fail
      go_ret2
      exact ⟨_, rfl, by rw [List.length_map]; exact hown, hb⟩
end Go.Proofs.YtgkgoofapgabhaaDoor
