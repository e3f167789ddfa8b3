/- LibraryAnswer of the reference: it returns libAns. -/
import Derived.Test.YtgkgoofapgabhaaDoorProg
import Derived.Test.YtgkgoofapgabhaaDoorWords
import Derived.Test.YtgkgoofapgabhaaDoorPerms
import Derived.Test.YtgkgoofapgabhaaDoorBal
import Derived.Test.YtgkgoofapgabhaaDoorArithTop
import Derived.Test.YtgkgoofapgabhaaDoorLibSrcB
namespace Go.Proofs.YtgkgoofapgabhaaDoor
open Go.RowKit

theorem own_base {w : World} {base base' : Nat} {e : TypeId} {size n : Nat} {v : Value} {xs : List Value} (h : w.ownsRow base e size v n xs) (hb : base' ≤ base) : w.ownsRow base' e size v n xs := by
  refine ⟨h.1, ?_⟩
  rcases h.2 with h0 | ⟨g, cap, cur, h1, h2, h3⟩
  · exact .inl h0
  · exact .inr ⟨g, cap, cur, h1, Nat.le_trans hb h2, h3⟩

/-- the pair of bytes i and n - 1 - i -/
def twoOf (s : ByteArray) (i : Nat) : ByteArray := s.extract i (i + 1) ++ s.extract (s.size - 1 - i) (s.size - i)
def twosTo (s : ByteArray) (k : Nat) : List ByteArray := (List.range k).map (twoOf s)
theorem twosTo_succ (s : ByteArray) (k : Nat) : twosTo s (k + 1) = twosTo s k ++ [twoOf s k] := by simp [twosTo, List.range_succ]
theorem twosTo_len (s : ByteArray) (k : Nat) : (twosTo s k).length = k := by simp [twosTo]
def formatOpt : Option Int → ByteArray
  | some v => formatInt v
  | none => ⟨#[101, 114, 114, 111, 114]⟩
def yesNo (b : Bool) : ByteArray := if b then ⟨#[121, 101, 115]⟩ else ⟨#[110, 111]⟩
/-- may the library answer this kind at inputs of this length? -/
def libMay (kind : Int) (n : Nat) : Bool := decide (1 ≤ kind) && decide (kind ≤ 7) && decide (n ≤ 12) && !(decide (kind = 2) && decide (5 < n)) && !(decide (kind = 3) && (decide (n < 1) || decide (7 < n)))
def libAns (kind : Int) (s : ByteArray) : List ByteArray :=
  if libMay kind s.size = false then [] else if kind = 1 then wordsOf s else if kind = 2 then permutationsOf s else if kind = 3 then [formatInt (queensCount s.size)] else if kind = 4 then (primesUpTo s.size).map formatInt
  else if kind = 5 then [yesNo (bal 0 s.data.toList)] else if kind = 6 then [formatOpt (arithmeticOf s)] else twosTo s s.size ++ [formatInt s.size ++ formatInt s.size]
/-- a slice of the call's own that reads as l, and a flag -/
def OwnAns (l : List ByteArray) (ok : Bool) (w : World) (e : Ending) (w' : World) : Prop :=
  ∃ v, e = .returned (.tuple #[v, .bool ok]) ∧ w'.ownsRow w.heap.size 9 1 v l.length (l.map .string) ∧ Below w.heap.size w w'
theorem own_nil (w : World) (b : Nat) : w.ownsRow b 9 1 (.slice none 0 0) ([] : List ByteArray).length (([] : List ByteArray).map .string) := ⟨rfl, .inl ⟨rfl, rfl⟩⟩
theorem own_one (w : World) (b : Nat) (t : ByteArray) (hb : b ≤ w.heap.size) : (w.alloc (.cells #[.string t] 9)).ownsRow b 9 1 (.slice (some ⟨w.heap.size, 0, none⟩) 1 1) [t].length ([t].map .string) := own_base (World.ownsRow_lit w #[.string t] 1 (Nat.le_refl _) (by decide) rfl) hb

theorem spec_LibrarySourceI (kind : Int) (k : Nat) (s : ByteArray) (w : World) (h : kind = ((k + 1 : Nat) : Int)) (hk : k < 7) (hs : s.size ≤ 12) :
    Calls Tryd.prog 8 #[.int .i64 kind, .string s] w fun e w' => e = .returned (.tuple #[.string (libText k s), .bool true]) ∧ Below w.heap.size w w' := h ▸ spec_LibrarySource_yes k s w hk hs
theorem impl_LibrarySourceI (kind : Int) (k : Nat) (s : ByteArray) (w : World) (h : kind = ((k + 1 : Nat) : Int)) (hk : k < 7) (hs : s.size ≤ 12) (hsh : w.ShapedOpen Tryd.prog) :
    Calls Tryd.prog 9 #[.int .i64 kind, .string s] w fun e w' => e = .returned (.tuple #[.string (libText k s), .bool true]) ∧ Below w.heap.size w w' := h ▸ impl_LibrarySource_yes k s w hk hs hsh

theorem queens_bd (n : Nat) : -1 ≤ queensCount n ∧ queensCount n ≤ 10000000 := by
  unfold queensCount
  split
  · omega
  · have := qc_small (n : Int).toNat (n : Int).toNat (by omega) (by omega) []; omega
theorem arith_bd {s : ByteArray} {v : Int} (h : arithmeticOf s = some v) : v.natAbs ≤ 999999999999 := by
  unfold arithmeticOf at h
  split at h
  · cases h
  · split at h
    · rename_i v' a hr
      split at h
      · injection h with h; subst h; exact (sumF_good s _ _ (Nat.zero_le _) v' a hr).2.2
      · cases h
    · cases h
theorem primes_bd (n : Int) (q : Int) (h : q ∈ primesUpTo n) : 2 ≤ q ∧ q ≤ 200 := by
  have := primesTo_mem _ q h; omega
theorem primes_len (n : Int) : (primesUpTo n).length ≤ 200 := by have := primesTo_len (min n 200 - 1).toNat; unfold primesUpTo; omega

set_option maxRecDepth 100000 in
theorem spec_LA0 (kind : Int) (s : ByteArray) (w : World) (hs : s.size ≤ 1048576) (h : kind < 1 ∨ 7 < kind ∨ 12 < s.size) :
    Calls Tryd.prog 22 #[.int .i64 kind, .string s] w (OwnAns [] false w) := by
  go_enter Tryd.func22, Tryd.ntmps22
  go_wp2_with fail
  refine (spec_LibrarySource_no kind s _ hs h).mono ?_; rintro e w1 ⟨rfl, hb1⟩
  go_wp2_with fail
  go_ret2
  exact ⟨_, rfl, own_nil _ _, hb1⟩
set_option maxRecDepth 100000 in
theorem spec_LA1 (s : ByteArray) (w : World) (hs : s.size ≤ 12) :
    Calls Tryd.prog 22 #[.int .i64 1, .string s] w (OwnAns (wordsOf s) true w) := by
  go_enter Tryd.func22, Tryd.ntmps22
  go_wp2_with fail
  refine (spec_LibrarySourceI 1 0 s _ rfl (by omega) hs).mono ?_; rintro e w1 ⟨rfl, hb1⟩
  go_wp2_with fail
  refine (spec_WordsOf s _ (by omega)).mono ?_; rintro e w2 ⟨v, rfl, ho, hb2⟩
  go_wp2_with fail
  go_ret2
  exact ⟨_, rfl, own_base ho hb1.size, hb1.trans (hb2.mono hb1.size)⟩
set_option maxRecDepth 100000 in
theorem spec_LA2n (s : ByteArray) (w : World) (hs : s.size ≤ 12) (h5 : 5 < s.size) :
    Calls Tryd.prog 22 #[.int .i64 2, .string s] w (OwnAns [] false w) := by
  go_enter Tryd.func22, Tryd.ntmps22
  go_wp2_with fail
  refine (spec_LibrarySourceI 2 1 s _ rfl (by omega) hs).mono ?_; rintro e w1 ⟨rfl, hb1⟩
  go_wp2_with fail
  go_ret2
  exact ⟨_, rfl, own_nil _ _, hb1⟩
set_option maxRecDepth 100000 in
theorem spec_LA2 (s : ByteArray) (w : World) (hs : s.size ≤ 12) (h5 : ¬ 5 < s.size) :
    Calls Tryd.prog 22 #[.int .i64 2, .string s] w (OwnAns (permutationsOf s) true w) := by
  go_enter Tryd.func22, Tryd.ntmps22
  go_wp2_with fail
  refine (spec_LibrarySourceI 2 1 s _ rfl (by omega) hs).mono ?_; rintro e w1 ⟨rfl, hb1⟩
  go_wp2_with fail
  refine (spec_PermutationsOf s _ (by omega)).mono ?_; rintro e w2 ⟨v, rfl, ho, hb2⟩
  go_wp2_with fail
  go_ret2
  exact ⟨_, rfl, own_base ho hb1.size, hb1.trans (hb2.mono hb1.size)⟩
set_option maxRecDepth 100000 in
theorem spec_LA3n (s : ByteArray) (w : World) (hs : s.size ≤ 12) (h5 : s.size < 1 ∨ 7 < s.size) :
    Calls Tryd.prog 22 #[.int .i64 3, .string s] w (OwnAns [] false w) := by
  by_cases h1 : s.size < 1
  · go_enter Tryd.func22, Tryd.ntmps22
    go_wp2_with fail
    refine (spec_LibrarySourceI 3 2 s _ rfl (by omega) hs).mono ?_; rintro e w1 ⟨rfl, hb1⟩
    go_wp2_with fail
    go_ret2
    exact ⟨_, rfl, own_nil _ _, hb1⟩
  · have h2 : 7 < s.size := by omega
    clear h5
    go_enter Tryd.func22, Tryd.ntmps22
    go_wp2_with fail
    refine (spec_LibrarySourceI 3 2 s _ rfl (by omega) hs).mono ?_; rintro e w1 ⟨rfl, hb1⟩
    go_wp2_with fail
    go_ret2
    exact ⟨_, rfl, own_nil _ _, hb1⟩
set_option maxRecDepth 100000 in
theorem spec_LA3 (s : ByteArray) (w : World) (h1 : ¬ s.size < 1) (h7 : ¬ 7 < s.size) :
    Calls Tryd.prog 22 #[.int .i64 3, .string s] w (OwnAns [formatInt (queensCount s.size)] true w) := by
  have q := queens_bd s.size
  go_enter Tryd.func22, Tryd.ntmps22
  go_wp2_with fail
  refine (spec_LibrarySourceI 3 2 s _ rfl (by omega) (by omega)).mono ?_; rintro e w1 ⟨rfl, hb1⟩
  go_wp2_with fail
  refine (spec_QueensCount s.size _).mono ?_; rintro e w2 ⟨rfl, hb2⟩
  go_wp2_with fail
  refine (spec_FormatInt (queensCount s.size) _ (by omega) (by omega)).mono ?_; rintro e w3 ⟨rfl, hb3⟩
  have hw : Below w.heap.size w w3 := (hb1.trans (hb2.mono hb1.size)).trans (hb3.mono (Nat.le_trans hb1.size hb2.size))
  go_wp2_with fail
  go_ret2
  exact ⟨_, rfl, own_one _ _ _ hw.size, hw.alloc hw.size _⟩
set_option maxRecDepth 100000 in
theorem spec_LA5 (s : ByteArray) (w : World) (hs : s.size ≤ 12) :
    Calls Tryd.prog 22 #[.int .i64 5, .string s] w (OwnAns [yesNo (bal 0 s.data.toList)] true w) := by
  cases hbal : bal 0 s.data.toList with
  | true =>
    have HC := Lib.hid (fun w => spec_IsBalanced s w (by omega))
    rw [hbal] at HC
    clear hbal
    go_enter Tryd.func22, Tryd.ntmps22
    go_wp2_with fail
    refine (spec_LibrarySourceI 5 4 s _ rfl (by omega) hs).mono ?_; rintro e w1 ⟨rfl, hb1⟩
    go_wp2_with fail
    refine (HC.out _).mono ?_; rintro e w2 ⟨rfl, rfl⟩
    go_wp2_with fail
    go_ret2
    exact ⟨_, rfl, own_one _ _ _ hb1.size, hb1.alloc hb1.size _⟩
  | false =>
    have HC := Lib.hid (fun w => spec_IsBalanced s w (by omega))
    rw [hbal] at HC
    clear hbal
    go_enter Tryd.func22, Tryd.ntmps22
    go_wp2_with fail
    refine (spec_LibrarySourceI 5 4 s _ rfl (by omega) hs).mono ?_; rintro e w1 ⟨rfl, hb1⟩
    go_wp2_with fail
    refine (HC.out _).mono ?_; rintro e w2 ⟨rfl, rfl⟩
    go_wp2_with fail
    go_ret2
    exact ⟨_, rfl, own_one _ _ _ hb1.size, hb1.alloc hb1.size _⟩
set_option maxRecDepth 100000 in
theorem spec_LA6 (s : ByteArray) (w : World) (hs : s.size ≤ 12) :
    Calls Tryd.prog 22 #[.int .i64 6, .string s] w (OwnAns [formatOpt (arithmeticOf s)] true w) := by
  cases har : arithmeticOf s with
  | none =>
    have HC := Lib.hid (fun w => spec_ArithmeticOf s w)
    rw [har] at HC
    clear har
    go_enter Tryd.func22, Tryd.ntmps22
    go_wp2_with fail
    refine (spec_LibrarySourceI 6 5 s _ rfl (by omega) hs).mono ?_; rintro e w1 ⟨rfl, hb1⟩
    go_wp2_with fail
    refine (HC.out _).mono ?_; rintro e w2 ⟨rfl, rfl⟩
    simp only [pairOf, Option.getD_none, Option.isSome_none]
    go_wp2_with fail
    go_ret2
    exact ⟨_, rfl, own_one _ _ _ hb1.size, hb1.alloc hb1.size _⟩
  | some v =>
    have hv := arith_bd har
    have HC := Lib.hid (fun w => spec_ArithmeticOf s w)
    rw [har] at HC
    clear har
    go_enter Tryd.func22, Tryd.ntmps22
    go_wp2_with fail
    refine (spec_LibrarySourceI 6 5 s _ rfl (by omega) hs).mono ?_; rintro e w1 ⟨rfl, hb1⟩
    go_wp2_with fail
    refine (HC.out _).mono ?_; rintro e w2 ⟨rfl, rfl⟩
    simp only [pairOf, Option.getD_some, Option.isSome_some]
    go_wp2_with fail
    refine (spec_FormatInt v _ (by omega) (by omega)).mono ?_; rintro e w3 ⟨rfl, hb3⟩
    have hw : Below w.heap.size w w3 := hb1.trans (hb3.mono hb1.size)
    go_wp2_with fail
    go_ret2
    exact ⟨_, rfl, own_one _ _ _ hw.size, hw.alloc hw.size _⟩
end Go.Proofs.YtgkgoofapgabhaaDoor
