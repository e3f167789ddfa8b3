/- YS: the plain words, and how a value reads as one. No program. Program: the plain words, and how a value reads as one. No program. TR of both sid -/
import Derived.Test.YthbcamfejgghhaaGreatDoorQ05
import Derived.Test.YthbcamfejgghhaaGreatDoorQ06
import Derived.Test.YthbcamfejgghhaaGreatDoorQ09
set_option maxRecDepth 100000
set_option maxHeartbeats 8000000
set_option linter.unusedVariables false
set_option linter.unusedSimpArgs false
namespace Go.Proofs.YthbcamfejgghhaaGreatDoor
open Go.IntKind (i64)
open Go.RowKit
section
structure bO where
 name : ByteArray
 params : Int
 slots : List ByteArray
 body : ak
abbrev bO.bQ (c : bO) : Int := c.body.kind
abbrev bO.oW (c : bO) : Int := c.body.op
abbrev bO.aZ (c : bO) : Int := c.body.number
abbrev bO.bV (c : bO) : Int := c.body.line
abbrev bO.bU (c : bO) : ByteArray := c.body.text
abbrev bO.aT (c : bO) : List ak := c.body.kids
def bO.aG (c : bO) : List Dat := [.str c.name, .int i64 c.params, .row 1 c.slots.length (flat aR c.slots), .int i64 c.bQ, .int i64 c.oW, .int i64 c.aZ, .int i64 c.bV, .str c.bU, .row 6 c.aT.length (flat ak.aG c.aT)]
theorem bO.eD (c : bO) : c.aG.length = 9 := rfl
def bO.bI (c : bO) : Nat := c.name.size + (c.slots.length + sumOf ByteArray.size c.slots) + c.body.bI
def bO.Fits (c : bO) : Prop := (c.name.size ≤ 9223372036854775807) ∧ (∀ s ∈ c.slots, s.size ≤ 9223372036854775807) ∧ (c.body.Fits)
section
variable {w : World} {lo hi : Nat} {x : Value} {c : bO}
theorem bO.form (h : dZ w lo hi bO.aG x c) : ∃ nJ lI dY dD, x = .agg (fU c.name c.params nJ c.slots.length lI c.bQ c.oW c.aZ c.bV c.bU dY c.aT.length dD) ∧ aW w lo hi 1 aR (.slice nJ c.slots.length lI) c.slots ∧ c.slots.length ≤ lI ∧ lI ≤ maxLen ∧ aW w lo hi 6 ak.aG (.slice dY c.aT.length dD) c.aT ∧ c.aT.length ≤ dD ∧ dD ≤ maxLen := by
 obtain ⟨cs, rfl, h1⟩ := h
 unfold bO.aG at h1
 obtain ⟨v0, t0, rfl, a0, h1⟩ := h1.out
 obtain ⟨v1, t1, rfl, a1, h1⟩ := h1.out
 obtain ⟨v2, t2, rfl, a2, h1⟩ := h1.out
 obtain ⟨v3, t3, rfl, a3, h1⟩ := h1.out
 obtain ⟨v4, t4, rfl, a4, h1⟩ := h1.out
 obtain ⟨v5, t5, rfl, a5, h1⟩ := h1.out
 obtain ⟨v6, t6, rfl, a6, h1⟩ := h1.out
 obtain ⟨v7, t7, rfl, a7, h1⟩ := h1.out
 obtain ⟨v8, t8, rfl, a8, h1⟩ := h1.out
 obtain rfl := h1.jc
 obtain rfl := a0.oq
 obtain rfl := a1.iF
 obtain ⟨A2, c2, rfl, g2, k2⟩ := aW.shape (f := aR) a2
 obtain rfl := a3.iF
 obtain rfl := a4.iF
 obtain rfl := a5.iF
 obtain rfl := a6.iF
 obtain rfl := a7.oq
 obtain ⟨A8, c8, rfl, g8, k8⟩ := aW.shape (f := ak.aG) a8
 exact ⟨A2, c2, A8, c8, rfl, a2, g2, k2, a8, g8, k8⟩
theorem bO.mk_ {nJ : Option Addr} {lI : Nat} (MZ : aW w lo hi 1 aR (.slice nJ c.slots.length lI) c.slots) {dY : Option Addr} {dD : Nat} (qy : aW w lo hi 6 ak.aG (.slice dY c.aT.length dD) c.aT) : dZ w lo hi bO.aG (.agg (fU c.name c.params nJ c.slots.length lI c.bQ c.oW c.aZ c.bV c.bU dY c.aT.length dD)) c :=
 ⟨[_, _, _, _, _, _, _, _, _], rfl, .aN .mkStr (.aN .mkInt (.aN MZ (.aN .mkInt (.aN .mkInt (.aN .mkInt (.aN .mkInt (.aN .mkStr (.aN qy .eO))))))))⟩
theorem bO.rows {nJ : Option Addr} {lI : Nat} {dY : Option Addr} {dD : Nat} (h : dZ w lo hi bO.aG (.agg (fU c.name c.params nJ c.slots.length lI c.bQ c.oW c.aZ c.bV c.bU dY c.aT.length dD)) c) : aW w lo hi 1 aR (.slice nJ c.slots.length lI) c.slots ∧ aW w lo hi 6 ak.aG (.slice dY c.aT.length dD) c.aT := by
 obtain ⟨X0, y0, X1, y1, hx, l0, _, _, l1, _, _⟩ := bO.form h
 injection hx with hx
 have hx := congrArg Array.toList hx
 simp only [List.cons.injEq, Value.slice.injEq, and_true, true_and] at hx
 obtain ⟨⟨rfl, rfl⟩, ⟨rfl, rfl⟩⟩ := hx
 exact ⟨l0, l1⟩
theorem bO.at_ {A : Option Addr} {cap j : Nat} {l : List bO} (h : aW w lo hi 9 bO.aG (.slice A l.length cap) l) (hc : l[j]? = some c) :
 ∃ g off nJ lI dY dD, A = some ⟨g, off, none⟩ ∧ lo ≤ g ∧ g < hi ∧ c ∈ l ∧ dZ w lo hi bO.aG (.agg (fU c.name c.params nJ c.slots.length lI c.bQ c.oW c.aZ c.bV c.bU dY c.aT.length dD)) c ∧ w.cell? (aj g (off + j * 9)) = some (.string c.name) ∧ w.cell? (aj g (off + j * 9 + 1)) = some (.int i64 c.params) ∧ w.cell? (aj g (off + j * 9 + 2)) = some (.slice nJ c.slots.length lI) ∧ w.cell? (aj g (off + j * 9 + 3)) = some (.int i64 c.bQ) ∧ w.cell? (aj g (off + j * 9 + 4)) = some (.int i64 c.oW) ∧ w.cell? (aj g (off + j * 9 + 5)) = some (.int i64 c.aZ) ∧ w.cell? (aj g (off + j * 9 + 6)) = some (.int i64 c.bV) ∧ w.cell? (aj g (off + j * 9 + 7)) = some (.string c.bU) ∧ w.cell? (aj g (off + j * 9 + 8)) = some (.slice dY c.aT.length dD) := by
 obtain ⟨g, off, us, hA, h1, h2, h3, h4, h5⟩ := h.elem bO.eD hc
 obtain ⟨B0, m0, B1, m1, hx, l0, _, _, l1, _, _⟩ := bO.form (w := w) (lo := lo) (hi := hi) (c := c) (x := .agg us.toArray) ⟨us, rfl, h4⟩
 injection hx with hx
 obtain rfl : us = [_, _, _, _, _, _, _, _, _] := congrArg Array.toList hx
 exact ⟨g, off, B0, m0, B1, m1, hA, h1, h2, mG hc, bO.mk_ l0 l1, h5 0 _ rfl, h5 1 _ rfl, h5 2 _ rfl, h5 3 _ rfl, h5 4 _ rfl, h5 5 _ rfl, h5 6 _ rfl, h5 7 _ rfl, h5 8 _ rfl⟩
end
end
section
structure bg where
 au : List bO
 records : List ep
 globals : List ByteArray
 main : Int
def bg.aG (c : bg) : List Dat := [.row 9 c.au.length (flat bO.aG c.au), .row 3 c.records.length (flat ep.aG c.records), .row 1 c.globals.length (flat aR c.globals), .int i64 c.main]
theorem bg.eD (c : bg) : c.aG.length = 4 := rfl
def bg.bI (c : bg) : Nat := (c.au.length + sumOf bO.bI c.au) + (c.records.length + sumOf ep.bI c.records) + (c.globals.length + sumOf ByteArray.size c.globals)
def bg.Fits (c : bg) : Prop := (∀ y ∈ c.au, y.Fits) ∧ (∀ y ∈ c.records, y.Fits) ∧ (∀ s ∈ c.globals, s.size ≤ 9223372036854775807)
section
variable {w : World} {lo hi : Nat} {x : Value} {c : bg}
theorem bg.form (h : dZ w lo hi bg.aG x c) : ∃ dh bP bM bG bK bC, x = .agg (aP dh c.au.length bP bM c.records.length bG bK c.globals.length bC c.main) ∧ aW w lo hi 9 bO.aG (.slice dh c.au.length bP) c.au ∧ c.au.length ≤ bP ∧ bP ≤ maxLen ∧ aW w lo hi 3 ep.aG (.slice bM c.records.length bG) c.records ∧ c.records.length ≤ bG ∧ bG ≤ maxLen ∧ aW w lo hi 1 aR (.slice bK c.globals.length bC) c.globals ∧ c.globals.length ≤ bC ∧ bC ≤ maxLen := by
 obtain ⟨cs, rfl, h1⟩ := h
 unfold bg.aG at h1
 obtain ⟨v0, t0, rfl, a0, h1⟩ := h1.out
 obtain ⟨v1, t1, rfl, a1, h1⟩ := h1.out
 obtain ⟨v2, t2, rfl, a2, h1⟩ := h1.out
 obtain ⟨v3, t3, rfl, a3, h1⟩ := h1.out
 obtain rfl := h1.jc
 obtain ⟨A0, c0, rfl, g0, k0⟩ := aW.shape (f := bO.aG) a0
 obtain ⟨A1, c1, rfl, g1, k1⟩ := aW.shape (f := ep.aG) a1
 obtain ⟨A2, c2, rfl, g2, k2⟩ := aW.shape (f := aR) a2
 obtain rfl := a3.iF
 exact ⟨A0, c0, A1, c1, A2, c2, rfl, a0, g0, k0, a1, g1, k1, a2, g2, k2⟩
theorem bg.mk_ {dh : Option Addr} {bP : Nat} (rW : aW w lo hi 9 bO.aG (.slice dh c.au.length bP) c.au) {bM : Option Addr} {bG : Nat} (ql : aW w lo hi 3 ep.aG (.slice bM c.records.length bG) c.records) {bK : Option Addr} {bC : Nat} (qm : aW w lo hi 1 aR (.slice bK c.globals.length bC) c.globals) : dZ w lo hi bg.aG (.agg (aP dh c.au.length bP bM c.records.length bG bK c.globals.length bC c.main)) c :=
 ⟨[_, _, _, _], rfl, .aN rW (.aN ql (.aN qm (.aN .mkInt .eO)))⟩
theorem bg.rows {dh : Option Addr} {bP : Nat} {bM : Option Addr} {bG : Nat} {bK : Option Addr} {bC : Nat} (h : dZ w lo hi bg.aG (.agg (aP dh c.au.length bP bM c.records.length bG bK c.globals.length bC c.main)) c) : aW w lo hi 9 bO.aG (.slice dh c.au.length bP) c.au ∧ aW w lo hi 3 ep.aG (.slice bM c.records.length bG) c.records ∧ aW w lo hi 1 aR (.slice bK c.globals.length bC) c.globals := by
 obtain ⟨X0, y0, X1, y1, X2, y2, hx, l0, _, _, l1, _, _, l2, _, _⟩ := bg.form h
 exact Gj
theorem bg.at_ {A : Option Addr} {cap j : Nat} {l : List bg} (h : aW w lo hi 4 bg.aG (.slice A l.length cap) l) (hc : l[j]? = some c) :
 ∃ g off dh bP bM bG bK bC, A = some ⟨g, off, none⟩ ∧ lo ≤ g ∧ g < hi ∧ c ∈ l ∧ dZ w lo hi bg.aG (.agg (aP dh c.au.length bP bM c.records.length bG bK c.globals.length bC c.main)) c ∧ w.cell? (aj g (off + j * 4)) = some (.slice dh c.au.length bP) ∧ w.cell? (aj g (off + j * 4 + 1)) = some (.slice bM c.records.length bG) ∧ w.cell? (aj g (off + j * 4 + 2)) = some (.slice bK c.globals.length bC) ∧ w.cell? (aj g (off + j * 4 + 3)) = some (.int i64 c.main) := by
 obtain ⟨g, off, us, hA, h1, h2, h3, h4, h5⟩ := h.elem bg.eD hc
 obtain ⟨B0, m0, B1, m1, B2, m2, hx, l0, _, _, l1, _, _, l2, _, _⟩ := bg.form (w := w) (lo := lo) (hi := hi) (c := c) (x := .agg us.toArray) ⟨us, rfl, h4⟩
 injection hx with hx
 obtain rfl : us = [_, _, _, _] := congrArg Array.toList hx
 exact ⟨g, off, B0, m0, B1, m1, B2, m2, hA, h1, h2, mG hc, bg.mk_ l0 l1 l2, h5 0 _ rfl, h5 1 _ rfl, h5 2 _ rfl, h5 3 _ rfl⟩
end
end
def aeR (n : Int) : Value := if n.natAbs ≤ 999999999999 then .tuple (aL n 0) else .tuple (aL 0 203)
theorem su (x : Int) (w : World) (h0 : -1000000000000000000 ≤ x) (h1 : x ≤ 1000000000000000000) :
 Calls Tryz.prog 228 (dI x) w fun e w' => e = .returned (.int i64 (x.natAbs : Int)) ∧ w = w' := by
 by_cases hx : x < 0
 rotate_left
 iterate 2 focus
  go_in
  go_wp2
  go_ret
  exact ⟨pU ah, rfl⟩
theorem Ao (x y : Nat) (hx : x < 18446744073709551616) (hy : y < 18446744073709551616) (w : World) :
 Calls Tryz.prog 178 #[.int .u64 x, .int .u64 y] w fun e w' => e = .returned (.tuple #[.int .u64 ((x * y / 18446744073709551616 : Nat) : Int), .int .u64 ((x * y % 18446744073709551616 : Nat) : Int)]) ∧ w = w' := by
 obtain ⟨bd, bt, bw, hhi⟩ := Lib.mul64_hi x y hx hy
 have ba := Lib.half_mul_le (a := x / 4294967296) (b := y / 4294967296) ah ah
 have bb := Lib.half_mul_le (a := x / 4294967296) (b := y % 4294967296) ah ah
 have bc := Lib.half_mul_le (a := x % 4294967296) (b := y / 4294967296) ah ah
 have ba' : x / 4294967296 * (y / 4294967296) < 18446744073709551616 := ah
 have bb' : x / 4294967296 * (y % 4294967296) < 18446744073709551616 := ah
 have bc' : x % 4294967296 * (y / 4294967296) < 18446744073709551616 := ah
 have bh1 : x / 4294967296 * (y / 4294967296) + (x / 4294967296 * (y % 4294967296) + x % 4294967296 * (y % 4294967296) / 4294967296) / 4294967296 < 18446744073709551616 := ah
 have bh : x / 4294967296 * (y / 4294967296) + (x / 4294967296 * (y % 4294967296) + x % 4294967296 * (y % 4294967296) / 4294967296) / 4294967296 + ((x / 4294967296 * (y % 4294967296) + x % 4294967296 * (y % 4294967296) / 4294967296) % 4294967296 + x % 4294967296 * (y / 4294967296)) / 4294967296 < 18446744073709551616 := ah
 go_in
 go_wp2
 simp only [Mul64.maskN x hx, Mul64.maskN y hy, Mul64.divN, Mul64.mulN, Mul64.addN, Mul64.wrapN _ bd, Mul64.wrapN _ bb', Mul64.wrapN _ bt, Mul64.maskN _ bt, Mul64.wrapN _ bc', Mul64.wrapN _ bw, Mul64.wrapN _ ba', Mul64.wrapN _ bh1, Mul64.wrapN _ bh, Mul64.wrapM (x * y)]
 rw [hhi]
 go_ret2
 exact ⟨rfl, rfl⟩
def pO (a b : Int) : Option Int := if (a * b).natAbs ≤ 999999999999 then some (a * b) else none
theorem zn (a b : Int) (w : World) (ha : a.natAbs ≤ 999999999999) (hb : b.natAbs ≤ 999999999999) :
 Calls Tryz.prog 213 (aL a b) w fun e w' => e = .returned (iZ (pO a b)) ∧ w = w' := by
 have a0 : (a.natAbs : Int) ≤ 999999999999 := ah
 have b0 : (b.natAbs : Int) ≤ 999999999999 := ah
 have a1 : (0 : Int) ≤ (a.natAbs : Int) := ah
 have b1 : (0 : Int) ≤ (b.natAbs : Int) := ah
 have hmul := Int.natAbs_mul a b
 by_cases hq : (a * b).natAbs ≤ 999999999999
 ·have n0 : -999999999999 ≤ a * b := by omega
  have n1 : a * b ≤ 999999999999 := ah
  have HR : Hid (pO a b = some (a * b)) := by show pO a b = _; rw [pO, if_pos hq]
  have q1 : a.natAbs * b.natAbs / 18446744073709551616 = 0 := by rw [← hmul]; omega
  have q2 : a.natAbs * b.natAbs % 18446744073709551616 ≤ 999999999999 := by rw [← hmul]; omega
  clear hmul
  go_in
  go_wp2_with fail
  refine (su a _ ah ah).mono ?_; rintro e w' ⟨rfl, rfl⟩
  go_wp2_with fail
  refine (su b _ ah ah).mono ?_; rintro e w' ⟨rfl, rfl⟩
  go_wp2_with fail
  refine (Ao _ _ ah ah _).mono ?_
  rw [q1]
  generalize a.natAbs * b.natAbs % 18446744073709551616 = lo at *
  clear q1
  rintro e w' ⟨rfl, rfl⟩
  go_wp2_with fail
  go_ret2
  exact ⟨Fh HR.out rfl, rfl⟩
 have HR : Hid (pO a b = none) := by show pO a b = _; rw [pO, if_neg hq]
 by_cases hl : a.natAbs * b.natAbs < 18446744073709551616
 ·have q1 : a.natAbs * b.natAbs / 18446744073709551616 = 0 := by omega
  have q2 : 999999999999 < a.natAbs * b.natAbs % 18446744073709551616 := by rw [← hmul] at hl ⊢; omega
  clear hmul hq hl
  go_in
  go_wp2_with fail
  refine (su a _ ah ah).mono ?_; rintro e w' ⟨rfl, rfl⟩
  go_wp2_with fail
  refine (su b _ ah ah).mono ?_; rintro e w' ⟨rfl, rfl⟩
  go_wp2_with fail
  refine (Ao _ _ ah ah _).mono ?_
  rw [q1]
  generalize a.natAbs * b.natAbs % 18446744073709551616 = lo at *
  clear q1
  rintro e w' ⟨rfl, rfl⟩
  go_wp2_with fail
  go_ret2
  exact ⟨oo HR.out, rfl⟩
 have q1 : 0 < a.natAbs * b.natAbs / 18446744073709551616 := ah
 clear hmul hq hl
 go_in
 go_wp2_with fail
 refine (su a _ ah ah).mono ?_; rintro e w' ⟨rfl, rfl⟩
 go_wp2_with fail
 refine (su b _ ah ah).mono ?_; rintro e w' ⟨rfl, rfl⟩
 go_wp2_with fail
 refine (Ao _ _ ah ah _).mono ?_
 generalize a.natAbs * b.natAbs % 18446744073709551616 = lo at *
 generalize a.natAbs * b.natAbs / 18446744073709551616 = hi at *
 have hne : ((hi : Int) != 0) = true := bne_iff_ne.2 ah
 rintro e w' ⟨rfl, rfl⟩
 go_wp2_with fail
 go_ret2
 exact ⟨oo HR.out, rfl⟩
theorem RS (x : BitVec 64) : IntKind.u64.wrap x.toInt = (x.toNat : Int) := by
 rw [IntKind.wrap_u64, BitVec.toInt_eq_toNat_cond]
 have := x.isLt
 split <;> omega
theorem XH (b : Nat) (h : b ≤ 63) : IntKind.u64.wrap (2 ^ b) = ((BitVec.twoPow 64 b).toNat : Int) := by
 have h1 : (2 : Nat) ^ b < 2 ^ 64 := Nat.pow_lt_pow_right aA ah
 rw [BitVec.toNat_twoPow, Nat.mod_eq_of_lt h1, IntKind.wrap_u64]
 have e : ((2 : Int) ^ b) = ((2 ^ b : Nat) : Int) := av
 rw [e]
 generalize (2 : Nat) ^ b = m at *
 omega
theorem wD (x : BitVec 64) : BitVec.ofInt 64 (x.toNat : Int) = x := by
 apply BitVec.eq_of_toNat_eq
 rw [BitVec.ofInt_natCast, BitVec.toNat_ofNat]
 exact Nat.mod_eq_of_lt x.isLt
theorem Qp (x y : BitVec 64) : bits .or .u64 (x.toNat : Int) (y.toNat : Int) = ((x ||| y).toNat : Int) := by
 have e : IntKind.u64.wrap ((x ||| y).toNat : Int) = ((x ||| y).toNat : Int) := by
  rw [IntKind.wrap_u64]
  have := (x ||| y).isLt
  omega
 rw [← e]
 simp only [bits, IntKind.bits]
 rw [wD, wD]
 rfl
theorem M3 (x y : BitVec 64) : bits .and .u64 (x.toNat : Int) (y.toNat : Int) = ((x &&& y).toNat : Int) := by
 have e : IntKind.u64.wrap ((x &&& y).toNat : Int) = ((x &&& y).toNat : Int) := by
  rw [IntKind.wrap_u64]
  have := (x &&& y).isLt
  omega
 rw [← e]
 simp only [bits, IntKind.bits]
 rw [wD, wD]
 rfl
theorem VT (v : BitVec 64) : wrap64 (v.toNat : Int) = v.toInt := by
 have := wm v
 rw [IntKind.wrap_i64] at this
 simpa only [wrap64] using this
theorem Pn (x : BitVec 64) (b : Nat) (h : b ≤ 63) : wrap64 (bits .or .u64 (IntKind.u64.wrap x.toInt) (IntKind.u64.wrap (2 ^ b))) = (x ||| BitVec.twoPow 64 b).toInt := by
 rw [RS, XH b h, Qp, VT]
theorem has_eq (x : BitVec 64) (b : Nat) (h : b ≤ 63) : (bits .and .u64 (IntKind.u64.wrap x.toInt / 2 ^ b) 1 == 1) = x.getLsbD b := by
 rw [RS]
 have e : (x.toNat : Int) / 2 ^ b = ((x >>> b).toNat : Int) := by
  rw [BitVec.toNat_ushiftRight, Nat.shiftRight_eq_div_pow]
  simp
 have e1 : (1 : Int) = ((1#64).toNat : Int) := rfl
 rw [e, e1, M3]
 have h3 : (x >>> b &&& 1#64).toNat = (x.getLsbD b).toNat := by
  rw [BitVec.toNat_and, BitVec.toNat_ushiftRight]
  show (x.toNat >>> b) &&& 1 = _
  rw [Nat.and_one_is_mod, BitVec.getLsbD, Nat.testBit, Nat.one_and_eq_mod_two]
  have := Nat.mod_two_eq_zero_or_one (x.toNat >>> b)
  rcases this with h | h <;> simp [h]
 rw [h3]
 cases x.getLsbD b <;> rfl
theorem EC (c : cB) (b : Nat) (w : World) (hb : b ≤ 127) :
 Calls Tryz.prog 182 #[c.val, .int .u8 b] w fun e w' => e = .returned (c.add b).val ∧ Below w.heap.size w w' := by
 by_cases h : b ≤ 63
 ·have HE := lH (Pn c.lo b h)
  have HA : Hid ((c.add b).val = .agg (aL ((c.lo ||| BitVec.twoPow 64 b).toInt) c.hi.toInt)) := lH (by rw [cB.add, if_pos h]; rfl)
  rw [HA.out]
  unfold cB.val
  go_in
  go_wp2_with fail
  refine bodyPost_ret (v := .agg (aL (wrap64 (bits .or .u64 (IntKind.u64.wrap c.lo.toInt) (IntKind.u64.wrap (2 ^ b)))) c.hi.toInt)) ?_ rfl ⟨?_, (bA _ _).alloc av _⟩
  ·simp [results, Tryz.results182, go_sem]
  rw [HE.out]
 obtain ⟨d, rfl⟩ : ∃ d : Nat, b = d + 64 := ⟨b - 64, ah⟩
 have HE := lH (Pn c.hi d ah)
 have HA : Hid ((c.add (d + 64)).val = .agg (aL c.lo.toInt ((c.hi ||| BitVec.twoPow 64 d).toInt))) := lH (by rw [cB.add, if_neg h, Nat.add_sub_cancel]; rfl)
 rw [HA.out]
 unfold cB.val
 go_in
 go_wp2_with fail
 refine bodyPost_ret (v := .agg (aL c.lo.toInt (wrap64 (bits .or .u64 (IntKind.u64.wrap c.hi.toInt) (IntKind.u64.wrap (2 ^ d)))))) ?_ rfl ⟨?_, (bA _ _).alloc av _⟩
 ·simp [results, Tryz.results182, go_sem]
 rw [HE.out]
theorem Hl (c : cB) (b : Nat) (w : World) (hb : b ≤ 127) :
 Calls Tryz.prog 191 #[c.val, .int .u8 b] w fun e w' => e = .returned (.bool (c.has b)) ∧ Below w.heap.size w w' := by
 by_cases h : b ≤ 63
 have HE : Hid ((bits .and .u64 (IntKind.u64.wrap c.lo.toInt / 2 ^ b) 1 == 1) = c.has b) := lH (by rw [has_eq _ b h, cB.has, if_pos h])
 unfold cB.val
 rotate_left
 obtain ⟨d, rfl⟩ : ∃ d : Nat, b = d + 64 := ⟨b - 64, ah⟩
 have HE : Hid ((bits .and .u64 (IntKind.u64.wrap c.hi.toInt / 2 ^ d) 1 == 1) = c.has (d + 64)) := lH (by rw [has_eq _ d ah, cB.has, if_neg h, Nat.add_sub_cancel])
 unfold cB.val
 iterate 2 focus
  go_in
  go_wp2_with fail
  go_ret
  exact ⟨bD HE.out, bA _ _⟩
end Go.Proofs.YthbcamfejgghhaaGreatDoor
