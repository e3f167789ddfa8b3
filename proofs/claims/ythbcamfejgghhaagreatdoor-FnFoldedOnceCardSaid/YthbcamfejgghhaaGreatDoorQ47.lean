/- Values of literals in the program: texts, numbers, sets. Va and sets of the program. Sets out of literals, sums and WK of the program. -/
import Derived.Test.YthbcamfejgghhaaGreatDoorQSq
import Derived.Test.YthbcamfejgghhaaGreatDoorQ29
import Derived.Test.YthbcamfejgghhaaGreatDoorQ32
set_option maxRecDepth 100000
set_option maxHeartbeats 8000000
set_option linter.unusedVariables false
set_option linter.unusedSimpArgs false
namespace Go.Proofs.YthbcamfejgghhaaGreatDoor
open Go.IntKind (i64)
open Go.RowKit
theorem jN (v : aY) (hv : v.Ok) (w : World) (ht : jw w) : Calls Tryz.prog 180 #[v.val] w (Gives (rU v.toText) w) := by
 cases v with
 | null =>
   exact Gp
 | text s =>
   exact Gp
 | int n =>
   have h0 : -9223372036854775808 ≤ n := by have := hv.1; omega
   have h1 : n ≤ 9223372036854775807 := by have := hv.2; omega
   unfold aY.val
   obtain ⟨b0, hb0⟩ := dQ w 141 (aD 1 n 0 ⟨#[]⟩ 0 0)
   go_in
   go_wp2_with fail
   refine (qI n _ h0 h1 (ht.later hb0)).mono ?_; rintro e w1 ⟨rfl, hb⟩
   have hb1 := hb0.trans (hb.mono av)
   exact CW
 | set c =>
   unfold aY.val
   obtain ⟨b0, hb0⟩ := dQ w 141 (aD 3 0 0 ⟨#[]⟩ c.lo.toInt c.hi.toInt)
   have hsz := rM c
   by_cases h : (dN c).size ≤ 120
   have HR : Hid ((aY.set c).toText = some (dN c)) := by show _ = _; simp only [aY.toText]; rw [if_pos h]
   rotate_left
   have HR : Hid ((aY.set c).toText = none) := by show _ = _; simp only [aY.toText]; rw [if_neg h]
   iterate 2 focus
    go_in
    go_wp2_with fail
    refine (xk c _).mono ?_; rintro e w1 ⟨rfl, hb⟩
    have hb1 := hb0.trans (hb.mono av)
    go_wp2_with fail
    go_ret2
    exact ⟨by rw [HR.out]; rfl, hb1⟩
theorem qK (v : aY) (hv : v.Ok) (w : World) (ht : jw w) : Calls Tryz.prog 144 #[v.val] w (Gives (iZ v.toInt) w) := by
 cases v with
 | int n =>
   exact Gp
 | null =>
   have HC : Hid (∀ W : World, Below w.heap.size w W → Calls Tryz.prog 180 #[aY.null.val] W (Gives (rU aY.null.toText) W)) := fun W hW => jN aY.null hv W (ht.later hW)
   unfold aY.val at HC ⊢
   have hb0 : Below w.heap.size w (w.alloc (.cells (aD 0 0 0 aC 0 0) 141)) := bA _ _
   go_in
   go_wp2_with fail
   refine (HC.out _ hb0).mono ?_; rintro e w1 ⟨rfl, hb⟩
   have hb1 := hb0.trans (hb.mono av)
   unfold rU
   exact CW
 | text s =>
   have HC : Hid (∀ W : World, Below w.heap.size w W → Calls Tryz.prog 180 #[(aY.text s).val] W (Gives (rU (aY.text s).toText) W)) := fun W hW => jN (aY.text s) hv W (ht.later hW)
   have hsz : s.size ≤ 120 := hv
   unfold aY.val at HC ⊢
   have hb0 : Below w.heap.size w (w.alloc (.cells (aD 2 0 0 s 0 0) 141)) := bA _ _
   go_in
   go_wp2_with fail
   refine (HC.out _ hb0).mono ?_; rintro e w1 ⟨rfl, hb⟩
   have hb1 := hb0.trans (hb.mono av)
   unfold rU
   go_wp2_with fail
   refine (qp s _ ah).mono ?_; rintro e w2 ⟨rfl, rfl⟩
   unfold iZ
   exact CW
 | set c =>
   have hsz := rM c
   by_cases h : (dN c).size ≤ 120
   ·have HT : Hid ((aY.set c).toText = some (dN c)) := by show _ = _; simp only [aY.toText]; rw [if_pos h]
    have HI : Hid ((aY.set c).toInt = eB (dN c)) := by show _ = _; simp only [aY.toInt]; rw [if_pos h]
    have HC : Hid (∀ W : World, Below w.heap.size w W → Calls Tryz.prog 180 #[(aY.set c).val] W (Gives (rU (aY.set c).toText) W)) := fun W hW => jN (aY.set c) hv W (ht.later hW)
    rw [HT.out] at HC
    unfold aY.val at HC ⊢
    have hb0 : Below w.heap.size w (w.alloc (.cells (aD 3 0 0 aC c.lo.toInt c.hi.toInt) 141)) := bA _ _
    go_in
    go_wp2_with fail
    refine (HC.out _ hb0).mono ?_; rintro e w1 ⟨rfl, hb⟩
    have hb1 := hb0.trans (hb.mono av)
    unfold rU
    go_wp2_with fail
    refine (qp (dN c) _ ah).mono ?_; rintro e w2 ⟨rfl, rfl⟩
    unfold iZ
    go_wp2_with fail
    go_ret2
    exact ⟨by rw [HI.out]; rfl, hb1⟩
   have HT : Hid ((aY.set c).toText = none) := by show _ = _; simp only [aY.toText]; rw [if_neg h]
   have HI : Hid ((aY.set c).toInt = none) := by show _ = _; simp only [aY.toInt]; rw [if_neg h]
   have HC : Hid (∀ W : World, Below w.heap.size w W → Calls Tryz.prog 180 #[(aY.set c).val] W (Gives (rU (aY.set c).toText) W)) := fun W hW => jN (aY.set c) hv W (ht.later hW)
   rw [HT.out] at HC
   unfold aY.val at HC ⊢
   have hb0 : Below w.heap.size w (w.alloc (.cells (aD 3 0 0 aC c.lo.toInt c.hi.toInt) 141)) := bA _ _
   go_in
   go_wp2_with fail
   refine (HC.out _ hb0).mono ?_; rintro e w1 ⟨rfl, hb⟩
   have hb1 := hb0.trans (hb.mono av)
   unfold rU
   go_wp2_with fail
   go_ret2
   exact ⟨by rw [HI.out]; rfl, hb1⟩
theorem Bo (u v : BitVec 64) : bits .andNot i64 u.toInt v.toInt = (u &&& ~~~ v).toInt := by
 rw [← wm (u &&& ~~~ v)]
 exact yI
theorem Bp (v : BitVec 64) : bits .xor i64 (-1) v.toInt = (~~~ v).toInt := by
 have e : BitVec.ofInt 64 (-1) ^^^ v = ~~~ v := by rw [show BitVec.ofInt 64 (-1) = BitVec.allOnes 64 from rfl, BitVec.allOnes_xor]
 rw [← e, ← wm (BitVec.ofInt 64 (-1) ^^^ v)]
 exact yI
theorem BF (c d : cB) (w : World) : Calls Tryz.prog 188 #[c.val, d.val] w (Gives (c.or_ d).val w) := by
 unfold cB.val
 obtain ⟨bc, bd, br, B0⟩ := kN w 110 (aL c.lo.toInt c.hi.toInt) 110 (aL d.lo.toInt d.hi.toInt) 110 (aL 0 0)
 go_in
 go_wp2_with fail
 refine bodyPost_ret (v := .agg (aL (bits .or i64 c.lo.toInt d.lo.toInt) (bits .or i64 c.hi.toInt d.hi.toInt))) ?_ rfl ⟨?_, ?_⟩
 ·simp [results, Tryz.results188, go_sem]
 ·rw [sW, sW]; rfl
 exact Gc
theorem wT (c d : cB) (w : World) : Calls Tryz.prog 190 #[c.val, d.val] w (Gives (c.Qj d).val w) := by
 unfold cB.val
 obtain ⟨bc, bd, br, B0⟩ := kN w 110 (aL c.lo.toInt c.hi.toInt) 110 (aL d.lo.toInt d.hi.toInt) 110 (aL 0 0)
 go_in
 go_wp2_with fail
 refine bodyPost_ret (v := .agg (aL (bits .and i64 c.lo.toInt d.lo.toInt) (bits .and i64 c.hi.toInt d.hi.toInt))) ?_ rfl ⟨?_, ?_⟩
 ·simp [results, Tryz.results190, go_sem]
 ·rw [uI, uI]; rfl
 exact Gc
theorem yj (c d : cB) (w : World) : Calls Tryz.prog 189 #[c.val, d.val] w (Gives (c.Qk d).val w) := by
 unfold cB.val
 obtain ⟨bc, bd, br, B0⟩ := kN w 110 (aL c.lo.toInt c.hi.toInt) 110 (aL d.lo.toInt d.hi.toInt) 110 (aL 0 0)
 go_in
 go_wp2_with fail
 refine bodyPost_ret (v := .agg (aL (bits .andNot i64 c.lo.toInt d.lo.toInt) (bits .andNot i64 c.hi.toInt d.hi.toInt))) ?_ rfl ⟨?_, ?_⟩
 ·simp [results, Tryz.results189, go_sem]
 ·rw [Bo, Bo]; rfl
 exact Gc
theorem wU (c : cB) (w : World) : Calls Tryz.prog 143 #[c.val] w (Gives (c.Ql).val w) := by
 unfold cB.val
 obtain ⟨bc, br, B0⟩ := kK w 110 (aL c.lo.toInt c.hi.toInt) 110 (aL 0 0)
 go_in
 go_wp2_with fail
 refine bodyPost_ret (v := .agg (aL (bits .xor i64 (-1) c.lo.toInt) (bits .xor i64 (-1) c.hi.toInt))) ?_ rfl ⟨?_, ?_⟩
 ·simp [results, Tryz.results143, go_sem]
 ·rw [Bp, Bp]; rfl
 repeat' first | exact B0 | exact (((bR w.heap.size w).alloc (nR _) _).alloc dn _) | refine Below.setCell ?_ BN _ | refine Below.alloc ?_ BN _
theorem AY (a b : ByteArray) (w : World) (ha : a.size ≤ 120) (hb : b.size ≤ 120) :
 Calls Tryz.prog 186 #[.string a, b] w fun e w' => e = .returned (.tuple #[.string (if a.size + b.size ≤ 120 then a ++ b else aC), .bool (decide (a.size + b.size ≤ 120))]) ∧ w = w' := by
 by_cases h : a.size + b.size ≤ 120
 rw [if_pos h, dT h]
 rotate_left
 rw [if_neg h, dF h]
 iterate 2 focus
  go_in
  go_wp2_with fail
  go_ret2
  exact ⟨rfl, rfl⟩
theorem zG (a b : ByteArray) (w : World) (ha : a.size ≤ 1048576) (hb : b.size ≤ 1048576) :
 Calls Tryz.prog 187 #[.string a, b] w fun e w' => e = .returned (.int i64 (TH a b)) ∧ Below w.heap.size w w' := by
 go_in
 go_wp2_with fail
 refine (Tryz.strings_Compare _ _ _).mono ?_; rintro e w' ⟨rfl, rfl⟩
 go_wp2_with fail
 go_ret
 exact ⟨rfl, bR _ _⟩
theorem QJ (a b : Int) (w : World) : Calls Tryz.prog 185 (aL a b) w fun e w' => e = .returned (.int i64 (xg a b)) ∧ w = w' := by
 by_cases h1 : a < b
 have HR : Hid (xg a b = -1) := lH (by rw [xg, if_pos h1])
 rotate_left
 by_cases h2 : b < a
 have HR : Hid (xg a b = 1) := lH (by rw [xg, if_neg h1, if_pos h2])
 rotate_left
 have HR : Hid (xg a b = 0) := lH (by rw [xg, if_neg h1, if_neg h2])
 iterate 3 focus
  go_in
  go_wp2_with fail
  go_ret
  exact ⟨pU HR.out.symm, rfl⟩
theorem En (k s : Int) (w : World) (h0 : 0 ≤ k) (h1 : k ≤ 5) : Calls Tryz.prog 184 (aL k s) w fun e w' => e = .returned (.bool (uS k s)) ∧ w = w' := by
 obtain rfl | rfl | rfl | rfl | rfl | rfl : k = 0 ∨ k = 1 ∨ k = 2 ∨ k = 3 ∨ k = 4 ∨ k = 5 := by omega
 all_goals
  go_in
  go_wp2_with fail
  go_ret
  refine ⟨bD ?_, rfl⟩
  rw [Bool.eq_iff_iff]
  simp [uS]
theorem PE (s : ByteArray) : Ld (setOf s) = .tuple #[.agg (aL ((bH s).lo.toInt) ((bH s).hi.toInt)), .bool (jl s)] := by
 unfold Ld setOf
 cases h : jl s with
 | true => rfl
 | false => rw [xD h]; rfl
def numOf (r : aY × Int) : Int := match r.1 with | .int n => n | _ => 0
def aeY (r : aY × Int) : Value := .tuple (aL (numOf r) r.2)
theorem yQ {n : Int} (h : n.natAbs ≤ 999999999999) : mQ n = (.int n, 0) := by rw [mQ, if_pos ah]
theorem zH {a b : Int} (h : ¬ 999999999999 < a.natAbs * b.natAbs) : (a * b).natAbs ≤ 999999999999 := by rw [Int.natAbs_mul]; omega
theorem PG {a b : Int} (h : 999999999999 < a.natAbs * b.natAbs) : ¬ (a * b).natAbs ≤ 999999999999 := by rw [Int.natAbs_mul]; omega
def YH (r : Option Int) : aY × Int := match r with | none => (.null, 203) | some n => (.int n, 0)
theorem WM {a : Int} {bn : Nat} (c1 : ¬ ((bn : Int) < 0 ∧ a = 0)) (c2 : ¬ (a = 1 ∨ a = -1)) (c3 : ¬ (bn : Int) < 0) (c4 : ¬ (a = 0 ∧ 0 < (bn : Int))) : og a (bn : Int) = YH (wO a bn 1) := by rw [og, if_neg c1, if_neg c2, if_neg c3, if_neg c4, Int.toNat_natCast]; rfl
theorem US (b : Int) : b % 2 = 0 ↔ b.tmod 2 = 0 := Int.dvd_iff_emod_eq_zero.symm.trans Int.dvd_iff_tmod_eq_zero
theorem SS {a n : Int} {k : Nat} (h : ¬ 999999999999 < n.natAbs * a.natAbs) : wO a (k + 1) n = wO a k (n * a) := by rw [wO, if_neg h]
theorem UM {a n : Int} {k : Nat} (h : 999999999999 < n.natAbs * a.natAbs) : wO a (k + 1) n = none := by rw [wO, if_pos h]
theorem vF (v : aY) (hv : v.Ok) (w : World) (ht : jw w) : Calls Tryz.prog 142 #[v.val] w (Gives (Ld v.mO) w) := by
 cases v with
 | set c =>
   unfold aY.val
   obtain ⟨bp, br, B0⟩ := kK w 141 (aD 3 0 0 ⟨#[]⟩ c.lo.toInt c.hi.toInt) 110 (aL 0 0)
   go_in
   go_wp2_with fail
   refine bodyPost_ret (v := .tuple #[.agg (aL c.lo.toInt c.hi.toInt), .bool true]) ?_ rfl ⟨?_, ?_⟩
   ·simp [results, Tryz.results142, go_sem]
   ·rfl
   exact ji
 | null =>
   have HC : Hid (∀ W : World, Below w.heap.size w W → Calls Tryz.prog 180 #[(aY.null).val] W (Gives (.tuple #[.string aC, .bool false]) W)) := fun W hW => jN (.null) hv W (ht.later hW)
   unfold aY.val at HC ⊢
   obtain ⟨bp, br, B0⟩ := kK w 141 (aD 0 0 0 ⟨#[]⟩ 0 0) 110 (aL 0 0)
   go_in
   go_wp2_with fail
   refine (HC.out _ B0).mono ?_; rintro e w1 ⟨rfl, hb⟩
   replace hb := lF B0 bp br hb
   clear bp br
   obtain ⟨B1, bp, cbp, lbp, fbp, br, cbr, lbr, fbr⟩ := hb
   go_wp2_with fail
   refine bodyPost_ret (v := .tuple #[.agg (aL 0 0), .bool false]) ?_ rfl ⟨?_, ?_⟩
   ·simp [results, Tryz.results142, go_sem, cbr]
   ·rfl
   exact ji
 | int n =>
   have HC : Hid (∀ W : World, Below w.heap.size w W → Calls Tryz.prog 180 #[(aY.int n).val] W (Gives (.tuple #[.string (dz n), .bool true]) W)) := fun W hW => jN (.int n) hv W (ht.later hW)
   have hsz : (dz n).size ≤ 1048576 := by have := jY n (by have := hv.1; omega) (by have := hv.2; omega); omega
   have HN : Hid (∀ W : World, Calls Tryz.prog 147 #[.string (dz n)] W fun e w' => e = .returned (.tuple #[.agg (aL ((bH (dz n)).lo.toInt) ((bH (dz n)).hi.toInt)), .bool (jl (dz n))]) ∧ Below W.heap.size W w') := fun W => tV (dz n) W hsz
   unfold aY.val at HC ⊢
   obtain ⟨bp, br, B0⟩ := kK w 141 (aD 1 n 0 ⟨#[]⟩ 0 0) 110 (aL 0 0)
   go_in
   go_wp2_with fail
   refine (HC.out _ B0).mono ?_; rintro e w1 ⟨rfl, hb⟩
   replace hb := lF B0 bp br hb
   clear bp br
   obtain ⟨B1, bp, cbp, lbp, fbp, br, cbr, lbr, fbr⟩ := hb
   go_wp2_with fail
   refine (HN.out _).mono ?_; rintro e w2 ⟨rfl, hb⟩
   replace hb := lF B1 bp br hb
   try clear cbp lbp fbp cbr lbr fbr
   clear bp br
   obtain ⟨B2, bp, cbp, lbp, fbp, br, cbr, lbr, fbr⟩ := hb
   go_wp2_with fail
   have hF := (((br.aF 0 (.int i64 (bH (dz n)).lo.toInt)).aF 1 (.int i64 (bH (dz n)).hi.toInt)).alloc (.cells (aL ((bH (dz n)).lo.toInt) ((bH (dz n)).hi.toInt)) 110))
   have cF := hF.cell
   refine bodyPost_ret (v := .tuple #[.agg (aL ((bH (dz n)).lo.toInt) ((bH (dz n)).hi.toInt)), .bool (jl (dz n))]) ?_ rfl ⟨?_, ?_⟩
   ·simp [results, Tryz.results142, go_sem, cF]
   ·rw [show (aY.int n).mO = setOf (dz n) from rfl, PE]
   exact ji
 | text s =>
   have HC : Hid (∀ W : World, Below w.heap.size w W → Calls Tryz.prog 180 #[(aY.text s).val] W (Gives (.tuple #[.string s, .bool true]) W)) := fun W hW => jN (.text s) hv W (ht.later hW)
   have hsz : s.size ≤ 1048576 := by have : s.size ≤ 120 := hv; omega
   have HN : Hid (∀ W : World, Calls Tryz.prog 147 #[.string s] W fun e w' => e = .returned (.tuple #[.agg (aL ((bH s).lo.toInt) ((bH s).hi.toInt)), .bool (jl s)]) ∧ Below W.heap.size W w') := fun W => tV s W hsz
   unfold aY.val at HC ⊢
   obtain ⟨bp, br, B0⟩ := kK w 141 (aD 2 0 0 s 0 0) 110 (aL 0 0)
   go_in
   go_wp2_with fail
   refine (HC.out _ B0).mono ?_; rintro e w1 ⟨rfl, hb⟩
   replace hb := lF B0 bp br hb
   clear bp br
   obtain ⟨B1, bp, cbp, lbp, fbp, br, cbr, lbr, fbr⟩ := hb
   go_wp2_with fail
   refine (HN.out _).mono ?_; rintro e w2 ⟨rfl, hb⟩
   replace hb := lF B1 bp br hb
   try clear cbp lbp fbp cbr lbr fbr
   clear bp br
   obtain ⟨B2, bp, cbp, lbp, fbp, br, cbr, lbr, fbr⟩ := hb
   go_wp2_with fail
   have hF := (((br.aF 0 (.int i64 (bH s).lo.toInt)).aF 1 (.int i64 (bH s).hi.toInt)).alloc (.cells (aL ((bH s).lo.toInt) ((bH s).hi.toInt)) 110))
   have cF := hF.cell
   refine bodyPost_ret (v := .tuple #[.agg (aL ((bH s).lo.toInt) ((bH s).hi.toInt)), .bool (jl s)]) ?_ rfl ⟨?_, ?_⟩
   ·simp [results, Tryz.results142, go_sem, cF]
   ·rw [show (aY.text s).mO = setOf s from rfl, PE]
   exact ji
theorem zI (n : Int) (w : World) : Calls Tryz.prog 227 (dI n) w (Gives (.tuple #[(mQ n).1.val, .bool (decide ((mQ n).2 = 0))]) w) := by
 by_cases h1 : n < -999999999999
 ·exact Od
 by_cases h2 : 999999999999 < n
 ·exact Od
 have HR : Hid (mQ n = (.int n, 0)) := lH (by rw [mQ, if_pos ah])
 rw [HR.out]
 unfold aY.val
 obtain ⟨br, B0⟩ := dQ w 141 (aD 0 0 0 ⟨#[]⟩ 0 0)
 go_in
 go_wp2_with fail
 refine bodyPost_ret (v := .tuple #[.agg (aD 1 n 0 aC 0 0), .bool true]) ?_ rfl ⟨?_, ?_⟩
 ·simp [results, Tryz.results227, go_sem]
 ·rfl
 exact ji
theorem eY (n : Int) (w : World) : Calls Tryz.prog 212 (dI n) w (ig (mQ n) w) := by
 have HC := lH (fun W : World => zI n W)
 by_cases h : -999999999999 ≤ n ∧ n ≤ 999999999999
 ·have HR : Hid (mQ n = (.int n, 0)) := lH (by rw [mQ, if_pos h])
  rw [HR.out] at HC ⊢
  unfold aY.val at HC
  unfold ig gu aY.val
  obtain ⟨br, B0⟩ := dQ w 141 (aD 0 0 0 ⟨#[]⟩ 0 0)
  go_in
  go_wp2_with fail
  refine (HC.out _).mono ?_; rintro e w1 ⟨rfl, hb⟩
  replace hb := jU B0 br hb
  clear br
  obtain ⟨B1, br, cbr, lbr, fbr⟩ := hb
  go_wp2_with fail
  have hF := (((((((br.aF 0 (.int i64 1)).aF 1 (.int i64 (n))).aF 2 (.int i64 0)).aF 3 (.string aC)).aF 4 (.int i64 0)).aF 5 (.int i64 0)).alloc (.cells (aD 1 n 0 aC 0 0) 141))
  have cF := hF.cell
  refine bodyPost_ret (v := .tuple #[.agg (aD 1 n 0 aC 0 0), .int i64 0]) ?_ rfl ⟨?_, ?_⟩
  ·simp [results, Tryz.results212, go_sem, cF]
  ·rfl
  exact ji
 have HR : Hid (mQ n = (.null, 203)) := lH (by rw [mQ, if_neg h])
 rw [HR.out] at HC ⊢
 unfold aY.val at HC
 unfold ig gu aY.val
 obtain ⟨br, B0⟩ := dQ w 141 (aD 0 0 0 ⟨#[]⟩ 0 0)
 go_in
 go_wp2_with fail
 refine (HC.out _).mono ?_; rintro e w1 ⟨rfl, hb⟩
 replace hb := jU B0 br hb
 clear br
 obtain ⟨B1, br, cbr, lbr, fbr⟩ := hb
 go_wp2_with fail
 have hF := (((((((br.aF 0 (.int i64 0)).aF 1 (.int i64 (0))).aF 2 (.int i64 0)).aF 3 (.string aC)).aF 4 (.int i64 0)).aF 5 (.int i64 0)).alloc (.cells (aD 0 0 0 aC 0 0) 141))
 have cF := hF.cell
 refine bodyPost_ret (v := .tuple #[.agg (aD 0 0 0 aC 0 0), .int i64 203]) ?_ rfl ⟨?_, ?_⟩
 ·simp [results, Tryz.results212, go_sem, cF]
 ·rfl
 exact ji
theorem ND (a b : Int) (w : World) (ha : a.natAbs ≤ 999999999999) (hb : b.natAbs ≤ 999999999999) : Calls Tryz.prog 214 (aL a b) w (ig (og a b) w) := by
 by_cases c1 : b < 0 ∧ a = 0
 ·have HR : Hid (og a b = (.null, 201)) := lH (by rw [og, if_pos c1])
  rw [HR.out]
  obtain ⟨x1, x2⟩ := c1
  subst x2
  unfold ig gu aY.val
  obtain ⟨br, B0⟩ := dQ w 141 (aD 0 0 0 ⟨#[]⟩ 0 0)
  go_in
  go_wp2_with fail
  refine bodyPost_ret (v := .tuple #[.agg (aD 0 0 0 aC 0 0), .int i64 201]) ?_ rfl ⟨?_, ?_⟩
  ·simp [results, Tryz.results214, go_sem]
  ·rfl
  exact ji
 by_cases c2 : a = 1
 ·by_cases c3 : b < 0
  ·exact J9
  exact J9
 by_cases c4 : a = -1
 ·by_cases c5 : b.tmod 2 = 0
  ·by_cases c3 : b < 0
   ·exact JY
   exact JY
  by_cases c3 : b < 0
  ·exact NR
  exact NR
 have n3 : (a == 1) = false := bF c2
 have n4 : (a == -1) = false := bF c4
 by_cases c6 : b < 0
 skip
 have HR : Hid (og a b = (.int (0), 0)) := lH (by rw [og, if_neg c1, if_neg ah, if_pos c6])
 rw [HR.out]
 have f1 : (a == 0) = false := bF (fun h => c1 ⟨c6, h⟩)
 clear HR
 have HI : Hid (∀ W : World, Calls Tryz.prog 212 (dI (0)) W fun e w' => e = .returned (.tuple #[.agg (aD 1 (0) 0 aC 0 0), .int i64 0]) ∧ Below W.heap.size W w') := fun W => by
  have h := eY (0) W
  exact yC
 unfold ig gu aY.val
 obtain ⟨br, B0⟩ := dQ w 141 (aD 0 0 0 ⟨#[]⟩ 0 0)
 rotate_left
 by_cases c7 : a = 0 ∧ 0 < b
 skip
 have HR : Hid (og a b = (.int (0), 0)) := lH (by rw [og, if_neg c1, if_neg ah, if_neg c6, if_pos c7])
 rw [HR.out]
 obtain ⟨x1, x2⟩ := c7
 subst x1
 clear HR
 have HI : Hid (∀ W : World, Calls Tryz.prog 212 (dI (0)) W fun e w' => e = .returned (.tuple #[.agg (aD 1 (0) 0 aC 0 0), .int i64 0]) ∧ Below W.heap.size W w') := fun W => by
  have h := eY (0) W
  exact yC
 unfold ig gu aY.val
 obtain ⟨br, B0⟩ := dQ w 141 (aD 0 0 0 ⟨#[]⟩ 0 0)
 rotate_left
 rotate_right 2
 iterate 2 focus
  go_in
  go_wp2_with fail
  refine (HI.out _).mono ?_; rintro e w1 ⟨rfl, hb⟩
  replace hb := jU B0 br hb
  clear br
  obtain ⟨B1, br, cbr, lbr, fbr⟩ := hb
  go_wp2_with fail
  have hF := ((((((br.aF 0 (.int i64 1)).aF 1 (.int i64 (0))).aF 2 (.int i64 0)).aF 3 (.string aC)).aF 4 (.int i64 0)).aF 5 (.int i64 0))
  have cF := hF.cell
  refine bodyPost_ret (v := .tuple #[.agg (aD 1 (0) 0 aC 0 0), .int i64 0]) ?_ rfl ⟨?_, ?_⟩
  ·exact uy
  ·rfl
  exact ji
 obtain ⟨bn, rfl⟩ : ∃ bn : Nat, b = bn := ⟨b.toNat, ah⟩
 have HR : Hid (og a (bn : Int) = YH (wO a bn 1)) := WM c1 ah c6 c7
 have HF : Hid ((a == 0) = true → bn = 0) := fun h => by have := beq_iff_eq.1 h; omega
 have x0 : ¬ ((bn : Int) < 0) := ah
 have HPI : ∀ (x : Int), x.natAbs ≤ 999999999999 → Hid (∀ W : World, Calls Tryz.prog 213 (aL x a) W fun e w' => e = .returned (iZ (pO x a)) ∧ W = w') := fun x hx W => zn x a W hx ha
 have HIR : ∀ (x : Int), x.natAbs ≤ 999999999999 → Hid (∀ W : World, Calls Tryz.prog 212 (dI x) W fun e w' => e = .returned (.tuple #[.agg (aD 1 x 0 aC 0 0), .int i64 0]) ∧ Below W.heap.size W w') := fun x hx W => by
  have h := eY x W
  rw [yQ hx] at h
  exact h
 have hz2 : (a == 0) = true ∨ (a == 0) = false := by cases (a == 0) <;> simp
 obtain ⟨z, hz⟩ : ∃ z, (a == 0) = z := ⟨_, rfl⟩
 have HZ : Hid (z = true → bn = 0) := fun h => HF.out (by rw [hz, h])
 clear hz2 HF
 cases z with
 | true =>
   have hb0 := HZ.out rfl
   subst hb0
   have HV : Hid (og a ((0 : Nat) : Int) = (.int 1, 0)) := lH (by rw [HR.out]; rfl)
   have HI := HIR 1 aA
   rw [HV.out]
   clear HR HV HPI HIR HZ c1 c7
   unfold ig gu aY.val
   obtain ⟨br, B0⟩ := dQ w 141 (aD 0 0 0 ⟨#[]⟩ 0 0)
   go_in
   go_wp2_with fail
   go_loopw [1, 6] (fun i n wr => i = .int i64 0 ∧ n = .int i64 1 ∧ wr = w.alloc (.cells (aD 0 0 0 aC 0 0) 141)) (fun i n _ => 0)
   case atStart => exact ⟨rfl, rfl, rfl⟩
   obtain ⟨rfl, rfl, rfl⟩ := hrel
   obtain ⟨cbr, lbr, fbr⟩ := br.all
   go_wp2_with fail
   refine (HI.out _).mono ?_; rintro e w1 ⟨rfl, hb⟩
   replace hb := jU B0 br hb
   clear br
   obtain ⟨B1, br, cbr, lbr, fbr⟩ := hb
   go_wp2_with fail
   have hF := ((((((br.aF 0 (.int i64 1)).aF 1 (.int i64 (1))).aF 2 (.int i64 0)).aF 3 (.string aC)).aF 4 (.int i64 0)).aF 5 (.int i64 0))
   have cF := hF.cell
   refine bodyPost_ret (v := .tuple #[.agg (aD 1 1 0 aC 0 0), .int i64 0]) ?_ rfl ⟨?_, ?_⟩
   ·exact uy
   ·rfl
   exact ji
 | false =>
   clear HZ
   unfold ig
   obtain ⟨br, B0⟩ := dQ w 141 (aD 0 0 0 ⟨#[]⟩ 0 0)
   go_in
   go_wp2_with fail
   go_loopw [1, 6] (fun i n wr => ∃ (k : Nat) (m : Int), k ≤ bn ∧ i = .int i64 k ∧ n = .int i64 m ∧ m.natAbs ≤ 999999999999 ∧ Hid (wO a bn 1 = wO a k m) ∧ wr = w.alloc (.cells (aD 0 0 0 aC 0 0) 141)) (fun i n _ => (intOf i).toNat)
   case atStart => exact ⟨bn, 1, nR _, rfl, rfl, aA, rfl, rfl⟩
   obtain ⟨k, m, hk, rfl, rfl, hm, hp, rfl⟩ := hrel
   obtain ⟨cbr, lbr, fbr⟩ := br.all
   have HI := HIR m hm
   by_cases hlt : 0 < k
   ·have hpp := HPI m hm
    obtain ⟨k, rfl⟩ : ∃ k', k = k' + 1 := ⟨k - 1, ah⟩
    by_cases hq : 999999999999 < m.natAbs * a.natAbs
    ·have HV : Hid (og a (bn : Int) = (.null, 203)) := lH (by rw [HR.out, hp.out, UM hq]; rfl)
     have hc : pO m a = none := by rw [pO, if_neg (PG hq)]
     rw [hc] at hpp
     unfold iZ at hpp
     clear hp hq hc HI HIR HPI
     go_wp2_with fail
     refine (hpp.out _).mono ?_; rintro e wz ⟨rfl, rfl⟩
     go_wp2_with fail
     refine bodyPost_ret (v := .tuple #[.agg (aD 0 0 0 aC 0 0), .int i64 203]) ?_ rfl ⟨?_, ?_⟩
     ·simp [results, Tryz.results214, go_sem]
     ·rw [HV.out]; rfl
     exact ji
    have hc : pO m a = some (m * a) := by rw [pO, if_pos (zH hq)]
    have HN : Hid (wO a bn 1 = wO a k (m * a)) := lH (by rw [hp.out, SS hq])
    have hm2 := zH hq
    rw [hc] at hpp
    unfold iZ at hpp
    clear hp hq hc HI
    generalize m * a = ma at *
    go_wp2_with fail
    refine (hpp.out _).mono ?_; rintro e wz ⟨rfl, rfl⟩
    go_wp2_with fail
    go_roundw
    case rel => exact ⟨k, ma, ah, by go_num, rfl, hm2, HN, trivial⟩
    simp [intOf] <;> omega
   have hk0 : k = 0 := ah
   have HV : Hid (og a (bn : Int) = (.int m, 0)) := lH (by rw [HR.out, hp.out, hk0]; rfl)
   clear hp HPI HIR
   subst hk0
   go_wp2_with fail
   refine (HI.out _).mono ?_; rintro e w1 ⟨rfl, hb⟩
   replace hb := jU B0 br hb
   clear br
   obtain ⟨B1, br, cbr, lbr, fbr⟩ := hb
   go_wp2_with fail
   have hF := ((((((br.aF 0 (.int i64 1)).aF 1 (.int i64 (m))).aF 2 (.int i64 0)).aF 3 (.string aC)).aF 4 (.int i64 0)).aF 5 (.int i64 0))
   have cF := hF.cell
   refine bodyPost_ret (v := .tuple #[.agg (aD 1 m 0 aC 0 0), .int i64 0]) ?_ rfl ⟨?_, ?_⟩
   ·exact uy
   ·rw [HV.out]; rfl
   exact ji
theorem BG (op a b : Int) (w : World) (ha : a.natAbs ≤ 999999999999) (hb : b.natAbs ≤ 999999999999) (h0 : 20 ≤ op) (h1 : op ≤ 25) : Calls Tryz.prog 183 (oP op a b) w (ig (iR op a b) w) := by
 obtain rfl | rfl | rfl | rfl | rfl | rfl : op = 20 ∨ op = 21 ∨ op = 22 ∨ op = 23 ∨ op = 24 ∨ op = 25 := by omega
 ·have HA : Hid (iR 20 a b = mQ (a + b)) := by show _ = _; simp [iR]
  rw [HA.out]
  clear HA
  have x0 : -999999999999 ≤ a := ah
  have x1 : a ≤ 999999999999 := ah
  have x2 : -999999999999 ≤ b := ah
  have x3 : b ≤ 999999999999 := ah
  have HC := lH (fun W : World => eY (a + b) W)
  by_cases h : -999999999999 ≤ a + b ∧ a + b ≤ 999999999999
  ·have HR : Hid (mQ (a + b) = (.int (a + b), 0)) := lH (by rw [mQ, if_pos h])
   rw [HR.out] at HC ⊢
   unfold ig gu aY.val at HC ⊢
   clear HR h
   obtain ⟨br, B0⟩ := dQ w 141 (aD 0 0 0 ⟨#[]⟩ 0 0)
   go_in
   go_wp2_with fail
   refine (HC.out _).mono ?_; rintro e w1 ⟨rfl, hb⟩
   replace hb := jU B0 br hb
   clear br
   obtain ⟨B1, br, cbr, lbr, fbr⟩ := hb
   go_wp2_with fail
   have hF := ((((((br.aF 0 (.int i64 1)).aF 1 (.int i64 (a + b))).aF 2 (.int i64 0)).aF 3 (.string aC)).aF 4 (.int i64 0)).aF 5 (.int i64 0))
   have cF := hF.cell
   refine bodyPost_ret (v := .tuple #[.agg (aD 1 (a + b) 0 aC 0 0), .int i64 0]) ?_ rfl ⟨?_, ?_⟩
   ·exact pR
   ·rfl
   exact ji
  have HR : Hid (mQ (a + b) = (.null, 203)) := lH (by rw [mQ, if_neg h])
  exact NV
 ·have HA : Hid (iR 21 a b = mQ (a - b)) := by show _ = _; simp [iR]
  rw [HA.out]
  clear HA
  have x0 : -999999999999 ≤ a := ah
  have x1 : a ≤ 999999999999 := ah
  have x2 : -999999999999 ≤ b := ah
  have x3 : b ≤ 999999999999 := ah
  have HC := lH (fun W : World => eY (a - b) W)
  by_cases h : -999999999999 ≤ a - b ∧ a - b ≤ 999999999999
  ·have HR : Hid (mQ (a - b) = (.int (a - b), 0)) := lH (by rw [mQ, if_pos h])
   rw [HR.out] at HC ⊢
   unfold ig gu aY.val at HC ⊢
   clear HR h
   obtain ⟨br, B0⟩ := dQ w 141 (aD 0 0 0 ⟨#[]⟩ 0 0)
   go_in
   go_wp2_with fail
   refine (HC.out _).mono ?_; rintro e w1 ⟨rfl, hb⟩
   replace hb := jU B0 br hb
   clear br
   obtain ⟨B1, br, cbr, lbr, fbr⟩ := hb
   go_wp2_with fail
   have hF := ((((((br.aF 0 (.int i64 1)).aF 1 (.int i64 (a - b))).aF 2 (.int i64 0)).aF 3 (.string aC)).aF 4 (.int i64 0)).aF 5 (.int i64 0))
   have cF := hF.cell
   refine bodyPost_ret (v := .tuple #[.agg (aD 1 (a - b) 0 aC 0 0), .int i64 0]) ?_ rfl ⟨?_, ?_⟩
   ·exact pR
   ·rfl
   exact ji
  have HR : Hid (mQ (a - b) = (.null, 203)) := lH (by rw [mQ, if_neg h])
  exact NV
 ·have HC := lH (fun W : World => zn a b W ha hb)
  by_cases hq : 999999999999 < a.natAbs * b.natAbs
  ·have hc : pO a b = none := by rw [pO, if_neg (PG hq)]
   have HR : Hid (iR 22 a b = (.null, 203)) := by show _ = _; simp [iR, hq]
   rw [HR.out]
   rw [hc] at HC
   unfold iZ at HC
   unfold ig gu aY.val
   clear HR hq hc
   obtain ⟨br, B0⟩ := dQ w 141 (aD 0 0 0 ⟨#[]⟩ 0 0)
   go_in
   go_wp2_with fail
   refine (HC.out _).mono ?_; rintro e wz ⟨rfl, rfl⟩
   go_wp2_with fail
   refine bodyPost_ret (v := .tuple #[.agg (aD 0 0 0 aC 0 0), .int i64 203]) ?_ rfl ⟨?_, ?_⟩
   ·simp [results, Tryz.results183, go_sem]
   ·rfl
   exact ji
  have hc : pO a b = some (a * b) := by rw [pO, if_pos (zH hq)]
  have HR : Hid (iR 22 a b = (.int (a * b), 0)) := by show _ = _; simp [iR, hq]
  have hm2 := zH hq
  rw [HR.out]
  rw [hc] at HC
  unfold iZ at HC
  unfold ig gu aY.val
  clear HR hq hc
  generalize a * b = ab at *
  have HI : Hid (∀ W : World, Calls Tryz.prog 212 (dI (ab)) W fun e w' => e = .returned (.tuple #[.agg (aD 1 (ab) 0 aC 0 0), .int i64 0]) ∧ Below W.heap.size W w') := fun W => by
   have h := eY (ab) W
   rw [yQ ah] at h
   exact h
  obtain ⟨br, B0⟩ := dQ w 141 (aD 0 0 0 ⟨#[]⟩ 0 0)
  go_in
  go_wp2_with fail
  refine (HC.out _).mono ?_; rintro e wz ⟨rfl, rfl⟩
  go_wp2_with fail
  refine (HI.out _).mono ?_; rintro e w1 ⟨rfl, hb⟩
  replace hb := jU B0 br hb
  clear br
  obtain ⟨B1, br, cbr, lbr, fbr⟩ := hb
  go_wp2_with fail
  have hF := ((((((br.aF 0 (.int i64 1)).aF 1 (.int i64 (ab))).aF 2 (.int i64 0)).aF 3 (.string aC)).aF 4 (.int i64 0)).aF 5 (.int i64 0))
  have cF := hF.cell
  refine bodyPost_ret (v := .tuple #[.agg (aD 1 ab 0 aC 0 0), .int i64 0]) ?_ rfl ⟨?_, ?_⟩
  ·exact pR
  ·rfl
  exact ji
 ·by_cases hz : b = 0
  ·subst hz
   have HR : Hid (iR 23 a 0 = (.null, 201)) := by show _ = _; simp [iR]
   exact Oj
  have HR : Hid (iR 23 a b = (.int (a.tdiv b), 0)) := by show _ = _; simp [iR, hz]
  have fz : (b == 0) = false := bF hz
  have q1 := Int.natAbs_tdiv_le_natAbs a b
  have q2 : (a.tmod b).natAbs ≤ a.natAbs := by rw [Int.natAbs_tmod]; exact Nat.mod_le _ _
  have q3 : (a.tdiv b).natAbs ≤ 999999999999 := ah
  have q4 : a.tdiv b ≤ 999999999999 := ah
  have q5 : -999999999999 ≤ a.tdiv b := ah
  rw [HR.out]
  clear HR q1 q2
  unfold ig gu aY.val
  have HI : Hid (∀ W : World, Calls Tryz.prog 212 (dI ((a.tdiv b))) W fun e w' => e = .returned (.tuple #[.agg (aD 1 ((a.tdiv b)) 0 aC 0 0), .int i64 0]) ∧ Below W.heap.size W w') := fun W => by
   have h := eY ((a.tdiv b)) W
   rw [yQ ah] at h
   exact h
  obtain ⟨br, B0⟩ := dQ w 141 (aD 0 0 0 ⟨#[]⟩ 0 0)
  go_in
  go_wp2_with fail
  refine (HI.out _).mono ?_; rintro e w1 ⟨rfl, hb⟩
  replace hb := jU B0 br hb
  clear br
  obtain ⟨B1, br, cbr, lbr, fbr⟩ := hb
  go_wp2_with fail
  have hF := ((((((br.aF 0 (.int i64 1)).aF 1 (.int i64 ((a.tdiv b)))).aF 2 (.int i64 0)).aF 3 (.string aC)).aF 4 (.int i64 0)).aF 5 (.int i64 0))
  have cF := hF.cell
  refine bodyPost_ret (v := .tuple #[.agg (aD 1 (a.tdiv b) 0 aC 0 0), .int i64 0]) ?_ rfl ⟨?_, ?_⟩
  ·exact pR
  ·rfl
  exact ji
 ·by_cases hz : b = 0
  ·subst hz
   have HR : Hid (iR 24 a 0 = (.null, 201)) := by show _ = _; simp [iR]
   exact Oj
  have HR : Hid (iR 24 a b = (.int (a.tmod b), 0)) := by show _ = _; simp [iR, hz]
  have fz : (b == 0) = false := bF hz
  have q1 := Int.natAbs_tdiv_le_natAbs a b
  have q2 : (a.tmod b).natAbs ≤ a.natAbs := by rw [Int.natAbs_tmod]; exact Nat.mod_le _ _
  have q3 : (a.tmod b).natAbs ≤ 999999999999 := ah
  have q4 : a.tdiv b ≤ 999999999999 := ah
  have q5 : -999999999999 ≤ a.tdiv b := ah
  rw [HR.out]
  clear HR q1 q2
  unfold ig gu aY.val
  have HI : Hid (∀ W : World, Calls Tryz.prog 212 (dI ((a.tmod b))) W fun e w' => e = .returned (.tuple #[.agg (aD 1 ((a.tmod b)) 0 aC 0 0), .int i64 0]) ∧ Below W.heap.size W w') := fun W => by
   have h := eY ((a.tmod b)) W
   rw [yQ ah] at h
   exact h
  obtain ⟨br, B0⟩ := dQ w 141 (aD 0 0 0 ⟨#[]⟩ 0 0)
  go_in
  go_wp2_with fail
  refine (HI.out _).mono ?_; rintro e w1 ⟨rfl, hb⟩
  replace hb := jU B0 br hb
  clear br
  obtain ⟨B1, br, cbr, lbr, fbr⟩ := hb
  go_wp2_with fail
  have hF := ((((((br.aF 0 (.int i64 1)).aF 1 (.int i64 ((a.tmod b)))).aF 2 (.int i64 0)).aF 3 (.string aC)).aF 4 (.int i64 0)).aF 5 (.int i64 0))
  have cF := hF.cell
  refine bodyPost_ret (v := .tuple #[.agg (aD 1 (a.tmod b) 0 aC 0 0), .int i64 0]) ?_ rfl ⟨?_, ?_⟩
  ·exact pR
  ·rfl
  exact ji
 have HA : Hid (iR 25 a b = og a b) := by show _ = _; simp [iR]
 rw [HA.out]
 have HC := lH (fun W : World => ND a b W ha hb)
 clear HA
 generalize og a b = r at *
 obtain ⟨v, k⟩ := r
 cases v with
 | null =>
   unfold ig gu aY.val at HC ⊢
   obtain ⟨br, B0⟩ := dQ w 141 (aD 0 0 0 ⟨#[]⟩ 0 0)
   go_in
   go_wp2_with fail
   refine (HC.out _).mono ?_; rintro e w1 ⟨rfl, hb⟩
   replace hb := jU B0 br hb
   clear br
   obtain ⟨B1, br, cbr, lbr, fbr⟩ := hb
   go_wp2_with fail
   have hF := (((((((br.aF 0 (.int i64 0)).aF 1 (.int i64 (0))).aF 2 (.int i64 0)).aF 3 (.string aC)).aF 4 (.int i64 0)).aF 5 (.int i64 0)).alloc (.cells (aD 0 (0) 0 aC 0 0) 141))
   have cF := hF.cell
   refine bodyPost_ret (v := .tuple #[.agg (aD 0 (0) 0 aC 0 0), k]) ?_ rfl ⟨?_, ?_⟩
   ·exact pR
   ·rfl
   exact ji
 | int n =>
   unfold ig gu aY.val at HC ⊢
   obtain ⟨br, B0⟩ := dQ w 141 (aD 0 0 0 ⟨#[]⟩ 0 0)
   go_in
   go_wp2_with fail
   refine (HC.out _).mono ?_; rintro e w1 ⟨rfl, hb⟩
   replace hb := jU B0 br hb
   clear br
   obtain ⟨B1, br, cbr, lbr, fbr⟩ := hb
   go_wp2_with fail
   have hF := (((((((br.aF 0 (.int i64 1)).aF 1 (.int i64 (n))).aF 2 (.int i64 0)).aF 3 (.string aC)).aF 4 (.int i64 0)).aF 5 (.int i64 0)).alloc (.cells (aD 1 (n) 0 aC 0 0) 141))
   have cF := hF.cell
   refine bodyPost_ret (v := .tuple #[.agg (aD 1 (n) 0 aC 0 0), k]) ?_ rfl ⟨?_, ?_⟩
   ·exact pR
   ·rfl
   exact ji
 | text s =>
   unfold ig gu aY.val at HC ⊢
   obtain ⟨br, B0⟩ := dQ w 141 (aD 0 0 0 ⟨#[]⟩ 0 0)
   go_in
   go_wp2_with fail
   refine (HC.out _).mono ?_; rintro e w1 ⟨rfl, hb⟩
   replace hb := jU B0 br hb
   clear br
   obtain ⟨B1, br, cbr, lbr, fbr⟩ := hb
   go_wp2_with fail
   have hF := (((((((br.aF 0 (.int i64 2)).aF 1 (.int i64 (0))).aF 2 (.int i64 0)).aF 3 (.string s)).aF 4 (.int i64 0)).aF 5 (.int i64 0)).alloc (.cells (aD 2 (0) 0 s 0 0) 141))
   have cF := hF.cell
   refine bodyPost_ret (v := .tuple #[.agg (aD 2 (0) 0 s 0 0), k]) ?_ rfl ⟨?_, ?_⟩
   ·exact pR
   ·rfl
   exact ji
 | set c =>
   unfold ig gu aY.val at HC ⊢
   obtain ⟨br, B0⟩ := dQ w 141 (aD 0 0 0 ⟨#[]⟩ 0 0)
   go_in
   go_wp2_with fail
   refine (HC.out _).mono ?_; rintro e w1 ⟨rfl, hb⟩
   replace hb := jU B0 br hb
   clear br
   obtain ⟨B1, br, cbr, lbr, fbr⟩ := hb
   go_wp2_with fail
   have hF := (((((((br.aF 0 (.int i64 3)).aF 1 (.int i64 (0))).aF 2 (.int i64 0)).aF 3 (.string aC)).aF 4 (.int i64 c.lo.toInt)).aF 5 (.int i64 c.hi.toInt)).alloc (.cells (aD 3 (0) 0 aC c.lo.toInt c.hi.toInt) 141))
   have cF := hF.cell
   refine bodyPost_ret (v := .tuple #[.agg (aD 3 (0) 0 aC c.lo.toInt c.hi.toInt), k]) ?_ rfl ⟨?_, ?_⟩
   ·exact pR
   ·rfl
   exact ji
end Go.Proofs.YthbcamfejgghhaaGreatDoor
