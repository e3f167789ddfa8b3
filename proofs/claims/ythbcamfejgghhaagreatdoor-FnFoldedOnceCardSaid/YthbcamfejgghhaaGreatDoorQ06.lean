/- YP: several texts in one. -/
import Derived.Test.YthbcamfejgghhaaGreatDoorQ02
set_option maxRecDepth 100000
set_option maxHeartbeats 8000000
set_option linter.unusedVariables false
set_option linter.unusedSimpArgs false
namespace Go.Proofs.YthbcamfejgghhaaGreatDoor
open Go.IntKind (i64)
open Go.RowKit
section
section
theorem wm (v : BitVec 64) : IntKind.i64.wrap (v.toNat : Int) = v.toInt := by
 rw [IntKind.wrap_i64, BitVec.toInt_eq_toNat_cond]
 have := v.isLt
 split <;> omega
theorem sW (u v : BitVec 64) : bits .or i64 u.toInt v.toInt = (u ||| v).toInt := by
 rw [← wm (u ||| v)]
 exact yI
theorem uI (u v : BitVec 64) : bits .and i64 u.toInt v.toInt = (u &&& v).toInt := by
 rw [← wm (u &&& v)]
 exact yI
theorem C9 (b : Nat) (h : b ≤ 63) : wrap64 (2 ^ b) = (BitVec.twoPow 64 b).toInt := by
 have h1 : (2 : Nat) ^ b < 2 ^ 64 := Nat.pow_lt_pow_right aA ah
 rw [← wm, BitVec.toNat_twoPow, Nat.mod_eq_of_lt h1]
 rw [IntKind.wrap_i64, show (((2 ^ b : Nat)) : Int) = 2 ^ b by simp]
 simp only [wrap64]
structure cB where
 lo : BitVec 64
 hi : BitVec 64
def cB.val (c : cB) : Value := .agg (aL c.lo.toInt c.hi.toInt)
def cB.add (c : cB) (b : Nat) : cB := if b ≤ 63 then ⟨c.lo ||| BitVec.twoPow 64 b, c.hi⟩ else ⟨c.lo, c.hi ||| BitVec.twoPow 64 (b - 64)⟩
def cB.has (c : cB) (b : Nat) : Bool := if b ≤ 63 then c.lo.getLsbD b else c.hi.getLsbD (b - 64)
theorem cB.has_add (c : cB) (b j : Nat) (hb : b ≤ 127) (hj : j ≤ 127) : (c.add b).has j = (c.has j || decide (j = b)) := by
 unfold cB.add cB.has
 by_cases h1 : b ≤ 63 <;> by_cases h2 : j ≤ 63 <;> simp [h1, h2, BitVec.getLsbD_twoPow] <;> (try omega)
 all_goals (first | (congr 1; rw [Bool.eq_iff_iff]; simp; omega) | (intro h; omega))
theorem O6 (u : BitVec 64) (b : Nat) (h : b ≤ 63) : (bits .and i64 u.toInt (wrap64 (2 ^ b)) != 0) = u.getLsbD b := by
 rw [C9 b h, uI, BitVec.and_twoPow]
 cases hb : u.getLsbD b with
 | false => simp
 | true =>
   simp only [if_true]
   rw [bne_iff_ne]
   intro h0
   have : BitVec.twoPow 64 b = 0#64 := by apply BitVec.eq_of_toInt_eq; rw [h0]; rfl
   have h2 := congrArg BitVec.toNat this
   rw [BitVec.toNat_twoPow] at h2
   have h1 : (2 : Nat) ^ b < 2 ^ 64 := Nat.pow_lt_pow_right aA ah
   rw [Nat.mod_eq_of_lt h1] at h2
   have := Nat.two_pow_pos b
   simp at h2
theorem MG (c : cB) (b : Nat) (w : World) (hb : b ≤ 127) :
 Calls Tryz.prog 107 #[c.val, .int .u8 b] w fun e w' => e = .returned (c.add b).val ∧ Below w.heap.size w w' := by
 by_cases h : b ≤ 63
 ·have HE : Hid (bits .or i64 c.lo.toInt (wrap64 (2 ^ b)) = (c.lo ||| BitVec.twoPow 64 b).toInt) := lH (by rw [C9 b h, sW])
  have HA : Hid ((c.add b).val = .agg (aL ((c.lo ||| BitVec.twoPow 64 b).toInt) c.hi.toInt)) := lH (by rw [cB.add, if_pos h]; rfl)
  unfold cB.val
  go_in
  go_wp2_with fail
  refine bodyPost_ret (v := .agg (aL (bits .or i64 c.lo.toInt (wrap64 (2 ^ b))) c.hi.toInt)) ?_ rfl ⟨?_, (bA _ _).alloc av _⟩
  ·simp [results, Tryz.results107, go_sem]
  rw [HE.out]; exact congrArg _ HA.out.symm
 obtain ⟨d, rfl⟩ : ∃ d : Nat, b = d + 64 := ⟨b - 64, ah⟩
 have HE : Hid (bits .or i64 c.hi.toInt (wrap64 (2 ^ d)) = (c.hi ||| BitVec.twoPow 64 d).toInt) := lH (by rw [C9 d ah, sW])
 have HA : Hid ((c.add (d + 64)).val = .agg (aL c.lo.toInt ((c.hi ||| BitVec.twoPow 64 d).toInt))) := lH (by rw [cB.add, if_neg h, Nat.add_sub_cancel]; rfl)
 unfold cB.val
 go_in
 go_wp2_with fail
 refine bodyPost_ret (v := .agg (aL c.lo.toInt (bits .or i64 c.hi.toInt (wrap64 (2 ^ d))))) ?_ rfl ⟨?_, (bA _ _).alloc av _⟩
 ·simp [results, Tryz.results107, go_sem]
 rw [HE.out]; exact congrArg _ HA.out.symm
theorem GN (c : cB) (b : Nat) (w : World) (hb : b ≤ 127) :
 Calls Tryz.prog 108 #[c.val, .int .u8 b] w fun e w' => e = .returned (.bool (c.has b)) ∧ Below w.heap.size w w' := by
 by_cases h : b ≤ 63
 have HE : Hid ((bits .and i64 c.lo.toInt (wrap64 (2 ^ b)) != 0) = c.has b) := lH (by rw [O6 _ b h, cB.has, if_pos h])
 unfold cB.val
 rotate_left
 obtain ⟨d, rfl⟩ : ∃ d : Nat, b = d + 64 := ⟨b - 64, ah⟩
 have HE : Hid ((bits .and i64 c.hi.toInt (wrap64 (2 ^ d)) != 0) = c.has (d + 64)) := lH (by rw [O6 _ d ah, cB.has, if_neg h, Nat.add_sub_cancel])
 unfold cB.val
 iterate 2 focus
  go_in
  go_wp2_with fail
  go_ret
  exact ⟨bD HE.out, bA _ _⟩
end
section
open Go.RowKit
def mE (s : ByteArray) (k : Nat) : cB := (List.range k).foldl (fun c j => c.add (cZ s j)) ⟨0#64, 0#64⟩
theorem uJ (s : ByteArray) (k : Nat) : mE s (k + 1) = (mE s k).add (cZ s k) := by simp [mE, List.range_succ]
theorem Da (s : ByteArray) (j : Nat) (hj : j ≤ 127) : ∀ k, (∀ i, i < k → cZ s i ≤ 127) → ((mE s k).has j = true ↔ ∃ i, i < k ∧ cZ s i = j) := by
 intro k
 induction k with
 | zero => intro _; simp [mE, cB.has]
 | succ k ih =>
   intro h
   rw [uJ, cB.has_add _ _ _ (h k ah) hj, Bool.or_eq_true, ih (fun i hi => h i ah), decide_eq_true_eq]
   constructor
   ·rintro (⟨i, hi, e⟩ | e)
    ·exact ⟨i, ah, e⟩
    exact ⟨k, ah, e.symm⟩
   rintro ⟨i, hi, e⟩
   by_cases hk : i = k
   ·subst hk; exact .inr e.symm
   exact .inl ⟨i, ah, e⟩
def jl (s : ByteArray) : Bool := (List.range s.size).all fun j => decide (cZ s j ≤ 127)
theorem KF {s : ByteArray} {k : Nat} (hk : k < s.size) (h : 127 < cZ s k) : jl s = false := by
 unfold jl
 rw [List.all_eq_false]
 exact ⟨k, List.mem_range.2 hk, aJ⟩
theorem FE {s : ByteArray} (h : ∀ j, j < s.size → cZ s j ≤ 127) : jl s = true := by
 unfold jl
 rw [List.all_eq_true]
 exact fun j hj => dT (h j (List.mem_range.1 hj))
def bH (s : ByteArray) : cB := if jl s then mE s s.size else ⟨0#64, 0#64⟩
theorem xD {s : ByteArray} (h : jl s = false) : bH s = ⟨0#64, 0#64⟩ := by simp [bH, h]
theorem uK {s : ByteArray} (h : jl s = true) : bH s = mE s s.size := by simp [bH, h]
def Db (c : cB) (ok : Bool) (w : World) (e : Ending) (w' : World) : Prop := e = .returned (.tuple #[c.val, .bool ok]) ∧ Below w.heap.size w w'
theorem sZ (s : ByteArray) (w : World) (hs : s.size ≤ 1048576) :
 Calls Tryz.prog 74 #[.string s] w (Db (bH s) (jl s) w) := by
 go_in
 go_wp2_with fail
 go_loopw [5] (fun i wr => ∃ k : Nat, k ≤ s.size ∧ i = .int i64 k ∧ Hid (∀ j, j < k → cZ s j ≤ 127) ∧ Blk wr w.heap.size 110 (aL 0 0) ∧ Blk wr (w.heap.size + 1) 110 (aL ((mE s k).lo.toInt) ((mE s k).hi.toInt)) ∧ Below w.heap.size w wr) (fun i _ => s.size - (intOf i).toNat)
 case atStart => exact ⟨0, nZ _, rfl, (fun j hj => by omega), (Blk.new w _ _).alloc _, Blk.newAt _ _ _ _ av, (bA _ _).alloc av _⟩
 obtain ⟨k, hk, rfl, hgo, hr, hc, hb⟩ := hrel
 obtain ⟨wo, rfl⟩ := nW wr
 have hz := hb.size
 by_cases hlt : k < s.size
 ·have HK := lH (jh s k hlt)
  by_cases h7 : 127 < s[k].toNat
  ·have HN := lH (KF hlt (by rw [HK.out]; exact h7))
   have cr := hr.cell
   have fr := hr.frozen
   go_wp2_with fail
   refine bodyPost_ret (v := .tuple #[.agg (aL 0 0), .bool false]) ?_ rfl ⟨?_, ?_⟩
   ·simp [results, Tryz.results74, go_sem, cr]
   ·rw [xD HN.out, HN.out]; rfl
   exact Jk
  have hb7 : s[k].toNat ≤ 127 := ah
  have HG : Hid (∀ j, j < k + 1 → cZ s j ≤ 127) := by
   exact JD
  have HS := lH (uJ s k)
  have cc := hc.cell
  have e0 : (0 : Int) ≤ (k : Int) := ah
  have e8 : (k : Int) < (s.size : Int) := ah
  clear hgo
  go_wp2_with fail
  go_region_with (first
   | (go_at_call 107; refine (MG (mE s k) s[k].toNat _ hb7).mono ?_; rintro e w1 ⟨rfl, hb1⟩; unfold cB.val; have cc1 := (hc.drew.later hb1).cell; have fc1 := (hc.drew.later hb1).frozen))
  all_goals
   have hr1 := hr.drew.later hb1
   have hc1 := hc.drew.later hb1
   have hb2 : Below w.heap.size w w1 := hb.drew.trans (hb1.mono hz)
   clear cc cc1 fc1
   go_wp2_with fail
   go_roundw
   case rel =>
    exact Og
   simp [intOf]; omega
 obtain rfl : k = s.size := by omega
 have HY := lH (FE hgo.out)
 have cc := hc.cell
 have cr := hr.cell
 have fr := hr.frozen
 clear hgo
 go_wp2_with fail
 refine bodyPost_ret (v := .tuple #[(mE s s.size).val, .bool true]) ?_ rfl ⟨?_, ?_⟩
 ·simp [results, Tryz.results74, go_sem, cr, cB.val]
 ·rw [uK HY.out, HY.out]
 exact (hb.setCell (p := ⟨w.heap.size, 0, none⟩) (nR _) _).setCell (p := ⟨w.heap.size, 1, none⟩) (nR _) _
end
section
open Go.RowKit
def eP (c : cB) (k : Nat) : List Nat := (List.range k).filter c.has
def dN (c : cB) : ByteArray := strOfNums ((eP c 128).map fun (j : Nat) => (j : Int))
theorem Ga {c : cB} {k : Nat} (h : c.has k = true) : eP c (k + 1) = eP c k ++ [k] := by simp [eP, List.range_succ, List.filter_append, h]
theorem IV {c : cB} {k : Nat} (h : c.has k = false) : eP c (k + 1) = eP c k := by simp [eP, List.range_succ, List.filter_append, h]
theorem pW (c : cB) (k : Nat) : (eP c k).length ≤ k := by
 have := List.length_filter_le c.has (List.range k)
 simpa [eP] using this
theorem vO {w : World} {base base' : Nat} {e : TypeId} {size n : Nat} {v : Value} {xs : List Value} (h : w.ownsRow base e size v n xs) (hb : base' ≤ base) : w.ownsRow base' e size v n xs := by
 refine ⟨h.1, ?_⟩
 rcases h.2 with h0 | ⟨g, cap, cur, h1, h2, h3⟩
 ·exact .inl h0
 exact .inr ⟨g, cap, cur, h1, nT hb h2, h3⟩
def Q9 (v : Value) (n : Nat) : Prop := ∃ g cap, v = .slice (some (aj g 0)) n cap
theorem BJ : (Tryz.prog.info? 5).map (fun i => (i.zero, i.size, i.bytes)) = some (some (.int .u8 0), 1, 1) := aI
theorem oU (c : cB) (w : World) :
 Calls Tryz.prog 75 #[c.val] w fun e w' => e = .returned (.string (dN c)) ∧ Below w.heap.size w w' := by
 have hcv := fun (W : World) (g cap n : Nat) (xs : List Int) (hl : xs.length = n) (hc : ∀ i, i < n → W.cell? (aj g (0 + i)) = some (.int .u8 (xs.getD i 0))) => run_convert_bytes_arg (P := Tryz.prog) W 22 5 Tryz.underlying22 Tryz.underlying5 g 0 n cap xs hl hc 9 Tryz.underlying9
 have HCV := lH hcv
 clear hcv
 unfold cB.val
 go_in
 go_wp2_with fail
 go_loopw [3, 4] (fun v i wr => ∃ k : Nat, k ≤ 128 ∧ i = .int i64 k ∧ wr.ownsRow w.heap.size 5 1 v (eP c k).length ((eP c k).map fun (j : Nat) => Value.int .u8 (j : Int)) ∧ Q9 v (eP c k).length ∧ Blk wr w.heap.size 110 (aL c.lo.toInt c.hi.toInt) ∧ v.ownBlock ≠ some w.heap.size ∧ Below w.heap.size w wr) (fun _ i _ => 128 - (intOf i).toNat)
 case atStart =>
  exact Ob
 obtain ⟨k, hk, rfl, hown, hsl, ha, hne, hb⟩ := hrel
 obtain ⟨wo, rfl⟩ := nW wr
 obtain ⟨v, hv⟩ : ∃ v, v = u3 := ⟨_, rfl⟩
 subst hv
 have hz := hb.size
 have hln := pW c k
 by_cases hlt : k < 128
 ·have ca := ha.cell
  have HC := lH (fun w => GN c k w ah)
  exact NN
 obtain rfl : k = 128 := by omega
 obtain ⟨g, cap, rfl⟩ := hsl
 have hcv := HCV.out wo g cap (eP c 128).length ((eP c 128).map fun (j : Nat) => (j : Int)) av (fun i hi => by
  have := hown.cellAt i ah
  rw [Nat.zero_add, this, List.getElem?_map, gE hi, List.getD, List.getElem?_map, gE hi]
  rfl)
 clear hown HCV
 go_wp2_with fail
 go_ret
 exact ⟨rfl, hb⟩
def kC (s : ByteArray) (j : Nat) : Bool := decide (cZ s j ≤ 127) && (decide (j = 0) || decide (cZ s (j - 1) < cZ s j))
def kQ (s : ByteArray) : Bool := (List.range s.size).all (kC s)
theorem zS {s : ByteArray} {k : Nat} (hk : k < s.size) (h : kC s k = false) : kQ s = false := by
 unfold kQ
 rw [List.all_eq_false]
 exact ⟨k, List.mem_range.2 hk, by rw [h]; simp⟩
theorem xE {s : ByteArray} (h : ∀ j, j < s.size → kC s j = true) : kQ s = true := by
 unfold kQ
 rw [List.all_eq_true]
 exact fun j hj => h j (List.mem_range.1 hj)
theorem FH : ∀ {a b : List Nat}, a.Pairwise (· < ·) → b.Pairwise (· < ·) → (∀ x, x ∈ a ↔ x ∈ b) → a = b
 | [], [], _, _, _ => rfl
 | [], y :: _, _, _, h => by have := (h y).2 List.mem_cons_self; cases this
 | x :: _, [], _, _, h => by have := (h x).1 List.mem_cons_self; cases this
 | x :: a, y :: b, ha, hb, h => by
   rw [List.pairwise_cons] at ha hb
   have hxy : x = y := by
    rcases mC ((h x).1 List.mem_cons_self) with e | h1
    ·exact e
    rcases mC ((h y).2 List.mem_cons_self) with e | h2
    ·exact e.symm
    have := hb.1 x h1; have := ha.1 y h2; omega
   subst hxy
   rw [FH ha.2 hb.2 fun z => ?_]
   constructor
   ·intro hz
    rcases mC ((h z).1 (List.mem_cons_of_mem _ hz)) with e | h1
    ·have := ha.1 z hz; omega
    exact h1
   intro hz
   rcases mC ((h z).2 (List.mem_cons_of_mem _ hz)) with e | h1
   ·have := hb.1 z hz; omega
   exact h1
def numsOf (s : ByteArray) : List Nat := s.data.toList.map UInt8.toNat
theorem mF (s : ByteArray) (j : Nat) : (numsOf s)[j]? = if j < s.size then some (cZ s j) else none := by
 unfold numsOf cZ
 rw [List.getElem?_map]
 split
 ·rename_i h
  rw [List.getD, gE (by simpa using h)]; rfl
 rename_i h
 rw [List.getElem?_eq_none (by simpa using h)]; rfl
theorem Dc (s : ByteArray) : strOfNums ((numsOf s).map fun (j : Nat) => (j : Int)) = s := by
 apply ByteArray.ext
 apply Array.toList_inj.1
 show List.map _ _ = _
 rw [numsOf, List.map_map, List.map_map]
 conv => rhs; rw [← List.map_id s.data.toList]
 apply List.map_congr_left
 intro x _
 simp
theorem KH {a b : List Nat} (ha : ∀ x ∈ a, x < 256) (hb : ∀ x ∈ b, x < 256) (h : strOfNums (a.map fun (j : Nat) => (j : Int)) = strOfNums (b.map fun (j : Nat) => (j : Int))) : a = b := by
 have h1 := congrArg (fun s => s.data.toList.map UInt8.toNat) h
 simp only [strOfNums_data, List.map_map] at h1
 have e : ∀ l : List Nat, (∀ x ∈ l, x < 256) → l.map (UInt8.toNat ∘ (fun n : Int => UInt8.ofNat n.toNat) ∘ fun (j : Nat) => (j : Int)) = l := by
  intro l hl
  conv => rhs; rw [← List.map_id l]
  apply List.map_congr_left
  intro x hx
  have := hl x hx
  simp; omega
 rw [e a ha, e b hb] at h1
 exact h1
theorem xG (s : ByteArray) (x : Nat) : x ∈ numsOf s ↔ ∃ i, i < s.size ∧ cZ s i = x := by
 rw [List.mem_iff_getElem?]
 constructor
 ·rintro ⟨i, hi⟩
  rw [mF] at hi
  split at hi
  ·rename_i h; exact ⟨i, h, Option.some.inj hi⟩
  cases hi
 rintro ⟨i, h, e⟩
 exact ⟨i, by rw [mF, if_pos h, e]⟩
theorem rF (c : cB) (k : Nat) : (eP c k).Pairwise (· < ·) := (List.pairwise_lt_range (n := k)).filter _
theorem kR (s : ByteArray) : (numsOf s).length = s.size := by rw [numsOf, List.length_map]; rfl
theorem P8 (s : ByteArray) (h : jl s = true) : (dN (bH s) = s) ↔ kQ s = true := by
 have ha : ∀ j, j < s.size → cZ s j ≤ 127 := fun j hj => of_decide_eq_true (List.all_eq_true.1 h j (List.mem_range.2 hj))
 have hm : ∀ x, x ∈ eP (bH s) 128 ↔ x ∈ numsOf s := by
  intro x
  rw [uK h, xG, eP, List.mem_filter, List.mem_range]
  constructor
  ·rintro ⟨h1, h2⟩; exact (Da s x ah s.size ha).1 h2
  rintro ⟨i, hi, e⟩
  have := ha i hi
  exact ⟨ah, (Da s x ah s.size ha).2 ⟨i, hi, e⟩⟩
 have hlt : ∀ x ∈ numsOf s, x < 256 := fun x hx => by obtain ⟨i, hi, e⟩ := (xG s x).1 hx; have := ha i hi; omega
 constructor
 ·intro he
  have h1 : eP (bH s) 128 = numsOf s := KH (fun x hx => hlt x ((hm x).1 hx)) hlt (by rw [Dc]; exact he)
  have hr := rF (bH s) 128
  rw [h1] at hr
  refine xE fun j hj => ?_
  unfold kC
  rw [dT (ha j hj)]
  by_cases h0 : j = 0
  ·simp [h0]
  have := List.pairwise_iff_getElem.1 hr (j - 1) j (by rw [kR]; omega) (by rw [kR]; exact hj) ah
  have g1 := mF s (j - 1)
  have g2 := mF s j
  rw [if_pos ah, gE (by rw [kR]; omega)] at g1
  rw [if_pos hj, gE (by rw [kR]; exact hj)] at g2
  rw [Option.some.inj g1, Option.some.inj g2] at this
  simp [this]
 intro he
 have hr : ∀ j, j < s.size → kC s j = true := fun j hj => List.all_eq_true.1 he j (List.mem_range.2 hj)
 have hstep : ∀ i d, i + d + 1 < s.size → cZ s i < cZ s (i + d + 1) := by
  intro i d
  induction d with
  | zero =>
    intro hi
    have := hr (i + 0 + 1) hi
    simp [kC] at this
    exact this.2
  | succ d ih =>
    intro hi
    have h1 := ih ah
    have := hr (i + (d + 1) + 1) hi
    simp [kC] at this
    have h2 := this.2
    have e : i + (d + 1) = i + d + 1 := ah
    rw [e] at h2 ⊢
    omega
 have hp : (numsOf s).Pairwise (· < ·) := by
  rw [List.pairwise_iff_getElem]
  intro i j hi hj hij
  rw [kR] at hi hj
  have g1 := mF s i
  have g2 := mF s j
  rw [if_pos hi, gE (by rw [kR]; exact hi)] at g1
  rw [if_pos hj, gE (by rw [kR]; exact hj)] at g2
  rw [Option.some.inj g1, Option.some.inj g2]
  obtain ⟨d, rfl⟩ : ∃ d, j = i + d + 1 := ⟨j - i - 1, ah⟩
  exact hstep i d hj
 rw [dN, FH (rF _ _) hp hm, Dc]
theorem MH {s : ByteArray} (h : jl s = false) : kQ s = false := by
 obtain ⟨j, hj, hd⟩ := List.all_eq_false.1 h
 exact zS (List.mem_range.1 hj) (by unfold kC; rw [Bool.eq_false_iff.2 hd]; rfl)
end
end
end Go.Proofs.YthbcamfejgghhaaGreatDoor
