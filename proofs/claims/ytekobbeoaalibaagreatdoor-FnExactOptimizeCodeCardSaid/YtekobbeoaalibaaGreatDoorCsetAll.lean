/- CsetAll: several texts in one. -/
import Derived.Test.YtekobbeoaalibaaGreatDoorProg
import Derived.Test.YtekobbeoaalibaaGreatDoorDat
import Derived.Laws.BitsLemmas
import Derived.Deep.RegionHeld3
section
namespace Go.Proofs.YtekobbeoaalibaaGreatDoor
open Go.RowKit

theorem wrap_bv (v : BitVec 64) : IntKind.i64.wrap (v.toNat : Int) = v.toInt := by
  rw [IntKind.wrap_i64, BitVec.toInt_eq_toNat_cond]
  have := v.isLt
  split <;> omega
theorem bits_or_bv (u v : BitVec 64) : bits .or .i64 u.toInt v.toInt = (u ||| v).toInt := by
  rw [← wrap_bv (u ||| v)]
  simp only [bits, IntKind.bits, BitVec.ofInt_toInt]
  rfl
theorem bits_and_bv (u v : BitVec 64) : bits .and .i64 u.toInt v.toInt = (u &&& v).toInt := by
  rw [← wrap_bv (u &&& v)]
  simp only [bits, IntKind.bits, BitVec.ofInt_toInt]
  rfl
theorem wrap_pow (b : Nat) (h : b ≤ 63) : wrap64 (2 ^ b) = (BitVec.twoPow 64 b).toInt := by
  have h1 : (2 : Nat) ^ b < 2 ^ 64 := Nat.pow_lt_pow_right (by decide) (by omega)
  rw [← wrap_bv, BitVec.toNat_twoPow, Nat.mod_eq_of_lt h1]
  rw [IntKind.wrap_i64, show (((2 ^ b : Nat)) : Int) = 2 ^ b by simp]
  simp only [wrap64]
structure CsetT where
  lo : BitVec 64
  hi : BitVec 64
def CsetT.val (c : CsetT) : Value := .agg #[.int .i64 c.lo.toInt, .int .i64 c.hi.toInt]
def CsetT.add (c : CsetT) (b : Nat) : CsetT := if b ≤ 63 then ⟨c.lo ||| BitVec.twoPow 64 b, c.hi⟩ else ⟨c.lo, c.hi ||| BitVec.twoPow 64 (b - 64)⟩
def CsetT.has (c : CsetT) (b : Nat) : Bool := if b ≤ 63 then c.lo.getLsbD b else c.hi.getLsbD (b - 64)
theorem CsetT.has_add (c : CsetT) (b j : Nat) (hb : b ≤ 127) (hj : j ≤ 127) : (c.add b).has j = (c.has j || decide (j = b)) := by
  unfold CsetT.add CsetT.has
  by_cases h1 : b ≤ 63 <;> by_cases h2 : j ≤ 63 <;> simp [h1, h2, BitVec.getLsbD_twoPow] <;> (try omega)
  all_goals (first | (congr 1; rw [Bool.eq_iff_iff]; simp; omega) | (intro h; omega))
theorem and_pow (u : BitVec 64) (b : Nat) (h : b ≤ 63) : (bits .and .i64 u.toInt (wrap64 (2 ^ b)) != 0) = u.getLsbD b := by
  rw [wrap_pow b h, bits_and_bv, BitVec.and_twoPow]
  cases hb : u.getLsbD b with
  | false => simp
  | true =>
    simp only [if_true]
    rw [bne_iff_ne]
    intro h0
    have : BitVec.twoPow 64 b = 0#64 := by apply BitVec.eq_of_toInt_eq; rw [h0]; rfl
    have h2 := congrArg BitVec.toNat this
    rw [BitVec.toNat_twoPow] at h2
    have h1 : (2 : Nat) ^ b < 2 ^ 64 := Nat.pow_lt_pow_right (by decide) (by omega)
    rw [Nat.mod_eq_of_lt h1] at h2
    have := Nat.two_pow_pos b
    simp at h2

set_option maxRecDepth 100000 in
theorem spec_l2Add (c : CsetT) (b : Nat) (w : World) (hb : b ≤ 127) :
    Calls Tryz.prog 134 #[c.val, .int .u8 b] w fun e w' => e = .returned (c.add b).val ∧ Below w.heap.size w w' := by
  by_cases h : b ≤ 63
  · have HE : Hid (bits .or .i64 c.lo.toInt (wrap64 (2 ^ b)) = (c.lo ||| BitVec.twoPow 64 b).toInt) := by show _ = _; rw [wrap_pow b h, bits_or_bv]
    have HA : Hid ((c.add b).val = .agg #[.int .i64 (c.lo ||| BitVec.twoPow 64 b).toInt, .int .i64 c.hi.toInt]) := by show _ = _; rw [CsetT.add, if_pos h]; rfl
    unfold CsetT.val
    go_enter Tryz.func134, Tryz.ntmps134
    go_wp2_with fail
    refine bodyPost_ret (v := .agg #[.int .i64 (bits .or .i64 c.lo.toInt (wrap64 (2 ^ b))), .int .i64 c.hi.toInt]) ?_ rfl ⟨?_, ((Below.refl _ _).alloc (Nat.le_refl _) _).alloc (by simp) _⟩
    · simp [results, Tryz.results134, go_sem]
    · rw [HE.out]; exact congrArg _ HA.out.symm
  · obtain ⟨d, rfl⟩ : ∃ d : Nat, b = d + 64 := ⟨b - 64, by omega⟩
    have HE : Hid (bits .or .i64 c.hi.toInt (wrap64 (2 ^ d)) = (c.hi ||| BitVec.twoPow 64 d).toInt) := by show _ = _; rw [wrap_pow d (by omega), bits_or_bv]
    have HA : Hid ((c.add (d + 64)).val = .agg #[.int .i64 c.lo.toInt, .int .i64 (c.hi ||| BitVec.twoPow 64 d).toInt]) := by show _ = _; rw [CsetT.add, if_neg h, Nat.add_sub_cancel]; rfl
    unfold CsetT.val
    go_enter Tryz.func134, Tryz.ntmps134
    go_wp2_with fail
    refine bodyPost_ret (v := .agg #[.int .i64 c.lo.toInt, .int .i64 (bits .or .i64 c.hi.toInt (wrap64 (2 ^ d)))]) ?_ rfl ⟨?_, ((Below.refl _ _).alloc (Nat.le_refl _) _).alloc (by simp) _⟩
    · simp [results, Tryz.results134, go_sem]
    · rw [HE.out]; exact congrArg _ HA.out.symm
set_option maxRecDepth 100000 in
theorem spec_HasByte (c : CsetT) (b : Nat) (w : World) (hb : b ≤ 127) :
    Calls Tryz.prog 135 #[c.val, .int .u8 b] w fun e w' => e = .returned (.bool (c.has b)) ∧ Below w.heap.size w w' := by
  by_cases h : b ≤ 63
  · have HE : Hid ((bits .and .i64 c.lo.toInt (wrap64 (2 ^ b)) != 0) = c.has b) := by show _ = _; rw [and_pow _ b h, CsetT.has, if_pos h]
    unfold CsetT.val
    go_enter Tryz.func135, Tryz.ntmps135
    go_wp2_with fail
    go_ret
    exact ⟨ret_bool HE.out, (Below.refl _ _).alloc (Nat.le_refl _) _⟩
  · obtain ⟨d, rfl⟩ : ∃ d : Nat, b = d + 64 := ⟨b - 64, by omega⟩
    have HE : Hid ((bits .and .i64 c.hi.toInt (wrap64 (2 ^ d)) != 0) = c.has (d + 64)) := by show _ = _; rw [and_pow _ d (by omega), CsetT.has, if_neg h, Nat.add_sub_cancel]
    unfold CsetT.val
    go_enter Tryz.func135, Tryz.ntmps135
    go_wp2_with fail
    go_ret
    exact ⟨ret_bool HE.out, (Below.refl _ _).alloc (Nat.le_refl _) _⟩
end Go.Proofs.YtekobbeoaalibaaGreatDoor
end

section
namespace Go.Proofs.YtekobbeoaalibaaGreatDoor
open Go.RowKit

def csetTo (s : ByteArray) (k : Nat) : CsetT := (List.range k).foldl (fun c j => c.add (byteAt s j)) ⟨0#64, 0#64⟩
theorem csetTo_succ (s : ByteArray) (k : Nat) : csetTo s (k + 1) = (csetTo s k).add (byteAt s k) := by simp [csetTo, List.range_succ]
theorem csetTo_has (s : ByteArray) (j : Nat) (hj : j ≤ 127) : ∀ k, (∀ i, i < k → byteAt s i ≤ 127) → ((csetTo s k).has j = true ↔ ∃ i, i < k ∧ byteAt s i = j) := by
  intro k
  induction k with
  | zero => intro _; simp [csetTo, CsetT.has]
  | succ k ih =>
    intro h
    rw [csetTo_succ, CsetT.has_add _ _ _ (h k (by omega)) hj, Bool.or_eq_true, ih (fun i hi => h i (by omega)), decide_eq_true_eq]
    constructor
    · rintro (⟨i, hi, e⟩ | e)
      · exact ⟨i, by omega, e⟩
      · exact ⟨k, by omega, e.symm⟩
    · rintro ⟨i, hi, e⟩
      by_cases hk : i = k
      · subst hk; exact .inr e.symm
      · exact .inl ⟨i, by omega, e⟩
def asciiB (s : ByteArray) : Bool := (List.range s.size).all fun j => decide (byteAt s j ≤ 127)
theorem ascii_no {s : ByteArray} {k : Nat} (hk : k < s.size) (h : 127 < byteAt s k) : asciiB s = false := by
  unfold asciiB
  rw [List.all_eq_false]
  exact ⟨k, List.mem_range.2 hk, by simp; omega⟩
theorem ascii_yes {s : ByteArray} (h : ∀ j, j < s.size → byteAt s j ≤ 127) : asciiB s = true := by
  unfold asciiB
  rw [List.all_eq_true]
  exact fun j hj => decide_eq_true (h j (List.mem_range.1 hj))

def newCset (s : ByteArray) : CsetT := if asciiB s then csetTo s s.size else ⟨0#64, 0#64⟩
theorem newCset_no {s : ByteArray} (h : asciiB s = false) : newCset s = ⟨0#64, 0#64⟩ := by simp [newCset, h]
theorem newCset_yes {s : ByteArray} (h : asciiB s = true) : newCset s = csetTo s s.size := by simp [newCset, h]
/-- a struct result and a flag -/
def CsetPair (c : CsetT) (ok : Bool) (w : World) (e : Ending) (w' : World) : Prop := e = .returned (.tuple #[c.val, .bool ok]) ∧ Below w.heap.size w w'
set_option maxRecDepth 100000 in
set_option maxHeartbeats 1000000 in
theorem spec_NewCset (s : ByteArray) (w : World) (hs : s.size ≤ 1048576) :
    Calls Tryz.prog 113 #[.string s] w (CsetPair (newCset s) (asciiB s) w) := by
  go_enter Tryz.func113, Tryz.ntmps113
  go_wp2_with fail
  go_loopw [5] (fun i wr => ∃ k : Nat, k ≤ s.size ∧ i = .int .i64 k ∧ Hid (∀ j, j < k → byteAt s j ≤ 127) ∧ Blk wr w.heap.size 148 #[.int .i64 0, .int .i64 0] ∧ Blk wr (w.heap.size + 1) 148 #[.int .i64 (csetTo s k).lo.toInt, .int .i64 (csetTo s k).hi.toInt] ∧ Below w.heap.size w wr) (fun i _ => s.size - (intOf i).toNat)
  case atStart => exact ⟨0, Nat.zero_le _, rfl, (fun j hj => by omega), (Blk.new w _ _).alloc _, Blk.newAt _ _ _ _ (by simp), ((Below.refl _ _).alloc (Nat.le_refl _) _).alloc (by simp) _⟩
  case round =>
    obtain ⟨k, hk, rfl, hgo, hr, hc, hb⟩ := hrel
    obtain ⟨wo, rfl⟩ : ∃ wo : World, wo = wr := ⟨_, rfl⟩
    have hz := hb.size
    by_cases hlt : k < s.size
    · have HK := Lib.hid (byteAt_eq s k hlt)
      by_cases h7 : 127 < s[k].toNat
      · have HN := Lib.hid (ascii_no hlt (by rw [HK.out]; exact h7))
        have cr := hr.cell
        have fr := hr.frozen
        go_wp2_with fail
        refine bodyPost_ret (v := .tuple #[.agg #[.int .i64 0, .int .i64 0], .bool false]) ?_ rfl ⟨?_, ?_⟩
        · simp [results, Tryz.results113, go_sem, cr]
        · rw [newCset_no HN.out, HN.out]; rfl
        · exact (hb.setCell (p := ⟨w.heap.size, 0, none⟩) (Nat.le_refl _) _).setCell (p := ⟨w.heap.size, 1, none⟩) (Nat.le_refl _) _
      · have hb7 : s[k].toNat ≤ 127 := by omega
        have HG : Hid (∀ j, j < k + 1 → byteAt s j ≤ 127) := by
          intro j hj
          by_cases e : j = k
          · rw [e, HK.out]; exact hb7
          · exact hgo.out j (by omega)
        have HS := Lib.hid (csetTo_succ s k)
        have cc := hc.cell
        have e0 : (0 : Int) ≤ (k : Int) := by omega
        have e8 : (k : Int) < (s.size : Int) := by omega
        clear hgo
        go_wp2_with fail
        go_region_with (first
          | (go_at_call 134; refine (spec_l2Add (csetTo s k) s[k].toNat _ hb7).mono ?_; rintro e w1 ⟨rfl, hb1⟩; unfold CsetT.val; have cc1 := (hc.drew.later hb1).cell; have fc1 := (hc.drew.later hb1).frozen))
        all_goals
          have hr1 := hr.drew.later hb1
          have hc1 := hc.drew.later hb1
          have hb2 : Below w.heap.size w w1 := hb.drew.trans (hb1.mono hz)
          clear cc cc1 fc1
          go_wp2_with fail
          go_roundw
          case rel =>
            refine ⟨k + 1, by omega, by go_num, HG, (hr1.far (p := ⟨w.heap.size + 1, 0, none⟩) (by simp) _).far (p := ⟨w.heap.size + 1, 1, none⟩) (by simp) _, ?_, (hb2.setCell (p := ⟨w.heap.size + 1, 0, none⟩) (by simp) _).setCell (p := ⟨w.heap.size + 1, 1, none⟩) (by simp) _⟩
            rw [HS.out, HK.out]
            exact (hc1.set_ 0 _).set_ 1 _
          case measure => simp [intOf]; omega
    · obtain rfl : k = s.size := by omega
      have HY := Lib.hid (ascii_yes hgo.out)
      have cc := hc.cell
      have cr := hr.cell
      have fr := hr.frozen
      clear hgo
      go_wp2_with fail
      refine bodyPost_ret (v := .tuple #[(csetTo s s.size).val, .bool true]) ?_ rfl ⟨?_, ?_⟩
      · simp [results, Tryz.results113, go_sem, cr, CsetT.val]
      · rw [newCset_yes HY.out, HY.out]
      · exact (hb.setCell (p := ⟨w.heap.size, 0, none⟩) (Nat.le_refl _) _).setCell (p := ⟨w.heap.size, 1, none⟩) (Nat.le_refl _) _
end Go.Proofs.YtekobbeoaalibaaGreatDoor
end

section
namespace Go.Proofs.YtekobbeoaalibaaGreatDoor
open Go.RowKit

def csetNums (c : CsetT) (k : Nat) : List Nat := (List.range k).filter c.has
def csetText (c : CsetT) : ByteArray := strOfNums ((csetNums c 128).map fun (j : Nat) => (j : Int))
theorem csetNums_yes {c : CsetT} {k : Nat} (h : c.has k = true) : csetNums c (k + 1) = csetNums c k ++ [k] := by simp [csetNums, List.range_succ, List.filter_append, h]
theorem csetNums_no {c : CsetT} {k : Nat} (h : c.has k = false) : csetNums c (k + 1) = csetNums c k := by simp [csetNums, List.range_succ, List.filter_append, h]
theorem csetNums_len (c : CsetT) (k : Nat) : (csetNums c k).length ≤ k := by
  have := List.length_filter_le c.has (List.range k)
  simpa [csetNums] using this
theorem own_base' {w : World} {base base' : Nat} {e : TypeId} {size n : Nat} {v : Value} {xs : List Value} (h : w.ownsRow base e size v n xs) (hb : base' ≤ base) : w.ownsRow base' e size v n xs := by
  refine ⟨h.1, ?_⟩
  rcases h.2 with h0 | ⟨g, cap, cur, h1, h2, h3⟩
  · exact .inl h0
  · exact .inr ⟨g, cap, cur, h1, Nat.le_trans hb h2, h3⟩
def IsSl (v : Value) (n : Nat) : Prop := ∃ g cap, v = .slice (some ⟨g, 0, none⟩) n cap
theorem info_u8 : (Tryz.prog.info? 5).map (fun i => (i.zero, i.size, i.bytes)) = some (some (.int .u8 0), 1, 1) := by kernel_rfl

set_option maxRecDepth 100000 in
set_option maxHeartbeats 1000000 in
theorem spec_CsetText (c : CsetT) (w : World) :
    Calls Tryz.prog 114 #[c.val] w fun e w' => e = .returned (.string (csetText c)) ∧ Below w.heap.size w w' := by
  have hcv := fun (W : World) (g cap n : Nat) (xs : List Int) (hl : xs.length = n) (hc : ∀ i, i < n → W.cell? ⟨g, 0 + i, none⟩ = some (.int .u8 (xs.getD i 0))) => run_convert_bytes_arg (P := Tryz.prog) W 77 5 Tryz.underlying77 Tryz.underlying5 g 0 n cap xs hl hc 9 Tryz.underlying9
  have HCV := Lib.hid hcv
  clear hcv
  unfold CsetT.val
  go_enter Tryz.func114, Tryz.ntmps114
  go_wp2_with fail
  go_loopw [3, 4] (fun v i wr => ∃ k : Nat, k ≤ 128 ∧ i = .int .i64 k ∧ wr.ownsRow w.heap.size 5 1 v (csetNums c k).length ((csetNums c k).map fun (j : Nat) => Value.int .u8 (j : Int)) ∧ IsSl v (csetNums c k).length ∧ Blk wr w.heap.size 148 #[.int .i64 c.lo.toInt, .int .i64 c.hi.toInt] ∧ v.ownBlock ≠ some w.heap.size ∧ Below w.heap.size w wr) (fun _ i _ => 128 - (intOf i).toNat)
  case atStart =>
    have h0 := World.ownsRow_lit (w.alloc (.cells #[.int .i64 c.lo.toInt, .int .i64 c.hi.toInt] 148)) #[] 0 (e := 5) (size := 1) (Nat.le_refl _) (by decide) rfl
    have h1 := own_base' h0 (base' := w.heap.size) (by simp)
    refine ⟨0, Nat.zero_le _, rfl, ?_, ⟨w.heap.size + 1, 0, rfl⟩, (Blk.new w _ _).alloc _, (by simp [Value.ownBlock]), ((Below.refl _ _).alloc (Nat.le_refl _) _).alloc (by simp) _⟩
    simpa [csetNums] using h1
  case round =>
    obtain ⟨k, hk, rfl, hown, hsl, ha, hne, hb⟩ := hrel
    obtain ⟨wo, rfl⟩ : ∃ wo : World, wo = wr := ⟨_, rfl⟩
    obtain ⟨v, hv⟩ : ∃ v, v = u3 := ⟨_, rfl⟩
    subst hv
    have hz := hb.size
    have hln := csetNums_len c k
    by_cases hlt : k < 128
    · have ca := ha.cell
      have HC := Lib.hid (fun w => spec_HasByte c k w (by omega))
      cases hh : c.has k with
      | true =>
        rw [hh] at HC
        have HS := Lib.hid (csetNums_yes hh)
        clear hh
        go_wp2_with fail
        refine (HC.out _).mono ?_; rintro e w1 ⟨rfl, hb1⟩
        have hown1 := own_later hown hb1
        have ha1 := ha.later hb1
        have hb2 := hb.trans (hb1.mono hz)
        clear hown ca ha hb1 hsl
        go_wp2_with (first | (at_builtin; refine wpList_push rfl (.tmp 14) (.tmp 17) 77 rfl 5 _ 1 1 info_u8 Tryz.underlying77 rfl (by decide) (by decide) w.heap.size v _ _ rfl hown1 #[.int .u8 k] 1 _ rfl rfl (by simp [Value.oneCell']) (by omega) hb2.size ?_))
        rintro v' w2 hown2 hgrow hat
        have hb3 := below_push hb2 hb2.size hown1 hgrow
        have ha3 := ha1.grown hgrow (fun e => hne e.symm)
        have hne3 : v'.ownBlock ≠ some w.heap.size := by
          rcases hat with e | e
          · rw [e]; exact hne
          · rw [e]; intro h; injection h with h; have := hb2.size; omega
        obtain ⟨g, cap, hv', -⟩ := hown2.form (by omega)
        have ho3 : w2.ownsRow w.heap.size 5 1 v' (csetNums c (k + 1)).length ((csetNums c (k + 1)).map fun (j : Nat) => Value.int .u8 (j : Int)) := by rw [HS.out]; simpa using hown2
        have hs3 : IsSl v' (csetNums c (k + 1)).length := ⟨g, cap, by rw [HS.out, hv']; simp⟩
        clear hown2 hgrow hat hown1 hv' ha1 hne
        go_wp2_with fail
        go_roundw
        case rel => exact ⟨k + 1, by omega, by go_num, ho3, hs3, ha3, hne3, hb3⟩
        case measure => simp [intOf]; omega
      | false =>
        rw [hh] at HC
        have HS := Lib.hid (csetNums_no hh)
        clear hh
        go_wp2_with fail
        refine (HC.out _).mono ?_; rintro e w1 ⟨rfl, hb1⟩
        have hown1 := own_later hown hb1
        have ha1 := ha.later hb1
        have hb2 := hb.trans (hb1.mono hz)
        clear hown ca ha hb1
        go_wp2_with fail
        go_roundw
        case rel => exact ⟨k + 1, by omega, by go_num, by rw [HS.out]; exact hown1, by rw [HS.out]; exact hsl, ha1, hne, hb2⟩
        case measure => simp [intOf]; omega
    · obtain rfl : k = 128 := by omega
      obtain ⟨g, cap, rfl⟩ := hsl
      have hcv := HCV.out wo g cap (csetNums c 128).length ((csetNums c 128).map fun (j : Nat) => (j : Int)) (by simp) (fun i hi => by
        have := hown.cellAt i (by omega)
        rw [Nat.zero_add, this, List.getElem?_map, List.getElem?_eq_getElem hi, List.getD, List.getElem?_map, List.getElem?_eq_getElem hi]
        rfl)
      clear hown HCV
      go_wp2_with fail
      go_ret
      exact ⟨rfl, hb⟩

/-- byte j is ASCII, and greater than the one before -/
def riseAt (s : ByteArray) (j : Nat) : Bool := decide (byteAt s j ≤ 127) && (decide (j = 0) || decide (byteAt s (j - 1) < byteAt s j))
def csetOk (s : ByteArray) : Bool := (List.range s.size).all (riseAt s)
theorem csetOk_no {s : ByteArray} {k : Nat} (hk : k < s.size) (h : riseAt s k = false) : csetOk s = false := by
  unfold csetOk
  rw [List.all_eq_false]
  exact ⟨k, List.mem_range.2 hk, by rw [h]; simp⟩
theorem csetOk_yes {s : ByteArray} (h : ∀ j, j < s.size → riseAt s j = true) : csetOk s = true := by
  unfold csetOk
  rw [List.all_eq_true]
  exact fun j hj => h j (List.mem_range.1 hj)

set_option maxRecDepth 100000 in
set_option maxHeartbeats 1000000 in
theorem impl_isCsetText (s : ByteArray) (w : World) (hs : s.size ≤ 1048576) :
    Calls Tryz.prog 121 #[.string s] w fun e w' => e = .returned (.bool (csetOk s)) ∧ Same w w' := by
  go_enter Tryz.func121, Tryz.ntmps121
  go_wp2_with fail
  go_loopw [3] (fun i wr => ∃ k : Nat, k ≤ s.size ∧ i = .int .i64 k ∧ Hid (∀ j, j < k → riseAt s j = true) ∧ Same w wr) (fun i _ => s.size - (intOf i).toNat)
  case atStart => exact ⟨0, Nat.zero_le _, rfl, (fun j hj => by omega), Same.refl _⟩
  case round =>
    obtain ⟨k, hk, rfl, hgo, hsm⟩ := hrel
    obtain ⟨wo, rfl⟩ : ∃ wo : World, wo = wr := ⟨_, rfl⟩
    by_cases hlt : k < s.size
    · have e0 : (0 : Int) ≤ (k : Int) := by omega
      have e8 : (k : Int) < (s.size : Int) := by omega
      have HK := byteAt_eq s k hlt
      by_cases h7 : 127 < s[k].toNat
      · have HN := Lib.hid (csetOk_no hlt (by unfold riseAt; rw [HK, decide_eq_false (by omega)]; rfl))
        have d7 : decide ((127 : Int) < (s[k].toNat : Int)) = true := by simp; omega
        have n7 : decide (127 < s[k].toNat) = true := decide_eq_true h7
        clear HK hgo
        go_wp2_with fail
        go_quiet (fail)
        go_wp2_with fail
        go_ret
        exact ⟨ret_bool HN.out.symm, hsm.drewN _⟩
      have d7 : decide ((127 : Int) < (s[k].toNat : Int)) = false := by simp; omega
      have n7 : decide (127 < s[k].toNat) = false := decide_eq_false h7
      by_cases hk0 : k = 0
      · have HN : Hid (∀ j, j < k + 1 → riseAt s j = true) := by
          intro j hj
          obtain rfl : j = k := by omega
          unfold riseAt; rw [HK, decide_eq_true (by omega : s[j].toNat ≤ 127), decide_eq_true hk0]; rfl
        have d0 : decide ((0 : Int) < (k : Int)) = false := by simp; omega
        have n0 : decide (0 < k) = false := decide_eq_false (by omega)
        clear HK hgo hk0
        go_wp2_with fail
        go_quiet (fail)
        go_wp2_with fail
        go_roundw
        case rel => exact ⟨k + 1, by omega, by go_num, HN, hsm.drewN _⟩
        case measure => simp [intOf]; omega
      obtain ⟨m, hmk⟩ : ∃ m : Nat, k = m + 1 := ⟨k - 1, by omega⟩
      have hm : m < s.size := by omega
      have HM := byteAt_eq s m hm
      have d0 : decide ((0 : Int) < (k : Int)) = true := decide_eq_true (by omega)
      have n0 : decide (0 < k) = true := decide_eq_true (by omega)
      have g1 : IntKind.i64.wrap ((k : Int) - 1) = (m : Int) := (IntWalk.i64_in _ (by omega)).trans (by omega)
      have f0 : (0 : Int) ≤ (m : Int) := by omega
      have f8 : (m : Int) < (s.size : Int) := by omega
      have hkm : k - 1 = m := by omega
      by_cases hle : s[k].toNat ≤ s[m].toNat
      · have HN := Lib.hid (csetOk_no hlt (by unfold riseAt; rw [hkm, HK, HM, decide_eq_false hk0, decide_eq_false (by omega : ¬ s[m].toNat < s[k].toNat)]; simp))
        have l7 : decide (s[k].toNat ≤ s[m].toNat) = true := decide_eq_true hle
        clear HK HM hgo hk0 hmk hkm
        go_wp2_with fail
        go_quiet (fail)
        go_wp2_with fail
        go_ret
        exact ⟨ret_bool HN.out.symm, hsm.drewN _⟩
      · have HN : Hid (∀ j, j < k + 1 → riseAt s j = true) := by
          intro j hj
          by_cases e : j = k
          · unfold riseAt; rw [e, hkm, HK, HM, decide_eq_true (by omega : s[k].toNat ≤ 127), decide_eq_true (by omega : s[m].toNat < s[k].toNat)]; simp
          · exact hgo.out j (by omega)
        have l7 : decide (s[k].toNat ≤ s[m].toNat) = false := decide_eq_false hle
        clear HK HM hgo hk0 hmk hkm
        go_wp2_with fail
        go_quiet (fail)
        go_wp2_with fail
        go_roundw
        case rel => exact ⟨k + 1, by omega, by go_num, HN, hsm.drewN _⟩
        case measure => simp [intOf]; omega
    · obtain rfl : k = s.size := by omega
      have HY := Lib.hid (csetOk_yes hgo.out)
      clear hgo
      go_wp2_with fail
      go_ret
      exact ⟨ret_bool HY.out.symm, hsm⟩

theorem rise_uniq : ∀ {a b : List Nat}, a.Pairwise (· < ·) → b.Pairwise (· < ·) → (∀ x, x ∈ a ↔ x ∈ b) → a = b
  | [], [], _, _, _ => rfl
  | [], y :: _, _, _, h => by have := (h y).2 List.mem_cons_self; cases this
  | x :: _, [], _, _, h => by have := (h x).1 List.mem_cons_self; cases this
  | x :: a, y :: b, ha, hb, h => by
    rw [List.pairwise_cons] at ha hb
    have hxy : x = y := by
      rcases List.mem_cons.1 ((h x).1 List.mem_cons_self) with e | h1
      · exact e
      · rcases List.mem_cons.1 ((h y).2 List.mem_cons_self) with e | h2
        · exact e.symm
        · have := hb.1 x h1; have := ha.1 y h2; omega
    subst hxy
    rw [rise_uniq ha.2 hb.2 fun z => ?_]
    constructor
    · intro hz
      rcases List.mem_cons.1 ((h z).1 (List.mem_cons_of_mem _ hz)) with e | h1
      · have := ha.1 z hz; omega
      · exact h1
    · intro hz
      rcases List.mem_cons.1 ((h z).2 (List.mem_cons_of_mem _ hz)) with e | h1
      · have := hb.1 z hz; omega
      · exact h1
def numsOf (s : ByteArray) : List Nat := s.data.toList.map UInt8.toNat
theorem numsOf_get (s : ByteArray) (j : Nat) : (numsOf s)[j]? = if j < s.size then some (byteAt s j) else none := by
  unfold numsOf byteAt
  rw [List.getElem?_map]
  split
  · rename_i h
    rw [List.getD, List.getElem?_eq_getElem (by simpa using h)]; rfl
  · rename_i h
    rw [List.getElem?_eq_none (by simpa using h)]; rfl
theorem str_nums (s : ByteArray) : strOfNums ((numsOf s).map fun (j : Nat) => (j : Int)) = s := by
  apply ByteArray.ext
  apply Array.toList_inj.1
  show List.map _ _ = _
  rw [numsOf, List.map_map, List.map_map]
  conv => rhs; rw [← List.map_id s.data.toList]
  apply List.map_congr_left
  intro x _
  simp
theorem nums_inj {a b : List Nat} (ha : ∀ x ∈ a, x < 256) (hb : ∀ x ∈ b, x < 256) (h : strOfNums (a.map fun (j : Nat) => (j : Int)) = strOfNums (b.map fun (j : Nat) => (j : Int))) : a = b := by
  have h1 := congrArg (fun s => s.data.toList.map UInt8.toNat) h
  simp only [strOfNums_data, List.map_map] at h1
  have e : ∀ l : List Nat, (∀ x ∈ l, x < 256) → l.map (UInt8.toNat ∘ (fun n : Int => UInt8.ofNat n.toNat) ∘ fun (j : Nat) => (j : Int)) = l := by
    intro l hl
    conv => rhs; rw [← List.map_id l]
    apply List.map_congr_left
    intro x hx
    have := hl x hx
    simp; omega
  rw [e a ha, e b hb] at h1
  exact h1
theorem numsOf_mem (s : ByteArray) (x : Nat) : x ∈ numsOf s ↔ ∃ i, i < s.size ∧ byteAt s i = x := by
  rw [List.mem_iff_getElem?]
  constructor
  · rintro ⟨i, hi⟩
    rw [numsOf_get] at hi
    split at hi
    · rename_i h; exact ⟨i, h, Option.some.inj hi⟩
    · cases hi
  · rintro ⟨i, h, e⟩
    exact ⟨i, by rw [numsOf_get, if_pos h, e]⟩
theorem csetNums_rise (c : CsetT) (k : Nat) : (csetNums c k).Pairwise (· < ·) := (List.pairwise_lt_range (n := k)).filter _
theorem numsOf_len (s : ByteArray) : (numsOf s).length = s.size := by rw [numsOf, List.length_map]; rfl
/-- a text is the text of its own set iff it rises -/
theorem cset_same (s : ByteArray) (h : asciiB s = true) : (csetText (newCset s) = s) ↔ csetOk s = true := by
  have ha : ∀ j, j < s.size → byteAt s j ≤ 127 := fun j hj => of_decide_eq_true (List.all_eq_true.1 h j (List.mem_range.2 hj))
  have hm : ∀ x, x ∈ csetNums (newCset s) 128 ↔ x ∈ numsOf s := by
    intro x
    rw [newCset_yes h, numsOf_mem, csetNums, List.mem_filter, List.mem_range]
    constructor
    · rintro ⟨h1, h2⟩; exact (csetTo_has s x (by omega) s.size ha).1 h2
    · rintro ⟨i, hi, e⟩
      have := ha i hi
      exact ⟨by omega, (csetTo_has s x (by omega) s.size ha).2 ⟨i, hi, e⟩⟩
  have hlt : ∀ x ∈ numsOf s, x < 256 := fun x hx => by obtain ⟨i, hi, e⟩ := (numsOf_mem s x).1 hx; have := ha i hi; omega
  constructor
  · intro he
    have h1 : csetNums (newCset s) 128 = numsOf s := nums_inj (fun x hx => hlt x ((hm x).1 hx)) hlt (by rw [str_nums]; exact he)
    have hr := csetNums_rise (newCset s) 128
    rw [h1] at hr
    refine csetOk_yes fun j hj => ?_
    unfold riseAt
    rw [decide_eq_true (ha j hj)]
    by_cases h0 : j = 0
    · simp [h0]
    · have := List.pairwise_iff_getElem.1 hr (j - 1) j (by rw [numsOf_len]; omega) (by rw [numsOf_len]; exact hj) (by omega)
      have g1 := numsOf_get s (j - 1)
      have g2 := numsOf_get s j
      rw [if_pos (by omega), List.getElem?_eq_getElem (by rw [numsOf_len]; omega)] at g1
      rw [if_pos hj, List.getElem?_eq_getElem (by rw [numsOf_len]; exact hj)] at g2
      rw [Option.some.inj g1, Option.some.inj g2] at this
      simp [this]
  · intro he
    have hr : ∀ j, j < s.size → riseAt s j = true := fun j hj => List.all_eq_true.1 he j (List.mem_range.2 hj)
    have hstep : ∀ i d, i + d + 1 < s.size → byteAt s i < byteAt s (i + d + 1) := by
      intro i d
      induction d with
      | zero =>
        intro hi
        have := hr (i + 0 + 1) hi
        simp [riseAt] at this
        exact this.2
      | succ d ih =>
        intro hi
        have h1 := ih (by omega)
        have := hr (i + (d + 1) + 1) hi
        simp [riseAt] at this
        have h2 := this.2
        have e : i + (d + 1) = i + d + 1 := by omega
        rw [e] at h2 ⊢
        omega
    have hp : (numsOf s).Pairwise (· < ·) := by
      rw [List.pairwise_iff_getElem]
      intro i j hi hj hij
      rw [numsOf_len] at hi hj
      have g1 := numsOf_get s i
      have g2 := numsOf_get s j
      rw [if_pos hi, List.getElem?_eq_getElem (by rw [numsOf_len]; exact hi)] at g1
      rw [if_pos hj, List.getElem?_eq_getElem (by rw [numsOf_len]; exact hj)] at g2
      rw [Option.some.inj g1, Option.some.inj g2]
      obtain ⟨d, rfl⟩ : ∃ d, j = i + d + 1 := ⟨j - i - 1, by omega⟩
      exact hstep i d hj
    rw [csetText, rise_uniq (csetNums_rise _ _) hp hm, str_nums]
theorem cset_ascii {s : ByteArray} (h : asciiB s = false) : csetOk s = false := by
  obtain ⟨j, hj, hd⟩ := List.all_eq_false.1 h
  exact csetOk_no (List.mem_range.1 hj) (by unfold riseAt; rw [Bool.eq_false_iff.2 hd]; rfl)
end Go.Proofs.YtekobbeoaalibaaGreatDoor
end
