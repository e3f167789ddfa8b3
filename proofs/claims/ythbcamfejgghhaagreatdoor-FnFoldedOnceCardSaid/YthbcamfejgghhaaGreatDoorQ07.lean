/- Vp and Y6 of both sides. -/
import Derived.Test.YthbcamfejgghhaaGreatDoorQ02
set_option maxRecDepth 100000
set_option maxHeartbeats 8000000
set_option linter.unusedVariables false
set_option linter.unusedSimpArgs false
namespace Go.Proofs.YthbcamfejgghhaaGreatDoor
open Go.IntKind (i64)
open Go.RowKit
def yX : Code → List ByteArray
 | .seq a b => yX a ++ yX b
 | .region _ ops _ => ops.toList.flatMap fun o => match o.op with
   | .buildSlice _ _ ps => ps.toList.map fun p => match p.2 with
     | .const (.string s) => s
     | _ => ByteArray.empty
   | _ => []
 | .block _ c => yX c
 | .scope c => yX c
 | _ => []
noncomputable def jX : List ByteArray := match Tryz.f69.body with
 | some c => yX c
 | none => []
theorem oV : jX.length = 26 := aI
noncomputable def wY (s : ByteArray) : Bool := Lib.containsS jX s
def iB (c : Nat) : Bool := decide ((97 ≤ c ∧ c ≤ 122) ∨ (65 ≤ c ∧ c ≤ 90) ∨ c = 95)
def mh (c : Nat) : Bool := decide (48 ≤ c ∧ c ≤ 57)
def uf (c : Nat) : Bool := iB c || mh c
noncomputable def bJ (s : ByteArray) : Bool := decide (1 ≤ s.size) && decide (s.size ≤ 12) && iB (cZ s 0) && !wY s && (List.range s.size).all fun j => uf (cZ s j)
theorem MI (c : Nat) (w : World) (_hc : c ≤ 255) : Calls Tryz.prog 58 #[.int .u8 c] w fun e w' => e = .returned (.bool (iB c)) ∧ w = w' := by
 exact Jg
theorem FI (c : Nat) (w : World) (_hc : c ≤ 255) : Calls Tryz.prog 56 #[.int .u8 c] w fun e w' => e = .returned (.bool (mh c)) ∧ w = w' := by
 exact Jh
theorem iD (c : Nat) (w : World) (_hc : c ≤ 255) : Calls Tryz.prog 68 #[.int .u8 c] w fun e w' => e = .returned (.bool (iB c)) ∧ w = w' := by
 exact Jg
theorem kH (c : Nat) (w : World) (_hc : c ≤ 255) : Calls Tryz.prog 70 #[.int .u8 c] w fun e w' => e = .returned (.bool (mh c)) ∧ w = w' := by
 exact Jh
theorem De (v : Value) (l : List ByteArray) (s : ByteArray) (w : World) {lo hi : Nat} (h : Rds w lo hi 1 v l.length (l.map .string)) :
 Calls Tryz.prog 105 #[v, s] w fun e w' => e = .returned (.bool (Lib.containsS l s)) ∧ w = w' := by
 obtain ⟨A, c, rfl, hc1, hc2, -⟩ := h.shape
 unfold maxLen at hc2
 go_in
 go_wp2_with fail
 go_loop [5] (fun i => ∃ k : Nat, k ≤ l.length ∧ i = .int i64 k ∧ Hid (s ∉ l.take k)) (fun i => l.length - (intOf i).toNat)
 case atStart => exact ⟨0, nZ _, rfl, by simp [Hid]⟩
 obtain ⟨k, hk, rfl, hno⟩ := hrel
 by_cases hlt : k < l.length
 ·obtain ⟨g, off, x, rfl, -, -, hx, hcell⟩ := h.Rm hlt
  by_cases he : x = s
  ·subst he
   have HM := lH (mG hx)
   have b := str_eq x
   clear hx
   go_wp2_with fail
   go_ret
   exact ⟨bD ((Lib.containsS_iff _ _).2 HM.out).symm, rfl⟩
  have b := GD he
  have HN : Hid (s ∉ l.take (k + 1)) := by show _; rw [gB hx]; intro hm; rcases mA hm with h1 | h1; exact hno.out h1; exact he (mS h1).symm
  clear hx hno
  exact NZ
 obtain rfl : k = l.length := by omega
 rw [List.take_length] at hno
 go_wp2_with fail
 go_ret
 exact ⟨bD (by rw [Bool.eq_false_iff.2 (fun hc => hno.out ((Lib.containsS_iff _ _).1 hc))]), rfl⟩
theorem pI (s : ByteArray) (w : World) : Calls Tryz.prog 69 #[.string s] w fun e w' => e = .returned (.bool (wY s)) ∧ Below w.heap.size w w' := by
 have H1 : Hid (∀ c : Array Value, c = (jX.map Value.string).toArray → Rds (w.alloc (.cells c 9)) w.heap.size (w.heap.size + 1) 1 (.slice (some (aj w.heap.size 0)) 26 26) jX.length (jX.map .string)) := by
  intro c hc
  rw [hc, oV]
  refine ⟨_, _, rfl, nR _, aA, by rw [List.length_map, oV], l8, fun _ => ⟨_, 0, rfl, nR _, Nat.lt_succ_self _, fun j u hu => ?_⟩⟩
  rw [Nat.zero_add, (Blk.new w 9 _).cell j, List.getElem?_toArray]
  exact hu
 go_in
 go_wp2_with fail
 refine (De _ jX s _ (H1.out _ aI)).mono ?_; rintro e w1 ⟨rfl, rfl⟩
 go_wp2_with fail
 go_ret
 exact ⟨rfl, bA _ _⟩
theorem xH (w : World) (ht : bT w) : Calls Tryz.prog 94 #[] w fun e w' => e = .returned (.slice (some (aj w.heap.size 0)) 26 26) ∧ Blk w' w.heap.size 9 (jX.map Value.string).toArray ∧ Below w.heap.size w w' := by
 go_in
 go_wp2_with fail
 refine kV 26 aA gP gP gP ht ?_
 intro l w1 hd hl hne hB hb
 have he : l = jX := hd.trans aI
 rw [he] at hB
 clear hd he hl hne
 go_wp2_with fail
 go_ret
 exact ⟨rfl, hB, hb⟩
theorem Bv (s : ByteArray) (w : World) (ht : bT w) : Calls Tryz.prog 57 #[.string s] w fun e w' => e = .returned (.bool (wY s)) ∧ Below w.heap.size w w' := by
 have HE : Hid (Lib.containsS (jX.take 26) s = wY s) := lH (by rw [List.take_of_length_le (by rw [oV]; exact nR _)]; rfl)
 go_in
 go_wp2_with fail
 refine (xH _ ht).mono ?_; rintro e w1 ⟨rfl, hB, hb⟩
 have hc := lH (fun j (hj : j < jX.length) => lS hB j hj)
 clear hB
 go_wp2_with fail
 refine (Tryz.slices_Contains_string w.heap.size 0 26 26 jX s w1 (by rw [oV]; exact nR _) ah (fun j hj => by rw [Nat.zero_add]; exact hc.out j hj)).mono ?_
 rw [HE.out]
 rintro e w2 ⟨rfl, rfl⟩
 go_wp2_with fail
 go_ret
 exact ⟨rfl, hb⟩
theorem yY {s : ByteArray} (h : s.size < 1 ∨ 12 < s.size) : bJ s = false := by
 unfold bJ
 rcases h with h | h
 ·rw [dF (by omega : ¬ 1 ≤ s.size)]; rfl
 rw [dF (by omega : ¬ s.size ≤ 12)]; simp
theorem O7 {s : ByteArray} (h : iB (cZ s 0) = false) : bJ s = false := by unfold bJ; rw [h]; simp
theorem Rs {s : ByteArray} (h : wY s = true) : bJ s = false := by unfold bJ; rw [h]; simp
theorem Vf {s : ByteArray} {j : Nat} (hj : j < s.size) (h : uf (cZ s j) = false) : bJ s = false := by
 have : ((List.range s.size).all fun j => uf (cZ s j)) = false := by
  rw [List.all_eq_false]
  exact ⟨j, List.mem_range.2 hj, by rw [h]; simp⟩
 unfold bJ; rw [this]; simp
theorem Rt {s : ByteArray} (h1 : 1 ≤ s.size) (h2 : s.size ≤ 12) (h3 : iB (cZ s 0) = true) (h4 : wY s = false) (h5 : ∀ j, j < s.size → uf (cZ s j) = true) : bJ s = true := by
 unfold bJ
 rw [dT h1, dT h2, h3, h4, List.all_eq_true.2 fun j hj => h5 j (List.mem_range.1 hj)]
 rfl
theorem jI (s : ByteArray) (w : World) (ht : bT w) : Calls Tryz.prog 29 #[.string s] w fun e w' => e = .returned (.bool (bJ s)) ∧ Below w.heap.size w w' := by
 by_cases h1 : s.size < 1
 have H := lH (yY (s := s) (.inl h1))
 rotate_left
 by_cases h2 : 12 < s.size
 have H := lH (yY (s := s) (.inr h2))
 rotate_left
 rotate_right 2
 iterate 2 focus
  go_in
  go_wp2_with fail
  go_ret
  exact ⟨bD H.out.symm, bR _ _⟩
 have h0 : 0 < s.size := ah
 have HB := lH (jh s 0 h0)
 have hb0 : s[0].toNat ≤ 255 := by have := s[0].toNat_lt; omega
 have HC0 := lH (fun w => FI s[0].toNat w hb0)
 rw [← HB.out] at HC0
 cases hd : mh (cZ s 0) with
 | true =>
   have H := lH (O7 (s := s) (by simp [mh] at hd; simp [iB]; omega))
   exact OC
 | false =>
   rw [hd] at HC0
   have HD := lH hd
   clear hd
   have HR := lH (fun w ht => Bv s w ht)
   cases hr : wY s with
   | true =>
     have H := lH (Rs hr)
     rw [hr] at HR
     clear hr
     go_in
     go_wp2_with fail
     rw [← HB.out]
     refine (HC0.out _).mono ?_; rintro e w1 ⟨rfl, rfl⟩
     go_wp2_with fail
     refine (HR.out _ ht).mono ?_; rintro e w1 ⟨rfl, hb⟩
     exact BU
   | false =>
     have HRF := lH hr
     rw [hr] at HR
     clear hr
     go_in
     go_wp2_with fail
     rw [← HB.out]
     refine (HC0.out _).mono ?_; rintro e w1 ⟨rfl, rfl⟩
     go_wp2_with fail
     refine (HR.out _ ht).mono ?_; rintro e w1 ⟨rfl, hb⟩
     go_wp2_with fail
     go_loop [3] (fun i => ∃ k : Nat, k ≤ s.size ∧ i = .int i64 k ∧ Hid (∀ j, j < k → uf (cZ s j) = true)) (fun i => s.size - (intOf i).toNat)
     case atStart => exact ⟨0, nZ _, rfl, fun j hj => ah⟩
     obtain ⟨k, hk, rfl, hgo⟩ := hrel
     by_cases hlt : k < s.size
     ·have hbk : s[k].toNat ≤ 255 := by have := s[k].toNat_lt; omega
      have HK := lH (jh s k hlt)
      have HL := lH (fun w => MI s[k].toNat w hbk)
      have HG := lH (fun w => FI s[k].toNat w hbk)
      exact NP
     obtain rfl : k = s.size := by omega
     have H := lH (Rt ah ah (by have h9 := hgo.out 0 h0; have h8 := HD.out; simp only [uf, h8, Bool.or_false] at h9; exact h9) HRF.out hgo.out)
     clear hgo
     exact BU
theorem iH (s : ByteArray) (w : World) : Calls Tryz.prog 35 #[.string s] w fun e w' => e = .returned (.bool (bJ s)) ∧ Below w.heap.size w w' := by
 by_cases h1 : s.size < 1
 have H := lH (yY (s := s) (.inl h1))
 rotate_left
 by_cases h2 : 12 < s.size
 have H := lH (yY (s := s) (.inr h2))
 rotate_left
 rotate_right 2
 iterate 2 focus
  go_in
  go_wp2_with fail
  go_ret
  exact ⟨bD H.out.symm, bR _ _⟩
 have h0 : 0 < s.size := ah
 have HB := lH (jh s 0 h0)
 have hb0 : s[0].toNat ≤ 255 := by have := s[0].toNat_lt; omega
 have HC0 := lH (fun w => iD s[0].toNat w hb0)
 rw [← HB.out] at HC0
 cases hd : iB (cZ s 0) with
 | false =>
   have H := lH (O7 (s := s) hd)
   exact OC
 | true =>
   rw [hd] at HC0
   have HD := lH hd
   clear hd
   have HR := lH (fun w => pI s w)
   cases hr : wY s with
   | true =>
     have H := lH (Rs hr)
     rw [hr] at HR
     clear hr
     go_in
     go_wp2_with fail
     rw [← HB.out]
     refine (HC0.out _).mono ?_; rintro e w1 ⟨rfl, rfl⟩
     go_wp2_with fail
     refine (HR.out _).mono ?_; rintro e w1 ⟨rfl, hb⟩
     exact BU
   | false =>
     have HRF := lH hr
     rw [hr] at HR
     clear hr
     go_in
     go_wp2_with fail
     rw [← HB.out]
     refine (HC0.out _).mono ?_; rintro e w1 ⟨rfl, rfl⟩
     go_wp2_with fail
     refine (HR.out _).mono ?_; rintro e w1 ⟨rfl, hb⟩
     go_wp2_with fail
     go_loop [3] (fun i => ∃ k : Nat, k ≤ s.size ∧ i = .int i64 k ∧ Hid (∀ j, j < k → uf (cZ s j) = true)) (fun i => s.size - (intOf i).toNat)
     case atStart => exact ⟨0, nZ _, rfl, fun j hj => ah⟩
     obtain ⟨k, hk, rfl, hgo⟩ := hrel
     by_cases hlt : k < s.size
     ·have hbk : s[k].toNat ≤ 255 := by have := s[k].toNat_lt; omega
      have HK := lH (jh s k hlt)
      have HL := lH (fun w => iD s[k].toNat w hbk)
      have HG := lH (fun w => kH s[k].toNat w hbk)
      exact NP
     obtain rfl : k = s.size := by omega
     have H := lH (Rt ah ah (HD.out) HRF.out hgo.out)
     clear hgo
     exact BU
end Go.Proofs.YthbcamfejgghhaaGreatDoor
