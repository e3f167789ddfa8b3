/- OV and Uv of both sides. Vd of fu: allNames, repeated of the program; QS, Uw, TR of the reference. Which record types are Ux -/
import Derived.Test.YtoddlphekcihgaaGreatDoorQ02
import Derived.StillTailTactics
set_option maxRecDepth 100000
set_option maxHeartbeats 8000000
set_option linter.unusedVariables false
set_option linter.unusedSimpArgs false
namespace Go.Proofs.YtoddlphekcihgaaGreatDoor
open Go.RowKit
def ze : Code → List ByteArray
 | .seq a b => ze a ++ ze b
 | .region _ ops _ => ops.toList.flatMap fun o => match o.op with
   | .buildSlice _ _ ps => ps.toList.map fun p => match p.2 with
     | .const (.string s) => s
     | _ => ByteArray.empty
   | _ => []
 | .block _ c => ze c
 | .scope c => ze c
 | _ => []
noncomputable def qL : List ByteArray := match Tryz.f113.body with
 | some c => ze c
 | none => []
theorem uK : qL.length = 26 := by kernel_rfl
noncomputable def AF (s : ByteArray) : Bool := Lib.containsS qL s
def sG (c : Nat) : Bool := decide ((97 ≤ c ∧ c ≤ 122) ∨ (65 ≤ c ∧ c ≤ 90) ∨ c = 95)
def wS (c : Nat) : Bool := decide (48 ≤ c ∧ c ≤ 57)
def uP (c : Nat) : Bool := sG c || wS c
noncomputable def fM (s : ByteArray) : Bool := decide (1 ≤ s.size) && decide (s.size ≤ 12) && sG (lV s 0) && !AF s && (List.range s.size).all fun j => uP (lV s j)
theorem H7 (c : Nat) (w : World) (_hc : c ≤ 255) : Calls Tryz.prog 133 #[.int .u8 c] w fun e w' => e = .returned (.bool (sG c)) ∧ w = w' := by
 go_enter Tryz.func133, Tryz.ntmps133
 go_wp2_with fail
 all_goals
  go_ret
  exact ⟨ah (by rw [Bool.eq_iff_iff]; simp [sG]; omega), rfl⟩
theorem Ei (c : Nat) (w : World) (_hc : c ≤ 255) : Calls Tryz.prog 131 #[.int .u8 c] w fun e w' => e = .returned (.bool (wS c)) ∧ w = w' := by
 go_enter Tryz.func131, Tryz.ntmps131
 go_wp2_with fail
 all_goals
  go_ret
  exact ⟨ah (by rw [Bool.eq_iff_iff]; simp [wS]; omega), rfl⟩
theorem BS (c : Nat) (w : World) (_hc : c ≤ 255) : Calls Tryz.prog 112 #[.int .u8 c] w fun e w' => e = .returned (.bool (sG c)) ∧ w = w' := by
 go_enter Tryz.func112, Tryz.ntmps112
 go_wp2_with fail
 all_goals
  go_ret
  exact ⟨ah (by rw [Bool.eq_iff_iff]; simp [sG]; omega), rfl⟩
theorem JA (c : Nat) (w : World) (_hc : c ≤ 255) : Calls Tryz.prog 114 #[.int .u8 c] w fun e w' => e = .returned (.bool (wS c)) ∧ w = w' := by
 go_enter Tryz.func114, Tryz.ntmps114
 go_wp2_with fail
 all_goals
  go_ret
  exact ⟨ah (by rw [Bool.eq_iff_iff]; simp [wS]; omega), rfl⟩
theorem H8 (v : Value) (l : List ByteArray) (s : ByteArray) (w : World) {lo hi : Nat} (h : Rds w lo hi 1 v l.length (l.map .string)) :
 Calls Tryz.prog 147 #[v, .string s] w fun e w' => e = .returned (.bool (Lib.containsS l s)) ∧ w = w' := by
 obtain ⟨A, c, rfl, hc1, hc2, -⟩ := h.shape
 unfold maxLen at hc2
 go_enter Tryz.func147, Tryz.ntmps147
 go_wp2_with fail
 go_loop [5] (fun i => ∃ k : Nat, k ≤ l.length ∧ i = .int .i64 k ∧ Hid (s ∉ l.take k)) (fun i => l.length - (intOf i).toNat)
 case atStart => exact ⟨0, nZ _, rfl, by simp [Hid]⟩
 case round =>
  obtain ⟨k, hk, rfl, hno⟩ := hrel
  by_cases hlt : k < l.length
  ·obtain ⟨g, off, x, rfl, -, -, hx, hcell⟩ := h.KF hlt
   by_cases he : x = s
   ·subst he
    have HM := lH (mG hx)
    have b := str_eq x
    clear hx
    go_wp2_with fail
    go_ret
    exact ⟨ah ((Lib.containsS_iff _ _).2 HM.out).symm, rfl⟩
   ·have b := Ho he
    have HN : Hid (s ∉ l.take (k + 1)) := by show _; rw [qB hx]; intro hm; rcases List.mem_append.1 hm with h1 | h1; exact hno.out h1; exact he (List.mem_singleton.1 h1).symm
    clear hx hno
    go_wp2_with fail
    go_round
    case rel => exact ⟨k + 1, by omega, by go_num, HN⟩
    case measure => simp [intOf]; omega
  ·obtain rfl : k = l.length := by omega
   rw [List.take_length] at hno
   go_wp2_with fail
   go_ret
   exact ⟨ah (by rw [Bool.eq_false_iff.2 (fun hc => hno.out ((Lib.containsS_iff _ _).1 hc))]), rfl⟩
theorem Bg (s : ByteArray) (w : World) : Calls Tryz.prog 113 #[.string s] w fun e w' => e = .returned (.bool (AF s)) ∧ Below w.heap.size w w' := by
 have H1 : Hid (∀ c : Array Value, c = (qL.map Value.string).toArray → Rds (w.alloc (.cells c 9)) w.heap.size (w.heap.size + 1) 1 (.slice (some ⟨w.heap.size, 0, none⟩) 26 26) qL.length (qL.map .string)) := by
  intro c hc
  rw [hc, uK]
  refine ⟨_, _, rfl, nR _, by decide, by rw [List.length_map, uK], (fun h => by cases h), fun _ => ⟨_, 0, rfl, nR _, Nat.lt_succ_self _, fun j u hu => ?_⟩⟩
  rw [Nat.zero_add, (Blk.new w 9 _).cell j, List.getElem?_toArray]
  exact hu
 go_enter Tryz.func113, Tryz.ntmps113
 go_wp2_with fail
 refine (H8 _ qL s _ (H1.out _ (by kernel_rfl))).mono ?_; rintro e w1 ⟨rfl, rfl⟩
 go_wp2_with fail
 go_ret
 exact ⟨rfl, bA _ _⟩
theorem yH (w : World) (ht : iw w) : Calls Tryz.prog 157 #[] w fun e w' => e = .returned (.slice (some ⟨w.heap.size, 0, none⟩) 26 26) ∧ Blk w' w.heap.size 9 (qL.map Value.string).toArray ∧ Below w.heap.size w w' := by
 go_enter Tryz.func157, Tryz.ntmps157
 go_wp2_with fail
 refine sZ 26 (by decide) (by decide +kernel) (by decide +kernel) (by decide +kernel) ht ?_
 intro l w1 hd hl hne hB hb
 have he : l = qL := hd.trans (by kernel_rfl)
 rw [he] at hB
 clear hd he hl hne
 go_wp2_with fail
 go_ret
 exact ⟨rfl, hB, hb⟩
theorem Bh (s : ByteArray) (w : World) (ht : iw w) : Calls Tryz.prog 132 #[.string s] w fun e w' => e = .returned (.bool (AF s)) ∧ Below w.heap.size w w' := by
 have HE : Hid (Lib.containsS (qL.take 26) s = AF s) := lH (by rw [List.take_of_length_le (by rw [uK]; exact nR _)]; rfl)
 go_enter Tryz.func132, Tryz.ntmps132
 go_wp2_with fail
 refine (yH _ ht).mono ?_; rintro e w1 ⟨rfl, hB, hb⟩
 have hc := lH (fun j (hj : j < qL.length) => sF hB j hj)
 clear hB
 go_wp2_with fail
 refine (Tryz.slices_Contains_string w.heap.size 0 26 26 qL s w1 (by rw [uK]; exact nR _) (by omega) (fun j hj => by rw [Nat.zero_add]; exact hc.out j hj)).mono ?_
 rw [HE.out]
 rintro e w2 ⟨rfl, rfl⟩
 go_wp2_with fail
 go_ret
 exact ⟨rfl, hb⟩
theorem zf {s : ByteArray} (h : s.size < 1 ∨ 12 < s.size) : fM s = false := by
 unfold fM
 rcases h with h | h
 ·rw [dF (by omega : ¬ 1 ≤ s.size)]; rfl
 ·rw [dF (by omega : ¬ s.size ≤ 12)]; simp
theorem IZ {s : ByteArray} (h : sG (lV s 0) = false) : fM s = false := by unfold fM; rw [h]; simp
theorem KP {s : ByteArray} (h : AF s = true) : fM s = false := by unfold fM; rw [h]; simp
theorem KQ {s : ByteArray} {j : Nat} (hj : j < s.size) (h : uP (lV s j) = false) : fM s = false := by
 have : ((List.range s.size).all fun j => uP (lV s j)) = false := by
  rw [List.all_eq_false]
  exact ⟨j, List.mem_range.2 hj, by rw [h]; simp⟩
 unfold fM; rw [this]; simp
theorem KR {s : ByteArray} (h1 : 1 ≤ s.size) (h2 : s.size ≤ 12) (h3 : sG (lV s 0) = true) (h4 : AF s = false) (h5 : ∀ j, j < s.size → uP (lV s j) = true) : fM s = true := by
 unfold fM
 rw [dT h1, dT h2, h3, h4, List.all_eq_true.2 fun j hj => h5 j (List.mem_range.1 hj)]
 rfl
theorem oU (s : ByteArray) (w : World) (ht : iw w) : Calls Tryz.prog 92 #[.string s] w fun e w' => e = .returned (.bool (fM s)) ∧ Below w.heap.size w w' := by
 by_cases h1 : s.size < 1
 have H := lH (zf (s := s) (.inl h1))
 rotate_left
 by_cases h2 : 12 < s.size
 have H := lH (zf (s := s) (.inr h2))
 rotate_left
 rotate_right 2
 iterate 2 focus
  go_enter Tryz.func92, Tryz.ntmps92
  go_wp2_with fail
  go_ret
  exact ⟨ah H.out.symm, bR _ _⟩
 have h0 : 0 < s.size := by omega
 have HB := lH (tY s 0 h0)
 have hb0 : s[0].toNat ≤ 255 := by have := s[0].toNat_lt; omega
 have HC0 := lH (fun w => Ei s[0].toNat w hb0)
 rw [← HB.out] at HC0
 cases hd : wS (lV s 0) with
 | true =>
   have H := lH (IZ (s := s) (by simp [wS] at hd; simp [sG]; omega))
   rw [hd] at HC0
   clear hd
   go_enter Tryz.func92, Tryz.ntmps92
   go_wp2_with fail
   rw [← HB.out]
   refine (HC0.out _).mono ?_; rintro e w1 ⟨rfl, rfl⟩
   go_wp2_with fail
   go_ret
   exact ⟨ah H.out.symm, bR _ _⟩
 | false =>
   rw [hd] at HC0
   have HD := lH hd
   clear hd
   have HR := lH (fun w ht => Bh s w ht)
   cases hr : AF s with
   | true =>
     have H := lH (KP hr)
     rw [hr] at HR
     clear hr
     go_enter Tryz.func92, Tryz.ntmps92
     go_wp2_with fail
     rw [← HB.out]
     refine (HC0.out _).mono ?_; rintro e w1 ⟨rfl, rfl⟩
     go_wp2_with fail
     refine (HR.out _ ht).mono ?_; rintro e w1 ⟨rfl, hb⟩
     go_wp2_with fail
     go_ret
     exact ⟨ah H.out.symm, hb⟩
   | false =>
     have HRF := lH hr
     rw [hr] at HR
     clear hr
     go_enter Tryz.func92, Tryz.ntmps92
     go_wp2_with fail
     rw [← HB.out]
     refine (HC0.out _).mono ?_; rintro e w1 ⟨rfl, rfl⟩
     go_wp2_with fail
     refine (HR.out _ ht).mono ?_; rintro e w1 ⟨rfl, hb⟩
     go_wp2_with fail
     go_loop [3] (fun i => ∃ k : Nat, k ≤ s.size ∧ i = .int .i64 k ∧ Hid (∀ j, j < k → uP (lV s j) = true)) (fun i => s.size - (intOf i).toNat)
     case atStart => exact ⟨0, nZ _, rfl, fun j hj => by omega⟩
     case round =>
      obtain ⟨k, hk, rfl, hgo⟩ := hrel
      by_cases hlt : k < s.size
      ·have hbk : s[k].toNat ≤ 255 := by have := s[k].toNat_lt; omega
       have HK := lH (tY s k hlt)
       have HL := lH (fun w => H7 s[k].toNat w hbk)
       have HG := lH (fun w => Ei s[k].toNat w hbk)
       cases hl : sG s[k].toNat with
       | true =>
         rw [hl] at HL
         have HN : Hid (∀ j, j < k + 1 → uP (lV s j) = true) := by
          intro j hj
          by_cases e : j = k
          ·rw [e, HK.out, uP, hl]; rfl
          ·exact hgo.out j (by omega)
         clear hl hgo
         go_wp2_with fail
         refine (HL.out _).mono ?_; rintro e w2 ⟨rfl, rfl⟩
         go_wp2_with fail
         go_round
         case rel => exact ⟨k + 1, by omega, by go_num, HN⟩
         case measure => simp [intOf]; omega
       | false =>
         rw [hl] at HL
         cases hg : wS s[k].toNat with
         | true =>
           rw [hg] at HG
           have HN : Hid (∀ j, j < k + 1 → uP (lV s j) = true) := by
            intro j hj
            by_cases e : j = k
            ·rw [e, HK.out, uP, hg]; simp
            ·exact hgo.out j (by omega)
           clear hl hg hgo
           go_wp2_with fail
           refine (HL.out _).mono ?_; rintro e w2 ⟨rfl, rfl⟩
           go_wp2_with fail
           refine (HG.out _).mono ?_; rintro e w2 ⟨rfl, rfl⟩
           go_wp2_with fail
           go_round
           case rel => exact ⟨k + 1, by omega, by go_num, HN⟩
           case measure => simp [intOf]; omega
         | false =>
           rw [hg] at HG
           have H := lH (KQ hlt (by rw [HK.out, uP, hl, hg]; rfl))
           clear hl hg hgo
           go_wp2_with fail
           refine (HL.out _).mono ?_; rintro e w2 ⟨rfl, rfl⟩
           go_wp2_with fail
           refine (HG.out _).mono ?_; rintro e w2 ⟨rfl, rfl⟩
           go_wp2_with fail
           go_ret
           exact ⟨ah H.out.symm, hb⟩
      ·obtain rfl : k = s.size := by omega
       have H := lH (KR (by omega) (by omega) (by have h9 := hgo.out 0 h0; have h8 := HD.out; simp only [uP, h8, Bool.or_false] at h9; exact h9) HRF.out hgo.out)
       clear hgo
       go_wp2_with fail
       go_ret
       exact ⟨ah H.out.symm, hb⟩
theorem lG (s : ByteArray) (w : World) : Calls Tryz.prog 71 #[.string s] w fun e w' => e = .returned (.bool (fM s)) ∧ Below w.heap.size w w' := by
 by_cases h1 : s.size < 1
 have H := lH (zf (s := s) (.inl h1))
 rotate_left
 by_cases h2 : 12 < s.size
 have H := lH (zf (s := s) (.inr h2))
 rotate_left
 rotate_right 2
 iterate 2 focus
  go_enter Tryz.func71, Tryz.ntmps71
  go_wp2_with fail
  go_ret
  exact ⟨ah H.out.symm, bR _ _⟩
 have h0 : 0 < s.size := by omega
 have HB := lH (tY s 0 h0)
 have hb0 : s[0].toNat ≤ 255 := by have := s[0].toNat_lt; omega
 have HC0 := lH (fun w => BS s[0].toNat w hb0)
 rw [← HB.out] at HC0
 cases hd : sG (lV s 0) with
 | false =>
   have H := lH (IZ (s := s) hd)
   rw [hd] at HC0
   clear hd
   go_enter Tryz.func71, Tryz.ntmps71
   go_wp2_with fail
   rw [← HB.out]
   refine (HC0.out _).mono ?_; rintro e w1 ⟨rfl, rfl⟩
   go_wp2_with fail
   go_ret
   exact ⟨ah H.out.symm, bR _ _⟩
 | true =>
   rw [hd] at HC0
   have HD := lH hd
   clear hd
   have HR := lH (fun w => Bg s w)
   cases hr : AF s with
   | true =>
     have H := lH (KP hr)
     rw [hr] at HR
     clear hr
     go_enter Tryz.func71, Tryz.ntmps71
     go_wp2_with fail
     rw [← HB.out]
     refine (HC0.out _).mono ?_; rintro e w1 ⟨rfl, rfl⟩
     go_wp2_with fail
     refine (HR.out _).mono ?_; rintro e w1 ⟨rfl, hb⟩
     go_wp2_with fail
     go_ret
     exact ⟨ah H.out.symm, hb⟩
   | false =>
     have HRF := lH hr
     rw [hr] at HR
     clear hr
     go_enter Tryz.func71, Tryz.ntmps71
     go_wp2_with fail
     rw [← HB.out]
     refine (HC0.out _).mono ?_; rintro e w1 ⟨rfl, rfl⟩
     go_wp2_with fail
     refine (HR.out _).mono ?_; rintro e w1 ⟨rfl, hb⟩
     go_wp2_with fail
     go_loop [3] (fun i => ∃ k : Nat, k ≤ s.size ∧ i = .int .i64 k ∧ Hid (∀ j, j < k → uP (lV s j) = true)) (fun i => s.size - (intOf i).toNat)
     case atStart => exact ⟨0, nZ _, rfl, fun j hj => by omega⟩
     case round =>
      obtain ⟨k, hk, rfl, hgo⟩ := hrel
      by_cases hlt : k < s.size
      ·have hbk : s[k].toNat ≤ 255 := by have := s[k].toNat_lt; omega
       have HK := lH (tY s k hlt)
       have HL := lH (fun w => BS s[k].toNat w hbk)
       have HG := lH (fun w => JA s[k].toNat w hbk)
       cases hl : sG s[k].toNat with
       | true =>
         rw [hl] at HL
         have HN : Hid (∀ j, j < k + 1 → uP (lV s j) = true) := by
          intro j hj
          by_cases e : j = k
          ·rw [e, HK.out, uP, hl]; rfl
          ·exact hgo.out j (by omega)
         clear hl hgo
         go_wp2_with fail
         refine (HL.out _).mono ?_; rintro e w2 ⟨rfl, rfl⟩
         go_wp2_with fail
         go_round
         case rel => exact ⟨k + 1, by omega, by go_num, HN⟩
         case measure => simp [intOf]; omega
       | false =>
         rw [hl] at HL
         cases hg : wS s[k].toNat with
         | true =>
           rw [hg] at HG
           have HN : Hid (∀ j, j < k + 1 → uP (lV s j) = true) := by
            intro j hj
            by_cases e : j = k
            ·rw [e, HK.out, uP, hg]; simp
            ·exact hgo.out j (by omega)
           clear hl hg hgo
           go_wp2_with fail
           refine (HL.out _).mono ?_; rintro e w2 ⟨rfl, rfl⟩
           go_wp2_with fail
           refine (HG.out _).mono ?_; rintro e w2 ⟨rfl, rfl⟩
           go_wp2_with fail
           go_round
           case rel => exact ⟨k + 1, by omega, by go_num, HN⟩
           case measure => simp [intOf]; omega
         | false =>
           rw [hg] at HG
           have H := lH (KQ hlt (by rw [HK.out, uP, hl, hg]; rfl))
           clear hl hg hgo
           go_wp2_with fail
           refine (HL.out _).mono ?_; rintro e w2 ⟨rfl, rfl⟩
           go_wp2_with fail
           refine (HG.out _).mono ?_; rintro e w2 ⟨rfl, rfl⟩
           go_wp2_with fail
           go_ret
           exact ⟨ah H.out.symm, hb⟩
      ·obtain rfl : k = s.size := by omega
       have H := lH (KR (by omega) (by omega) (HD.out) HRF.out hgo.out)
       clear hgo
       go_wp2_with fail
       go_ret
       exact ⟨ah H.out.symm, hb⟩
theorem tH {α : Type} {q : α → Bool} {l : List α} {j : Nat} {c : α} (h : l[j]? = some c) : (l.take (j + 1)).all q = ((l.take j).all q && q c) := by
 rw [qB h]; simp
theorem lI {α : Type} {q : α → Bool} {l : List α} {c : α} (h : c ∈ l) (hq : q c = false) : l.all q = false := by
 rw [Bool.eq_false_iff]; intro e; rw [List.all_eq_true.1 e c h] at hq; cases hq
theorem jQ (l : List ByteArray) (v : Value) (w : World) (lo hi : Nat) (h : dz w lo hi 1 eF v l) (hhi : hi ≤ w.heap.size) (hst : iw w) :
 Calls Tryz.prog 91 #[v] w fun e w' => e = .returned (.bool (l.all fM)) ∧ Below w.heap.size w w' := by
 obtain ⟨A, c, rfl, hc1, hc2⟩ := h.shape
 unfold maxLen at hc2
 go_enter Tryz.func91, Tryz.ntmps91
 go_wp2_with fail
 go_loopw [7] (fun i wr => ∃ k : Nat, k ≤ l.length ∧ i = .int .i64 k ∧ Hid ((l.take k).all fM = true) ∧ Below w.heap.size w wr) (fun i _ => l.length - (intOf i).toNat)
 case atStart => exact ⟨0, nZ _, rfl, by simp [Hid], bR _ _⟩
 case round =>
  obtain ⟨k, hk, rfl, hgo, hb⟩ := hrel
  obtain ⟨wo, rfl⟩ := nW wr
  have hz := hb.size
  by_cases hlt : k < l.length
  ·obtain ⟨s, hc⟩ : ∃ s, l[k]? = some s := ⟨_, gE hlt⟩
   obtain ⟨g, off, rfl, hg1, hg2, q0⟩ := (h.below hb hhi).text hc
   have Rw := hst.below hb hst.2
   cases hq : fM s with
   | true =>
     have HN : Hid ((l.take (k + 1)).all fM = true) := lH (by rw [tH hc, hgo.out, hq]; rfl)
     have HQ := lH hq
     clear hc hq hgo
     go_wp2_with fail
     refine (oU s _ Rw).mono ?_; rw [HQ.out]; rintro e w1 ⟨rfl, hb1⟩
     have hb2 := hb.trans (hb1.mono hz)
     clear q0 hb1
     go_wp2_with fail
     go_roundw
     case rel => exact ⟨k + 1, by omega, by go_num, HN, hb2⟩
     case measure => simp [intOf]; omega
   | false =>
     have HF : Hid (l.all fM = false) := lI (mG hc) hq
     have HQ := lH hq
     clear hc hq hgo
     go_wp2_with fail
     refine (oU s _ Rw).mono ?_; rw [HQ.out]; rintro e w1 ⟨rfl, hb1⟩
     go_wp2_with fail
     go_ret
     exact ⟨ah HF.out.symm, hb.trans (hb1.mono hz)⟩
  ·obtain rfl : k = l.length := by omega
   rw [List.take_length] at hgo
   go_wp2_with fail
   go_ret
   exact ⟨ah hgo.out.symm, hb⟩
theorem gu (l : List ByteArray) (most : Nat) (v : Value) (w : World) (lo hi : Nat) (h : dz w lo hi 1 eF v l) (hhi : hi ≤ w.heap.size) :
 Calls Tryz.prog 70 #[v, .int .i64 most] w fun e w' => e = .returned (.bool (l.all fM && decide (l.length ≤ most))) ∧ Below w.heap.size w w' := by
 obtain ⟨A, c, rfl, hc1, hc2⟩ := h.shape
 unfold maxLen at hc2
 go_enter Tryz.func70, Tryz.ntmps70
 go_wp2_with fail
 go_loopw [5] (fun i wr => ∃ k : Nat, k ≤ l.length ∧ i = .int .i64 k ∧ Hid ((l.take k).all fM = true) ∧ Below w.heap.size w wr) (fun i _ => l.length - (intOf i).toNat)
 case atStart => exact ⟨0, nZ _, rfl, by simp [Hid], bR _ _⟩
 case round =>
  obtain ⟨k, hk, rfl, hgo, hb⟩ := hrel
  obtain ⟨wo, rfl⟩ := nW wr
  have hz := hb.size
  by_cases hlt : k < l.length
  ·obtain ⟨s, hc⟩ : ∃ s, l[k]? = some s := ⟨_, gE hlt⟩
   obtain ⟨g, off, rfl, hg1, hg2, q0⟩ := (h.below hb hhi).text hc
   cases hq : fM s with
   | true =>
     have HN : Hid ((l.take (k + 1)).all fM = true) := lH (by rw [tH hc, hgo.out, hq]; rfl)
     have HQ := lH hq
     clear hc hq hgo
     go_wp2_with fail
     refine (lG s _).mono ?_; rw [HQ.out]; rintro e w1 ⟨rfl, hb1⟩
     have hb2 := hb.trans (hb1.mono hz)
     clear q0 hb1
     go_wp2_with fail
     go_roundw
     case rel => exact ⟨k + 1, by omega, by go_num, HN, hb2⟩
     case measure => simp [intOf]; omega
   | false =>
     have HF : Hid ((l.all fM && decide (l.length ≤ most)) = false) := lH (by rw [lI (mG hc) hq]; rfl)
     have HQ := lH hq
     clear hc hq hgo
     go_wp2_with fail
     refine (lG s _).mono ?_; rw [HQ.out]; rintro e w1 ⟨rfl, hb1⟩
     go_wp2_with fail
     go_ret
     exact ⟨ah HF.out.symm, hb.trans (hb1.mono hz)⟩
  ·obtain rfl : k = l.length := by omega
   rw [List.take_length] at hgo
   go_wp2_with fail
   go_ret
   exact ⟨ah (by rw [hgo.out, Bool.true_and]), hb⟩
theorem I1 {s : ByteArray} : ∀ (l : List ByteArray) (i : Nat), s ∈ l → (i : Int) ≤ Lib.idxFromS l s i
 | [], _, h => by cases h
 | z :: l, i, h => by
   by_cases hz : z = s
   ·simp [Lib.idxFromS, hz]
   ·have h' : s ∈ l := by rcases List.mem_cons.1 h with e | e; exact absurd e.symm hz; exact e
    have := I1 l (i + 1) h'
    simp only [Lib.idxFromS, if_neg hz]
    omega
theorem KS {s : ByteArray} : ∀ (l : List ByteArray) (i n : Nat), s ∈ l → (Lib.idxFromS l s i < ((i + n : Nat) : Int) ↔ s ∈ l.take n)
 | [], _, _, h => by cases h
 | z :: l, i, n, h => by
   cases n with
   | zero => have := I1 (z :: l) i h; simp; omega
   | succ n =>
     by_cases hz : z = s
     ·simp [Lib.idxFromS, hz]; omega
     ·have h' : s ∈ l := by rcases List.mem_cons.1 h with e | e; exact absurd e.symm hz; exact e
      have := KS l (i + 1) n h'
      simp only [Lib.idxFromS, if_neg hz, List.take_succ_cons, List.mem_cons]
      rw [show i + (n + 1) = i + 1 + n by omega, this]
      exact ⟨.inr, fun e => by rcases e with e | e; exact absurd e.symm hz; exact e⟩
theorem Nb {l : List ByteArray} {s : ByteArray} {k : Nat} (h : l[k]? = some s) : decide (Lib.idxOfS l s < (k : Int)) = Lib.containsS (l.take k) s := by
 have := KS l 0 k (mG h)
 rw [Bool.eq_iff_iff, decide_eq_true_eq, Lib.containsS_iff, ← this, Lib.idxOfS, Nat.zero_add]
def vo (l : List ByteArray) (i : Nat) : Bool := Lib.containsS (l.take i) (l.getD i ByteArray.empty)
def uW (l : List ByteArray) : Bool := (List.range l.length).any (vo l)
theorem BU {l : List ByteArray} {k : Nat} {s : ByteArray} (h : l[k]? = some s) : vo l k = Lib.containsS (l.take k) s := by rw [vo, List.getD, h]; rfl
theorem Ej {l : List ByteArray} {k : Nat} (hk : k < l.length) (h : vo l k = true) : uW l = true := List.any_eq_true.2 ⟨k, List.mem_range.2 hk, h⟩
theorem Gj {l : List ByteArray} (h : ∀ j, j < l.length → vo l j = false) : uW l = false := by
 rw [uW, List.any_eq_false]; intro j hj; rw [h j (List.mem_range.1 hj)]; decide
theorem Gl (l : List ByteArray) (s : ByteArray) (v : Value) (w : World) (lo hi : Nat) (h : dz w lo hi 1 eF v l) :
 Calls Tryz.prog 115 #[v, .string s] w fun e w' => e = .returned (.int .i64 (Lib.idxOfS l s)) ∧ w = w' := by
 obtain ⟨A, c, rfl, hc1, hc2⟩ := h.shape
 unfold maxLen at hc2
 go_enter Tryz.func115, Tryz.ntmps115
 go_wp2_with fail
 go_loop [5] (fun i => ∃ k : Nat, k ≤ l.length ∧ i = .int .i64 k ∧ Hid (∀ j, j < k → l.getD j ByteArray.empty ≠ s)) (fun i => l.length - (intOf i).toNat)
 case atStart => exact ⟨0, nZ _, rfl, fun j hj => absurd hj (by omega)⟩
 case round =>
  obtain ⟨k, hk, rfl, hgo⟩ := hrel
  by_cases hlt : k < l.length
  ·obtain ⟨t, hc⟩ : ∃ t, l[k]? = some t := ⟨_, gE hlt⟩
   obtain ⟨g, off, rfl, hg1, hg2, q0⟩ := h.text hc
   have hd : l.getD k ByteArray.empty = t := by rw [List.getD, hc]; rfl
   by_cases hts : t = s
   ·subst hts
    have HI : Hid (Lib.idxOfS l t = (k : Int)) := by have := Lib.idxOfS_hit l l.length k t hlt (nR _) hd hgo.out; rwa [List.take_length] at this
    have hb := str_eq t
    clear hc hd hgo
    go_wp2_with fail
    go_ret
    exact ⟨eX HI.out.symm, rfl⟩
   ·have hb := Ho hts
    have HN : Hid (∀ j, j < k + 1 → l.getD j ByteArray.empty ≠ s) := fun j hj => by
     by_cases e : j = k
     ·subst e; rw [hd]; exact hts
     ·exact hgo.out j (by omega)
    clear hc hd hgo hts
    go_wp2_with fail
    go_round
    case rel => exact ⟨k + 1, by omega, by go_num, HN⟩
    case measure => simp [intOf]; omega
  ·obtain rfl : k = l.length := by omega
   have HI : Hid (Lib.idxOfS l s = -1) := by have := Lib.idxOfS_miss l l.length s hgo.out; rwa [List.take_length] at this
   clear hgo
   go_wp2_with fail
   go_ret
   exact ⟨eX HI.out.symm, rfl⟩
theorem qT (l : List ByteArray) (v : Value) (w : World) (lo hi : Nat) (h : dz w lo hi 1 eF v l) :
 Calls Tryz.prog 72 #[v] w fun e w' => e = .returned (.bool (uW l)) ∧ w = w' := by
 have HF := fun s => lH (Gl l s v w lo hi h)
 obtain ⟨A, c, rfl, hc1, hc2⟩ := h.shape
 unfold maxLen at hc2
 go_enter Tryz.func72, Tryz.ntmps72
 go_wp2_with fail
 go_loop [3] (fun i => ∃ k : Nat, k ≤ l.length ∧ i = .int .i64 k ∧ Hid (∀ j, j < k → vo l j = false)) (fun i => l.length - (intOf i).toNat)
 case atStart => exact ⟨0, nZ _, rfl, fun j hj => absurd hj (by omega)⟩
 case round =>
  obtain ⟨k, hk, rfl, hgo⟩ := hrel
  by_cases hlt : k < l.length
  ·obtain ⟨t, hc⟩ : ∃ t, l[k]? = some t := ⟨_, gE hlt⟩
   obtain ⟨g, off, rfl, hg1, hg2, q0⟩ := h.text hc
   have HL := lH (Nb hc)
   have HT := lH (BU hc)
   have HF1 := HF t
   clear HF
   obtain ⟨n, hn⟩ : ∃ n, Lib.idxOfS l t = n := ⟨_, rfl⟩
   cases hq : Lib.containsS (l.take k) t with
   | true =>
     have HY := lH (Ej hlt (HT.out.trans hq))
     have hnk : n < (k : Int) := by have := HL.out; rw [hq, hn] at this; exact of_decide_eq_true this
     have HN := lH hn
     clear hc hgo hq hn
     go_wp2_with fail
     refine HF1.out.mono ?_; rw [HN.out]; rintro e w1 ⟨rfl, rfl⟩
     go_wp2_with fail
     go_ret
     exact ⟨ah HY.out.symm, rfl⟩
   | false =>
     have HG : Hid (∀ j, j < k + 1 → vo l j = false) := fun j hj => by
      by_cases e : j = k
      ·subst e; exact HT.out.trans hq
      ·exact hgo.out j (by omega)
     have hnk : ¬ n < (k : Int) := by have := HL.out; rw [hq, hn] at this; exact of_decide_eq_false this
     have HN := lH hn
     clear hc hgo hq hn
     go_wp2_with fail
     refine HF1.out.mono ?_; rw [HN.out]; rintro e w1 ⟨rfl, rfl⟩
     go_wp2_with fail
     go_round
     case rel => exact ⟨k + 1, by omega, by go_num, HG⟩
     case measure => simp [intOf]; omega
  ·obtain rfl : k = l.length := by omega
   have HN := lH (Gj hgo.out)
   clear hgo
   go_wp2_with fail
   go_ret
   exact ⟨ah HN.out.symm, rfl⟩
theorem dz.OW {w : World} {lo hi cap j g off : Nat} {l : List ByteArray} (h : dz w lo hi 1 eF (.slice (some ⟨g, off, none⟩) l.length cap) l) (hj : j < l.length) : w.cell? ⟨g, off + j, none⟩ = some (.string (l.getD j ByteArray.empty)) := by
 obtain ⟨g', off', hA, -, -, hc⟩ := h.text (gE hj)
 injection hA with hA
 injection hA with e1 e2 _
 subst e1 e2
 rw [hc, List.getD, gE hj]; rfl
theorem wh (l : List ByteArray) (v : Value) (w : World) (lo hi : Nat) (h : dz w lo hi 1 eF v l) :
 Calls Tryz.prog 130 #[v] w fun e w' => e = .returned (.bool (uW l)) ∧ Same w w' := by
 obtain ⟨A, c, rfl, hc1, hc2⟩ := h.shape
 unfold maxLen at hc2
 go_enter Tryz.func130, Tryz.ntmps130
 go_wp2_with fail
 go_loopw [6] (fun i wr => ∃ k : Nat, k ≤ l.length ∧ i = .int .i64 k ∧ Hid (∀ j, j < k → vo l j = false) ∧ Same w wr) (fun i _ => l.length - (intOf i).toNat)
 case atStart => exact ⟨0, nZ _, rfl, (fun j hj => absurd hj (by omega)), Same.refl _⟩
 case round =>
  obtain ⟨k, hk, rfl, hgo, hs⟩ := hrel
  obtain ⟨wo, rfl⟩ := nW wr
  by_cases hlt : k < l.length
  ·obtain ⟨t, hc⟩ : ∃ t, l[k]? = some t := ⟨_, gE hlt⟩
   obtain ⟨g, off, rfl, hg1, hg2, q0⟩ := (h.same hs).text hc
   have HT := lH (BU hc)
   have e0 : (0 : Int) ≤ (k : Int) := by omega
   have e8 : (k : Int) < (l.length : Int) := by omega
   have e9 : (k : Int) ≤ (c : Int) := by omega
   have e7 : k ≤ c := by omega
   clear hc
   obtain ⟨r, hr⟩ : ∃ r, Lib.containsS (l.take k) t = r := ⟨_, rfl⟩
   have HR := lH hr
   clear hr
   have HC : Hid (Calls Tryz.prog 156 #[.slice (some ⟨g, off, none⟩) k c, .string t] wo.drew fun e w' => e = .returned (.bool r) ∧ w' = wo.drew) := by
    show Calls _ _ _ _ _
    rw [← HR.out]
    exact Tryz.slices_Contains_string g off k c l t wo.drew (by omega) (by omega) fun j hj => (h.same hs.drew).OW hj
   go_wp2_with fail
   go_still_tail 7, (by kernel_rfl)
   change wpList _ _ _ _ _ wo.drew
   go_wp2_with fail
   refine HC.out.mono ?_; rintro e w1 ⟨rfl, rfl⟩
   clear HC
   cases r with
   | true =>
     have HY := lH (Ej hlt (HT.out.trans HR.out))
     clear hgo
     go_wp2_with fail
     go_ret
     exact ⟨ah HY.out.symm, hs.drew⟩
   | false =>
     have HG : Hid (∀ j, j < k + 1 → vo l j = false) := fun j hj => by
      by_cases e : j = k
      ·subst e; exact HT.out.trans HR.out
      ·exact hgo.out j (by omega)
     clear hgo
     go_wp2_with fail
     go_roundw
     case rel => exact ⟨k + 1, by omega, by go_num, HG, hs.drew⟩
     case measure => simp [intOf]; omega
  ·obtain rfl : k = l.length := by omega
   have HN := lH (Gj hgo.out)
   clear hgo
   go_wp2_with fail
   go_ret
   exact ⟨ah HN.out.symm, hs⟩
noncomputable def tJ (r : gU) : Bool := fM r.name && decide (r.fields.length ≤ 6) && r.fields.all fM && !uW r.fields && decide (0 ≤ r.line)
noncomputable def nQ (l : List gU) : Bool := l.all tJ && decide (l.length ≤ 8)
theorem iA (l : List gU) (v : Value) (w : World) (lo hi : Nat) (h : dz w lo hi 3 gU.ay v l) (hhi : hi ≤ w.heap.size) (hst : iw w) :
 Calls Tryz.prog 90 #[v] w fun e w' => e = .returned (.bool (nQ l)) ∧ Below w.heap.size w w' := by
 obtain ⟨A, cap, rfl, hc1, hc2⟩ := h.shape
 unfold maxLen at hc2
 go_enter Tryz.func90, Tryz.ntmps90
 go_wp2_with fail
 go_loopw [7] (fun i wr => ∃ k : Nat, k ≤ l.length ∧ i = .int .i64 k ∧ Hid ((l.take k).all tJ = true) ∧ Below w.heap.size w wr) (fun i _ => l.length - (intOf i).toNat)
 case atStart => exact ⟨0, nZ _, rfl, by simp [Hid], bR _ _⟩
 case round =>
  obtain ⟨k, hk, rfl, hgo, hb⟩ := hrel
  obtain ⟨wo, rfl⟩ := nW wr
  have hz := hb.size
  by_cases hlt : k < l.length
  ·obtain ⟨c, hc⟩ : ∃ c, l[k]? = some c := ⟨_, gE hlt⟩
   obtain ⟨g, off, lX, nfields, rfl, hg1, hg2, hmem, hcr, q0, q1, q2⟩ := gU.at_ (h.below hb hhi) hc
   have hfl := gU.rows hcr
   have HB : Hid (tJ c = (fM c.name && decide (c.fields.length ≤ 6) && c.fields.all fM && !uW c.fields && decide (0 ≤ c.line))) := rfl
   have HS := lH (tH (q := tJ) hc)
   have HM : Hid (tJ c = false → nQ l = false) := fun e => by rw [nQ, lI hmem e]; rfl
   have hwa : Below w.heap.size w (wo.alloc (.cells #[Value.string c.name, .slice lX c.fields.length nfields, .int .i64 c.line] 142)) := hb.alloc hz _
   have a0 := Blk.new wo 142 #[Value.string c.name, .slice lX c.fields.length nfields, .int .i64 c.line]
   have hf0 := hfl.alloc (nT hhi hz) (.cells #[Value.string c.name, .slice lX c.fields.length nfields, .int .i64 c.line] 142)
   clear hc hmem hcr hfl
   cases n1 : fM c.name with
   | false =>
     have HV : Hid (nQ l = false) := HM.out (by rw [HB.out, n1]; simp)
     have N1 := lH n1
     clear n1 hgo
     go_wp2_with fail
     refine (oU c.name _ (hst.below hwa hst.2)).mono ?_; rw [N1.out]; rintro e w1 ⟨rfl, hb1⟩
     have hw1 := hwa.trans (hb1.mono (nT hz (by simp)))
     have a1 := a0.later hb1
     have hf1 := hf0.below hb1 (nT (nT hhi hz) (by simp))
     have ca := a1.cell
     have la := a1.lt
     clear hb1 q0 q1 q2
     go_wp2_with fail
     go_ret
     exact ⟨ah HV.out.symm, hw1⟩
   | true =>
   have N1 := lH n1
   clear n1
   by_cases n2 : c.fields.length ≤ 6
   ·have D2 := lH (dT n2)
    cases n3 : c.fields.all fM with
    | false =>
      have HV : Hid (nQ l = false) := HM.out (by rw [HB.out, N1.out, n3]; simp)
      have N3 := lH n3
      clear n3 hgo
      go_wp2_with fail
      refine (oU c.name _ (hst.below hwa hst.2)).mono ?_; rw [N1.out]; rintro e w1 ⟨rfl, hb1⟩
      have hw1 := hwa.trans (hb1.mono (nT hz (by simp)))
      have a1 := a0.later hb1
      have hf1 := hf0.below hb1 (nT (nT hhi hz) (by simp))
      have ca := a1.cell
      have la := a1.lt
      clear hb1 q0 q1 q2
      go_wp2_with fail
      refine (jQ c.fields _ _ lo hi hf1 (nT hhi hw1.size) (hst.below hw1 hst.2)).mono ?_; rw [N3.out]; rintro e w2 ⟨rfl, hb2⟩
      have hw2 := hw1.trans (hb2.mono hw1.size)
      have a2 := a1.later hb2
      have hf2 := hf1.below hb2 (nT hhi hw1.size)
      clear ca la hb2
      have ca := a2.cell
      have la := a2.lt
      go_wp2_with fail
      go_ret
      exact ⟨ah HV.out.symm, hw2⟩
    | true =>
    have N3 := lH n3
    clear n3
    cases n4 : uW c.fields with
    | true =>
      have HV : Hid (nQ l = false) := HM.out (by rw [HB.out, n4]; simp)
      have N4 := lH n4
      clear n4 hgo
      go_wp2_with fail
      refine (oU c.name _ (hst.below hwa hst.2)).mono ?_; rw [N1.out]; rintro e w1 ⟨rfl, hb1⟩
      have hw1 := hwa.trans (hb1.mono (nT hz (by simp)))
      have a1 := a0.later hb1
      have hf1 := hf0.below hb1 (nT (nT hhi hz) (by simp))
      have ca := a1.cell
      have la := a1.lt
      clear hb1 q0 q1 q2
      go_wp2_with fail
      refine (jQ c.fields _ _ lo hi hf1 (nT hhi hw1.size) (hst.below hw1 hst.2)).mono ?_; rw [N3.out]; rintro e w2 ⟨rfl, hb2⟩
      have hw2 := hw1.trans (hb2.mono hw1.size)
      have a2 := a1.later hb2
      have hf2 := hf1.below hb2 (nT hhi hw1.size)
      clear ca la hb2
      have ca := a2.cell
      have la := a2.lt
      go_wp2_with fail
      refine (wh c.fields _ _ lo hi hf2).mono ?_; rw [N4.out]; rintro e w3 ⟨rfl, hs3⟩
      have hw3 := hw2.trans ((hs3.below w2.heap.size).mono hw2.size)
      have a3 := a2.later (hs3.below _)
      clear ca la
      have ca := a3.cell
      have la := a3.lt
      go_wp2_with fail
      go_ret
      exact ⟨ah HV.out.symm, hw3⟩
    | false =>
    have N4 := lH n4
    clear n4
    by_cases n5 : 0 ≤ c.line
    ·have HG : Hid ((l.take (k + 1)).all tJ = true) := lH (by rw [HS.out, hgo.out, HB.out, N1.out, D2.out, N3.out, N4.out, dT n5]; rfl)
     clear hgo
     go_wp2_with fail
     refine (oU c.name _ (hst.below hwa hst.2)).mono ?_; rw [N1.out]; rintro e w1 ⟨rfl, hb1⟩
     have hw1 := hwa.trans (hb1.mono (nT hz (by simp)))
     have a1 := a0.later hb1
     have hf1 := hf0.below hb1 (nT (nT hhi hz) (by simp))
     have ca := a1.cell
     have la := a1.lt
     clear hb1 q0 q1 q2
     go_wp2_with fail
     refine (jQ c.fields _ _ lo hi hf1 (nT hhi hw1.size) (hst.below hw1 hst.2)).mono ?_; rw [N3.out]; rintro e w2 ⟨rfl, hb2⟩
     have hw2 := hw1.trans (hb2.mono hw1.size)
     have a2 := a1.later hb2
     have hf2 := hf1.below hb2 (nT hhi hw1.size)
     clear ca la hb2
     have ca := a2.cell
     have la := a2.lt
     go_wp2_with fail
     refine (wh c.fields _ _ lo hi hf2).mono ?_; rw [N4.out]; rintro e w3 ⟨rfl, hs3⟩
     have hw3 := hw2.trans ((hs3.below w2.heap.size).mono hw2.size)
     have a3 := a2.later (hs3.below _)
     clear ca la
     have ca := a3.cell
     have la := a3.lt
     go_wp2_with fail
     go_roundw
     case rel => exact ⟨k + 1, by omega, by go_num, HG, hw3⟩
     case measure => simp [intOf]; omega
    ·have HV : Hid (nQ l = false) := HM.out (by rw [HB.out, dF n5]; simp)
     clear hgo
     go_wp2_with fail
     refine (oU c.name _ (hst.below hwa hst.2)).mono ?_; rw [N1.out]; rintro e w1 ⟨rfl, hb1⟩
     have hw1 := hwa.trans (hb1.mono (nT hz (by simp)))
     have a1 := a0.later hb1
     have hf1 := hf0.below hb1 (nT (nT hhi hz) (by simp))
     have ca := a1.cell
     have la := a1.lt
     clear hb1 q0 q1 q2
     go_wp2_with fail
     refine (jQ c.fields _ _ lo hi hf1 (nT hhi hw1.size) (hst.below hw1 hst.2)).mono ?_; rw [N3.out]; rintro e w2 ⟨rfl, hb2⟩
     have hw2 := hw1.trans (hb2.mono hw1.size)
     have a2 := a1.later hb2
     have hf2 := hf1.below hb2 (nT hhi hw1.size)
     clear ca la hb2
     have ca := a2.cell
     have la := a2.lt
     go_wp2_with fail
     refine (wh c.fields _ _ lo hi hf2).mono ?_; rw [N4.out]; rintro e w3 ⟨rfl, hs3⟩
     have hw3 := hw2.trans ((hs3.below w2.heap.size).mono hw2.size)
     have a3 := a2.later (hs3.below _)
     clear ca la
     have ca := a3.cell
     have la := a3.lt
     go_wp2_with fail
     go_ret
     exact ⟨ah HV.out.symm, hw3⟩
   ·have HV : Hid (nQ l = false) := HM.out (by rw [HB.out, dF n2]; simp)
    clear hgo
    go_wp2_with fail
    refine (oU c.name _ (hst.below hwa hst.2)).mono ?_; rw [N1.out]; rintro e w1 ⟨rfl, hb1⟩
    have hw1 := hwa.trans (hb1.mono (nT hz (by simp)))
    have a1 := a0.later hb1
    have hf1 := hf0.below hb1 (nT (nT hhi hz) (by simp))
    have ca := a1.cell
    have la := a1.lt
    clear hb1 q0 q1 q2
    go_wp2_with fail
    go_ret
    exact ⟨ah HV.out.symm, hw1⟩
  ·obtain rfl : k = l.length := by omega
   rw [List.take_length] at hgo
   have HR : Hid (nQ l = decide (l.length ≤ 8)) := lH (by rw [nQ, hgo.out]; rfl)
   clear hgo
   go_wp2_with fail
   go_ret
   exact ⟨ah (by rw [HR.out, Bool.eq_iff_iff]; simp <;> omega), hb⟩
end Go.Proofs.YtoddlphekcihgaaGreatDoor
