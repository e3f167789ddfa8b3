/- The ak numbers of a T8 aI: plain lemmas. No program. A machine's validity, read off its rows one element after the other. No program. Vi of the -/
import Derived.Test.YtoddlphekcihgaaGreatDoorQ11
import Derived.Test.YtoddlphekcihgaaGreatDoorQ19
import Derived.Deep.DeepCutAuto
set_option maxRecDepth 100000
set_option maxHeartbeats 8000000
set_option linter.unusedVariables false
set_option linter.unusedSimpArgs false
namespace Go.Proofs.YtoddlphekcihgaaGreatDoor
open Go.RowKit
section
def wJ (l : List fV) : List Int := (l.map (·.ak)).filter fun n => !decide (n = 0)
theorem Ex {l : List fV} {k : Nat} {c : fV} (hc : l[k]? = some c) : wJ (l.take (k + 1)) = wJ (l.take k) ++ (if c.ak = 0 then [] else [c.ak]) := by
 rw [qB hc]
 unfold wJ
 rw [List.map_append, List.filter_append]
 by_cases h : c.ak = 0 <;> simp [h]
theorem CF {l : List fV} {n : Int} : n ∈ wJ l ↔ n ≠ 0 ∧ ∃ c ∈ l, c.ak = n := by
 unfold wJ
 rw [List.mem_filter, List.mem_map]
 constructor
 ·rintro ⟨⟨c, hc, e⟩, h⟩; exact ⟨by simpa using h, c, hc, e⟩
 ·rintro ⟨h, c, hc, e⟩; exact ⟨⟨c, hc, e⟩, by simpa using h⟩
def xU (l : List fV) (k : Nat) : Prop := ∀ (i j : Nat) (a b : fV), i < k → j < i → l[i]? = some a → l[j]? = some b → a.ak ≠ 0 → a.ak ≠ b.ak
theorem xU.zero (l : List fV) : xU l 0 := fun i _ _ _ h => absurd h (by omega)
theorem GQ {α : Type} {l : List α} {k j : Nat} {b : α} (hb : l[j]? = some b) (hj : j < k) : b ∈ l.take k :=
 mG (show (l.take k)[j]? = some b by rw [List.getElem?_take, if_pos hj, hb])
theorem xU.succ {l : List fV} {k : Nat} {c : fV} (h : xU l k) (hc : l[k]? = some c) (hm : c.ak = 0 ∨ c.ak ∉ wJ (l.take k)) : xU l (k + 1) := by
 intro i j a b hi hj ha hb h0 e
 by_cases hk : i = k
 ·subst hk
  rw [hc] at ha
  injection ha with ha
  subst ha
  rcases hm with hm | hm
  ·exact h0 hm
  ·exact hm (CF.2 ⟨h0, b, GQ hb hj, e.symm⟩)
 ·exact h i j a b (by omega) hj ha hb h0 e
open Classical in
theorem xU.all {l : List fV} (h : xU l l.length) : qM l = true :=
 dT fun i j a b hj ha hb h0 => h i j a b (List.getElem?_eq_some_iff.1 ha).1 hj ha hb h0
open Classical in
theorem LJ {l : List fV} {k : Nat} {c : fV} (hc : l[k]? = some c) (hm : c.ak ∈ wJ (l.take k)) : qM l = false :=
 dF fun h => by
  obtain ⟨h0, b, hb, e⟩ := CF.1 hm
  obtain ⟨j, hj⟩ := List.mem_iff_getElem?.1 hb
  rw [List.getElem?_take] at hj
  split at hj
  ·rename_i hjk
   exact h k j c b hjk hc hj h0 e.symm
  ·cases hj
end
section
open Classical in
noncomputable def countB (m : eG) : Int := if Bj m = true then (m.store.aI.length : Int) else 0
theorem Ey {m : eG} (h : Bj m = false) : countB m = 0 := by rw [countB, if_neg (by rw [h]; decide)]
theorem CG {m : eG} (h : Bj m = true) : countB m = m.store.aI.length := by rw [countB, if_pos h]
theorem JQ {c : eG} (hb : c.dX ≤ 1048576) : ∀ y ∈ c.code.av, y.text.size ≤ 1048576 := fun y hy => by
 have h1 : y.text.size ≤ sumOf eO.dX c.code.av := qK (b := eO.dX) hy
 unfold eG.dX dK.dX at hb
 omega
def uR (m : eG) (k : Nat) (c : Int) : Bool := decide (0 ≤ c) && decide (c < (m.bY.length : Int)) && !((m.dQ.take k).contains c)
theorem Ez {m : eG} {k : Nat} {c : Int} : uR m k c = true ↔ (0 ≤ c ∧ c < m.bY.length ∧ c ∉ m.dQ.take k) := by
 simp [uR, and_assoc]
open Classical in
theorem zY {m : eG} {k : Nat} {c : Int} (hc : m.dQ[k]? = some c) (h : uR m k c = false) : tL m = false := by
 unfold tL
 refine dF fun hh => ?_
 have := Ez.2 (hh k c hc)
 rw [h] at this
 cases this
open Classical in
theorem CJ {m : eG} (h : ∀ (j : Nat) (c : Int), j < m.dQ.length → m.dQ[j]? = some c → uR m j c = true) : tL m = true := by
 unfold tL
 refine dT fun i c hc => Ez.1 (h i c ?_ hc)
 exact (List.getElem?_eq_some_iff.1 hc).1
open Classical in
theorem CK {m : eG} {k : Nat} {t : jS} (ht : m.bY[k]? = some t) (h : zN m k t = false) : qN m = false := by
 unfold qN
 refine dF fun hh => ?_
 have := hh k t ht
 rw [h] at this
 cases this
open Classical in
theorem AZ {m : eG} (h : ∀ (j : Nat) (t : jS), j < m.bY.length → m.bY[j]? = some t → zN m j t = true) : qN m = true := by
 unfold qN
 exact dT fun i t ht => h i t (List.getElem?_eq_some_iff.1 ht).1 ht
theorem xZ {α : Type} {l : List α} {q : Nat → α → Bool} {k : Nat} {c : α} (hc : l[k]? = some c) (h : ∀ (j : Nat) (x : α), j < k → l[j]? = some x → q j x = true) (hq : q k c = true) : ∀ (j : Nat) (x : α), j < k + 1 → l[j]? = some x → q j x = true := fun j x hj hx => by
 by_cases e : j = k
 ·subst e
  rw [hc] at hx
  injection hx with hx
  subst hx
  exact hq
 ·exact h j x (by omega) hx
theorem DX {m : eG} (h : m.bY.length = 0) : Bj m = false := by
 cases ha : m.dQ with
 | nil =>
   have : gJ m = false := by simp [gJ, ha]
   rw [Bj, this]; rfl
 | cons a l =>
   have : tL m = false := zY (k := 0) (c := a) (by rw [ha]; rfl) (by
    by_cases h0 : 0 ≤ a
    ·rw [uR, dF (show ¬ a < (m.bY.length : Int) by omega)]; simp
    ·rw [uR, dF h0]; simp)
   rw [Bj, this]; simp
theorem Jl {l : List Int} {a : Int} (h : l[0]? = some a) : decide (l.head? = some 0) = (a == 0) := by
 cases l with
 | nil => cases h
 | cons b l =>
   injection h with h
   subst h
   by_cases e : b = 0 <;> simp [e]
theorem LK {s : dP} {j : Nat} {o : fV} (h : s.aI[j]? = some o) : Gu s (j : Int) = o.tag := by
 unfold Gu
 rw [show ((j : Int)).toNat = j from rfl, h]
end
theorem iG (k : Int) (w : World) : Calls Tryz.prog 125 #[.int .i64 k] w fun e w' => e = .returned (.int .i64 (kindOf k)) ∧ w = w' := by
 go_enter Tryz.func125, Tryz.ntmps125
 go_wp2_with fail
 all_goals
  go_ret
  exact ⟨eX (by simp_all [kindOf]), rfl⟩
theorem LM (k : Int) (s : dP) (n i sl sh : Int) (t : ByteArray) (w : World) {g off lo hi : Nat} (h : At w g off lo hi dP.ay s) (hq : wfB ⟨k, n, i, t, ⟨sl, sh⟩⟩ = false) :
 Calls Tryz.prog 76 #[.pointer (some ⟨g, off, none⟩), .agg #[.int .i64 k, .int .i64 n, .int .i64 i, .string t, .int .i64 sl, .int .i64 sh]] w fun e w' => e = .returned (.bool (cK s ⟨k, n, i, t, ⟨sl, sh⟩⟩)) ∧ Below w.heap.size w w' := by
 obtain ⟨a0, hwa⟩ := eZ w 56 #[.int .i64 k, .int .i64 n, .int .i64 i, .string t, .int .i64 sl, .int .i64 sh]
 have HQ := lH hq
 clear hq
 go_enter Tryz.func76, Tryz.ntmps76
 go_wp2_with fail
 refine (fH ⟨k, n, i, t, ⟨sl, sh⟩⟩ _ _ 0 0 aQ.mk_).mono ?_; rw [HQ.out]; rintro e w1 ⟨rfl, hb1⟩
 have hw1 := hwa.trans (hb1.mono hwa.size)
 have a1 := a0.later hb1
 have ca := a1.cell
 have la := a1.lt
 have h1 := h.below hw1
 clear hb1 a0 hwa h
 go_wp2_with fail
 go_ret
 exact ⟨ah (by unfold cK; rw [HQ.out]; rfl), hw1⟩
theorem NQ (s : dP) (n i sl sh : Int) (t : ByteArray) (w : World) {g off lo hi : Nat} (h : At w g off lo hi dP.ay s) (hq : wfB ⟨0, n, i, t, ⟨sl, sh⟩⟩ = true) :
 Calls Tryz.prog 76 #[.pointer (some ⟨g, off, none⟩), .agg #[.int .i64 0, .int .i64 n, .int .i64 i, .string t, .int .i64 sl, .int .i64 sh]] w fun e w' => e = .returned (.bool (cK s ⟨0, n, i, t, ⟨sl, sh⟩⟩)) ∧ Below w.heap.size w w' := by
 obtain ⟨a0, hwa⟩ := eZ w 56 #[.int .i64 0, .int .i64 n, .int .i64 i, .string t, .int .i64 sl, .int .i64 sh]
 have HQ := lH hq
 clear hq
 go_enter Tryz.func76, Tryz.ntmps76
 go_wp2_with fail
 refine (fH ⟨0, n, i, t, ⟨sl, sh⟩⟩ _ _ 0 0 aQ.mk_).mono ?_; rw [HQ.out]; rintro e w1 ⟨rfl, hb1⟩
 have hw1 := hwa.trans (hb1.mono hwa.size)
 have a1 := a0.later hb1
 have ca := a1.cell
 have la := a1.lt
 have h1 := h.below hw1
 clear hb1 a0 hwa h
 go_wp2_with fail
 refine (iG 0 _).mono ?_; rw [show kindOf 0 = 0 from rfl]; rintro e w2 ⟨rfl, rfl⟩
 go_wp2_with fail
 go_ret
 exact ⟨ah (by unfold cK fD; rw [HQ.out]; simp [kindOf]), hw1⟩
theorem NR (s : dP) (n i sl sh : Int) (t : ByteArray) (w : World) {g off lo hi : Nat} (h : At w g off lo hi dP.ay s) (hq : wfB ⟨1, n, i, t, ⟨sl, sh⟩⟩ = true) :
 Calls Tryz.prog 76 #[.pointer (some ⟨g, off, none⟩), .agg #[.int .i64 1, .int .i64 n, .int .i64 i, .string t, .int .i64 sl, .int .i64 sh]] w fun e w' => e = .returned (.bool (cK s ⟨1, n, i, t, ⟨sl, sh⟩⟩)) ∧ Below w.heap.size w w' := by
 obtain ⟨a0, hwa⟩ := eZ w 56 #[.int .i64 1, .int .i64 n, .int .i64 i, .string t, .int .i64 sl, .int .i64 sh]
 have HQ := lH hq
 clear hq
 go_enter Tryz.func76, Tryz.ntmps76
 go_wp2_with fail
 refine (fH ⟨1, n, i, t, ⟨sl, sh⟩⟩ _ _ 0 0 aQ.mk_).mono ?_; rw [HQ.out]; rintro e w1 ⟨rfl, hb1⟩
 have hw1 := hwa.trans (hb1.mono hwa.size)
 have a1 := a0.later hb1
 have ca := a1.cell
 have la := a1.lt
 have h1 := h.below hw1
 clear hb1 a0 hwa h
 go_wp2_with fail
 refine (iG 1 _).mono ?_; rw [show kindOf 1 = 0 from rfl]; rintro e w2 ⟨rfl, rfl⟩
 go_wp2_with fail
 go_ret
 exact ⟨ah (by unfold cK fD; rw [HQ.out]; simp [kindOf]), hw1⟩
theorem NS (s : dP) (n i sl sh : Int) (t : ByteArray) (w : World) {g off lo hi : Nat} (h : At w g off lo hi dP.ay s) (hq : wfB ⟨2, n, i, t, ⟨sl, sh⟩⟩ = true) :
 Calls Tryz.prog 76 #[.pointer (some ⟨g, off, none⟩), .agg #[.int .i64 2, .int .i64 n, .int .i64 i, .string t, .int .i64 sl, .int .i64 sh]] w fun e w' => e = .returned (.bool (cK s ⟨2, n, i, t, ⟨sl, sh⟩⟩)) ∧ Below w.heap.size w w' := by
 obtain ⟨a0, hwa⟩ := eZ w 56 #[.int .i64 2, .int .i64 n, .int .i64 i, .string t, .int .i64 sl, .int .i64 sh]
 have HQ := lH hq
 clear hq
 go_enter Tryz.func76, Tryz.ntmps76
 go_wp2_with fail
 refine (fH ⟨2, n, i, t, ⟨sl, sh⟩⟩ _ _ 0 0 aQ.mk_).mono ?_; rw [HQ.out]; rintro e w1 ⟨rfl, hb1⟩
 have hw1 := hwa.trans (hb1.mono hwa.size)
 have a1 := a0.later hb1
 have ca := a1.cell
 have la := a1.lt
 have h1 := h.below hw1
 clear hb1 a0 hwa h
 go_wp2_with fail
 refine (iG 2 _).mono ?_; rw [show kindOf 2 = 0 from rfl]; rintro e w2 ⟨rfl, rfl⟩
 go_wp2_with fail
 go_ret
 exact ⟨ah (by unfold cK fD; rw [HQ.out]; simp [kindOf]), hw1⟩
theorem NT (s : dP) (n i sl sh : Int) (t : ByteArray) (w : World) {g off lo hi : Nat} (h : At w g off lo hi dP.ay s) (hq : wfB ⟨3, n, i, t, ⟨sl, sh⟩⟩ = true) :
 Calls Tryz.prog 76 #[.pointer (some ⟨g, off, none⟩), .agg #[.int .i64 3, .int .i64 n, .int .i64 i, .string t, .int .i64 sl, .int .i64 sh]] w fun e w' => e = .returned (.bool (cK s ⟨3, n, i, t, ⟨sl, sh⟩⟩)) ∧ Below w.heap.size w w' := by
 obtain ⟨a0, hwa⟩ := eZ w 56 #[.int .i64 3, .int .i64 n, .int .i64 i, .string t, .int .i64 sl, .int .i64 sh]
 have HQ := lH hq
 clear hq
 go_enter Tryz.func76, Tryz.ntmps76
 go_wp2_with fail
 refine (fH ⟨3, n, i, t, ⟨sl, sh⟩⟩ _ _ 0 0 aQ.mk_).mono ?_; rw [HQ.out]; rintro e w1 ⟨rfl, hb1⟩
 have hw1 := hwa.trans (hb1.mono hwa.size)
 have a1 := a0.later hb1
 have ca := a1.cell
 have la := a1.lt
 have h1 := h.below hw1
 clear hb1 a0 hwa h
 go_wp2_with fail
 refine (iG 3 _).mono ?_; rw [show kindOf 3 = 0 from rfl]; rintro e w2 ⟨rfl, rfl⟩
 go_wp2_with fail
 go_ret
 exact ⟨ah (by unfold cK fD; rw [HQ.out]; simp [kindOf]), hw1⟩
theorem NU (s : dP) (n i sl sh : Int) (t : ByteArray) (w : World) {g off lo hi : Nat} (h : At w g off lo hi dP.ay s) (hq : wfB ⟨4, n, i, t, ⟨sl, sh⟩⟩ = true) :
 Calls Tryz.prog 76 #[.pointer (some ⟨g, off, none⟩), .agg #[.int .i64 4, .int .i64 n, .int .i64 i, .string t, .int .i64 sl, .int .i64 sh]] w fun e w' => e = .returned (.bool (cK s ⟨4, n, i, t, ⟨sl, sh⟩⟩)) ∧ Below w.heap.size w w' := by
 have hn0 : 0 ≤ n := by simp [wfB, iK] at hq; omega
 obtain ⟨a0, hwa⟩ := eZ w 56 #[.int .i64 4, .int .i64 n, .int .i64 i, .string t, .int .i64 sl, .int .i64 sh]
 have HQ := lH hq
 clear hq
 go_enter Tryz.func76, Tryz.ntmps76
 go_wp2_with fail
 refine (fH ⟨4, n, i, t, ⟨sl, sh⟩⟩ _ _ 0 0 aQ.mk_).mono ?_; rw [HQ.out]; rintro e w1 ⟨rfl, hb1⟩
 have hw1 := hwa.trans (hb1.mono hwa.size)
 have a1 := a0.later hb1
 have ca := a1.cell
 have la := a1.lt
 have h1 := h.below hw1
 clear hb1 a0 hwa h
 go_wp2_with fail
 refine (iG 4 _).mono ?_; rw [show kindOf 4 = 2 from rfl]; rintro e w2 ⟨rfl, rfl⟩
 go_upto_region 5 with fail
 obtain ⟨An, nn, Ar, nr, Ao, no, Ag, ng, Au, nu, At', nt, Aa, na, hg, hle, hn, un, mn, hr, ur, mr, ho, uo, mo, hgl, ugl, mgl, hu, uu, mu, ht, ut, mt, ha, ua, ma, c0, c1, c2, c3, c4, c5, c6, c7, c8, c9, c10, c11, c12⟩ := dP.in_ h1
 unfold maxLen at mo
 obtain ⟨j, rfl⟩ : ∃ j : Nat, n = j := ⟨n.toNat, by omega⟩
 by_cases hx : s.aI.length ≤ j
 ·have HV := lH (lJ (s := s) (n := (j : Int)) (k := 2) (by omega))
  have hd : decide ((s.aI.length : Int) ≤ (j : Int)) = true := dT (by omega)
  clear h1 hn hr ho hgl hu ht ha
  go_quiet (fail)
  go_wp2_with fail
  go_ret
  exact ⟨ah (by unfold cK fD; rw [HQ.out]; simp [kindOf, HV.out]), by first | exact hw1 | exact bN hw1 _⟩
 have hd : decide ((s.aI.length : Int) ≤ (j : Int)) = false := dF (by omega)
 obtain ⟨ob, hc⟩ : ∃ ob, s.aI[j]? = some ob := ⟨_, gE (by omega)⟩
 obtain ⟨g', off', Ai, ni, Ak, nk, rfl, hg1, hg2, hmem, hrep, q0, q1, q2, q3, q4⟩ := fV.at_ ho hc
 have HV := lH (nP (k := 2) hc)
 clear h1 hn hr ho hgl hu ht ha hc hmem hrep
 by_cases hk : ob.kind = 2
 have he : (ob.kind != 2) = false := by simp [hk]
 rotate_left
 have he : (ob.kind != 2) = true := by simp [hk]
 iterate 2 focus
  go_quiet (fail)
  go_wp2_with fail
  go_ret
  exact ⟨ah (by unfold cK fD; rw [HQ.out]; simp [kindOf, HV.out, hk]), by first | exact hw1 | exact bN hw1 _⟩
theorem NV (s : dP) (n i sl sh : Int) (t : ByteArray) (w : World) {g off lo hi : Nat} (h : At w g off lo hi dP.ay s) (hq : wfB ⟨5, n, i, t, ⟨sl, sh⟩⟩ = true) :
 Calls Tryz.prog 76 #[.pointer (some ⟨g, off, none⟩), .agg #[.int .i64 5, .int .i64 n, .int .i64 i, .string t, .int .i64 sl, .int .i64 sh]] w fun e w' => e = .returned (.bool (cK s ⟨5, n, i, t, ⟨sl, sh⟩⟩)) ∧ Below w.heap.size w w' := by
 have hn0 : 0 ≤ n := by simp [wfB, iK] at hq; omega
 obtain ⟨a0, hwa⟩ := eZ w 56 #[.int .i64 5, .int .i64 n, .int .i64 i, .string t, .int .i64 sl, .int .i64 sh]
 have HQ := lH hq
 clear hq
 go_enter Tryz.func76, Tryz.ntmps76
 go_wp2_with fail
 refine (fH ⟨5, n, i, t, ⟨sl, sh⟩⟩ _ _ 0 0 aQ.mk_).mono ?_; rw [HQ.out]; rintro e w1 ⟨rfl, hb1⟩
 have hw1 := hwa.trans (hb1.mono hwa.size)
 have a1 := a0.later hb1
 have ca := a1.cell
 have la := a1.lt
 have h1 := h.below hw1
 clear hb1 a0 hwa h
 go_wp2_with fail
 refine (iG 5 _).mono ?_; rw [show kindOf 5 = 3 from rfl]; rintro e w2 ⟨rfl, rfl⟩
 go_upto_region 5 with fail
 obtain ⟨An, nn, Ar, nr, Ao, no, Ag, ng, Au, nu, At', nt, Aa, na, hg, hle, hn, un, mn, hr, ur, mr, ho, uo, mo, hgl, ugl, mgl, hu, uu, mu, ht, ut, mt, ha, ua, ma, c0, c1, c2, c3, c4, c5, c6, c7, c8, c9, c10, c11, c12⟩ := dP.in_ h1
 unfold maxLen at mo
 obtain ⟨j, rfl⟩ : ∃ j : Nat, n = j := ⟨n.toNat, by omega⟩
 by_cases hx : s.aI.length ≤ j
 ·have HV := lH (lJ (s := s) (n := (j : Int)) (k := 3) (by omega))
  have hd : decide ((s.aI.length : Int) ≤ (j : Int)) = true := dT (by omega)
  clear h1 hn hr ho hgl hu ht ha
  go_quiet (fail)
  go_wp2_with fail
  go_ret
  exact ⟨ah (by unfold cK fD; rw [HQ.out]; simp [kindOf, HV.out]), by first | exact hw1 | exact bN hw1 _⟩
 have hd : decide ((s.aI.length : Int) ≤ (j : Int)) = false := dF (by omega)
 obtain ⟨ob, hc⟩ : ∃ ob, s.aI[j]? = some ob := ⟨_, gE (by omega)⟩
 obtain ⟨g', off', Ai, ni, Ak, nk, rfl, hg1, hg2, hmem, hrep, q0, q1, q2, q3, q4⟩ := fV.at_ ho hc
 have HV := lH (nP (k := 3) hc)
 clear h1 hn hr ho hgl hu ht ha hc hmem hrep
 by_cases hk : ob.kind = 3
 have he : (ob.kind != 3) = false := by simp [hk]
 rotate_left
 have he : (ob.kind != 3) = true := by simp [hk]
 iterate 2 focus
  go_quiet (fail)
  go_wp2_with fail
  go_ret
  exact ⟨ah (by unfold cK fD; rw [HQ.out]; simp [kindOf, HV.out, hk]), by first | exact hw1 | exact bN hw1 _⟩
theorem NW (s : dP) (n i sl sh : Int) (t : ByteArray) (w : World) {g off lo hi : Nat} (h : At w g off lo hi dP.ay s) (hq : wfB ⟨6, n, i, t, ⟨sl, sh⟩⟩ = true) :
 Calls Tryz.prog 76 #[.pointer (some ⟨g, off, none⟩), .agg #[.int .i64 6, .int .i64 n, .int .i64 i, .string t, .int .i64 sl, .int .i64 sh]] w fun e w' => e = .returned (.bool (cK s ⟨6, n, i, t, ⟨sl, sh⟩⟩)) ∧ Below w.heap.size w w' := by
 have hn0 : 0 ≤ n := by simp [wfB, iK] at hq; omega
 obtain ⟨a0, hwa⟩ := eZ w 56 #[.int .i64 6, .int .i64 n, .int .i64 i, .string t, .int .i64 sl, .int .i64 sh]
 have HQ := lH hq
 clear hq
 go_enter Tryz.func76, Tryz.ntmps76
 go_wp2_with fail
 refine (fH ⟨6, n, i, t, ⟨sl, sh⟩⟩ _ _ 0 0 aQ.mk_).mono ?_; rw [HQ.out]; rintro e w1 ⟨rfl, hb1⟩
 have hw1 := hwa.trans (hb1.mono hwa.size)
 have a1 := a0.later hb1
 have ca := a1.cell
 have la := a1.lt
 have h1 := h.below hw1
 clear hb1 a0 hwa h
 go_wp2_with fail
 refine (iG 6 _).mono ?_; rw [show kindOf 6 = 4 from rfl]; rintro e w2 ⟨rfl, rfl⟩
 go_upto_region 5 with fail
 obtain ⟨An, nn, Ar, nr, Ao, no, Ag, ng, Au, nu, At', nt, Aa, na, hg, hle, hn, un, mn, hr, ur, mr, ho, uo, mo, hgl, ugl, mgl, hu, uu, mu, ht, ut, mt, ha, ua, ma, c0, c1, c2, c3, c4, c5, c6, c7, c8, c9, c10, c11, c12⟩ := dP.in_ h1
 unfold maxLen at mo
 obtain ⟨j, rfl⟩ : ∃ j : Nat, n = j := ⟨n.toNat, by omega⟩
 by_cases hx : s.aI.length ≤ j
 ·have HV := lH (lJ (s := s) (n := (j : Int)) (k := 4) (by omega))
  have hd : decide ((s.aI.length : Int) ≤ (j : Int)) = true := dT (by omega)
  clear h1 hn hr ho hgl hu ht ha
  go_quiet (fail)
  go_wp2_with fail
  go_ret
  exact ⟨ah (by unfold cK fD; rw [HQ.out]; simp [kindOf, HV.out]), by first | exact hw1 | exact bN hw1 _⟩
 have hd : decide ((s.aI.length : Int) ≤ (j : Int)) = false := dF (by omega)
 obtain ⟨ob, hc⟩ : ∃ ob, s.aI[j]? = some ob := ⟨_, gE (by omega)⟩
 obtain ⟨g', off', Ai, ni, Ak, nk, rfl, hg1, hg2, hmem, hrep, q0, q1, q2, q3, q4⟩ := fV.at_ ho hc
 have HV := lH (nP (k := 4) hc)
 clear h1 hn hr ho hgl hu ht ha hc hmem hrep
 by_cases hk : ob.kind = 4
 have he : (ob.kind != 4) = false := by simp [hk]
 rotate_left
 have he : (ob.kind != 4) = true := by simp [hk]
 iterate 2 focus
  go_quiet (fail)
  go_wp2_with fail
  go_ret
  exact ⟨ah (by unfold cK fD; rw [HQ.out]; simp [kindOf, HV.out, hk]), by first | exact hw1 | exact bN hw1 _⟩
theorem NY (s : dP) (n i sl sh : Int) (t : ByteArray) (w : World) {g off lo hi : Nat} (h : At w g off lo hi dP.ay s) (hq : wfB ⟨7, n, i, t, ⟨sl, sh⟩⟩ = true) :
 Calls Tryz.prog 76 #[.pointer (some ⟨g, off, none⟩), .agg #[.int .i64 7, .int .i64 n, .int .i64 i, .string t, .int .i64 sl, .int .i64 sh]] w fun e w' => e = .returned (.bool (cK s ⟨7, n, i, t, ⟨sl, sh⟩⟩)) ∧ Below w.heap.size w w' := by
 have hn0 : 0 ≤ n := by simp [wfB, iK] at hq; omega
 obtain ⟨a0, hwa⟩ := eZ w 56 #[.int .i64 7, .int .i64 n, .int .i64 i, .string t, .int .i64 sl, .int .i64 sh]
 have HQ := lH hq
 clear hq
 go_enter Tryz.func76, Tryz.ntmps76
 go_wp2_with fail
 refine (fH ⟨7, n, i, t, ⟨sl, sh⟩⟩ _ _ 0 0 aQ.mk_).mono ?_; rw [HQ.out]; rintro e w1 ⟨rfl, hb1⟩
 have hw1 := hwa.trans (hb1.mono hwa.size)
 have a1 := a0.later hb1
 have ca := a1.cell
 have la := a1.lt
 have h1 := h.below hw1
 clear hb1 a0 hwa h
 go_wp2_with fail
 refine (iG 7 _).mono ?_; rw [show kindOf 7 = 5 from rfl]; rintro e w2 ⟨rfl, rfl⟩
 go_upto_region 5 with fail
 obtain ⟨An, nn, Ar, nr, Ao, no, Ag, ng, Au, nu, At', nt, Aa, na, hg, hle, hn, un, mn, hr, ur, mr, ho, uo, mo, hgl, ugl, mgl, hu, uu, mu, ht, ut, mt, ha, ua, ma, c0, c1, c2, c3, c4, c5, c6, c7, c8, c9, c10, c11, c12⟩ := dP.in_ h1
 unfold maxLen at mo
 obtain ⟨j, rfl⟩ : ∃ j : Nat, n = j := ⟨n.toNat, by omega⟩
 by_cases hx : s.aI.length ≤ j
 ·have HV := lH (lJ (s := s) (n := (j : Int)) (k := 5) (by omega))
  have hd : decide ((s.aI.length : Int) ≤ (j : Int)) = true := dT (by omega)
  clear h1 hn hr ho hgl hu ht ha
  go_quiet (fail)
  go_wp2_with fail
  go_ret
  exact ⟨ah (by unfold cK fD; rw [HQ.out]; simp [kindOf, HV.out]), by first | exact hw1 | exact bN hw1 _⟩
 have hd : decide ((s.aI.length : Int) ≤ (j : Int)) = false := dF (by omega)
 obtain ⟨ob, hc⟩ : ∃ ob, s.aI[j]? = some ob := ⟨_, gE (by omega)⟩
 obtain ⟨g', off', Ai, ni, Ak, nk, rfl, hg1, hg2, hmem, hrep, q0, q1, q2, q3, q4⟩ := fV.at_ ho hc
 have HV := lH (nP (k := 5) hc)
 clear h1 hn hr ho hgl hu ht ha hc hmem hrep
 by_cases hk : ob.kind = 5
 have he : (ob.kind != 5) = false := by simp [hk]
 rotate_left
 have he : (ob.kind != 5) = true := by simp [hk]
 iterate 2 focus
  go_quiet (fail)
  go_wp2_with fail
  go_ret
  exact ⟨ah (by unfold cK fD; rw [HQ.out]; simp [kindOf, HV.out, hk]), by first | exact hw1 | exact bN hw1 _⟩
theorem NZ (s : dP) (n i sl sh : Int) (t : ByteArray) (w : World) {g off lo hi : Nat} (h : At w g off lo hi dP.ay s) (hq : wfB ⟨8, n, i, t, ⟨sl, sh⟩⟩ = true) :
 Calls Tryz.prog 76 #[.pointer (some ⟨g, off, none⟩), .agg #[.int .i64 8, .int .i64 n, .int .i64 i, .string t, .int .i64 sl, .int .i64 sh]] w fun e w' => e = .returned (.bool (cK s ⟨8, n, i, t, ⟨sl, sh⟩⟩)) ∧ Below w.heap.size w w' := by
 obtain ⟨a0, hwa⟩ := eZ w 56 #[.int .i64 8, .int .i64 n, .int .i64 i, .string t, .int .i64 sl, .int .i64 sh]
 have HQ := lH hq
 clear hq
 go_enter Tryz.func76, Tryz.ntmps76
 go_wp2_with fail
 refine (fH ⟨8, n, i, t, ⟨sl, sh⟩⟩ _ _ 0 0 aQ.mk_).mono ?_; rw [HQ.out]; rintro e w1 ⟨rfl, hb1⟩
 have hw1 := hwa.trans (hb1.mono hwa.size)
 have a1 := a0.later hb1
 have ca := a1.cell
 have la := a1.lt
 have h1 := h.below hw1
 clear hb1 a0 hwa h
 go_wp2_with fail
 refine (iG 8 _).mono ?_; rw [show kindOf 8 = 0 from rfl]; rintro e w2 ⟨rfl, rfl⟩
 go_upto_region 12 with fail
 obtain ⟨An, nn, Ar, nr, Ao, no, Ag, ng, Au, nu, At', nt, Aa, na, hg, hle, hn, un, mn, hr, ur, mr, ho, uo, mo, hgl, ugl, mgl, hu, uu, mu, ht, ut, mt, ha, ua, ma, c0, c1, c2, c3, c4, c5, c6, c7, c8, c9, c10, c11, c12⟩ := dP.in_ h1
 unfold maxLen at mn mr mgl
 clear h1 hn hr ho hgl hu ht ha
 rcases dC (n < (s.fu.length : Int)) with ⟨hx, hd⟩ | ⟨hx, hd⟩
 ·go_quiet (fail)
  go_wp2_with fail
  go_ret
  exact ⟨ah (by unfold cK fD; rw [HQ.out]; simp [kindOf, hx]), by first | exact hw1 | exact bN hw1 _⟩
 go_quiet (fail)
 go_wp2_with fail
 go_ret
 exact ⟨ah (by unfold cK fD; rw [HQ.out]; simp [kindOf, hx]), by first | exact hw1 | exact bN hw1 _⟩
theorem N5 (s : dP) (n i sl sh : Int) (t : ByteArray) (w : World) {g off lo hi : Nat} (h : At w g off lo hi dP.ay s) (hq : wfB ⟨9, n, i, t, ⟨sl, sh⟩⟩ = true) :
 Calls Tryz.prog 76 #[.pointer (some ⟨g, off, none⟩), .agg #[.int .i64 9, .int .i64 n, .int .i64 i, .string t, .int .i64 sl, .int .i64 sh]] w fun e w' => e = .returned (.bool (cK s ⟨9, n, i, t, ⟨sl, sh⟩⟩)) ∧ Below w.heap.size w w' := by
 obtain ⟨a0, hwa⟩ := eZ w 56 #[.int .i64 9, .int .i64 n, .int .i64 i, .string t, .int .i64 sl, .int .i64 sh]
 have HQ := lH hq
 clear hq
 go_enter Tryz.func76, Tryz.ntmps76
 go_wp2_with fail
 refine (fH ⟨9, n, i, t, ⟨sl, sh⟩⟩ _ _ 0 0 aQ.mk_).mono ?_; rw [HQ.out]; rintro e w1 ⟨rfl, hb1⟩
 have hw1 := hwa.trans (hb1.mono hwa.size)
 have a1 := a0.later hb1
 have ca := a1.cell
 have la := a1.lt
 have h1 := h.below hw1
 clear hb1 a0 hwa h
 go_wp2_with fail
 refine (iG 9 _).mono ?_; rw [show kindOf 9 = 0 from rfl]; rintro e w2 ⟨rfl, rfl⟩
 by_cases hx : n ≤ 54
 ·go_wp2_with fail
  go_ret
  exact ⟨ah (by unfold cK fD; rw [HQ.out]; simp [kindOf, hx]), hw1⟩
 go_wp2_with fail
 go_ret
 exact ⟨ah (by unfold cK fD; rw [HQ.out]; simp [kindOf] <;> omega), hw1⟩
theorem LP (s : dP) (n i sl sh : Int) (t : ByteArray) (w : World) {g off lo hi : Nat} (h : At w g off lo hi dP.ay s) (hq : wfB ⟨10, n, i, t, ⟨sl, sh⟩⟩ = true) :
 Calls Tryz.prog 76 #[.pointer (some ⟨g, off, none⟩), .agg #[.int .i64 10, .int .i64 n, .int .i64 i, .string t, .int .i64 sl, .int .i64 sh]] w fun e w' => e = .returned (.bool (cK s ⟨10, n, i, t, ⟨sl, sh⟩⟩)) ∧ Below w.heap.size w w' := by
 obtain ⟨a0, hwa⟩ := eZ w 56 #[.int .i64 10, .int .i64 n, .int .i64 i, .string t, .int .i64 sl, .int .i64 sh]
 have HQ := lH hq
 clear hq
 go_enter Tryz.func76, Tryz.ntmps76
 go_wp2_with fail
 refine (fH ⟨10, n, i, t, ⟨sl, sh⟩⟩ _ _ 0 0 aQ.mk_).mono ?_; rw [HQ.out]; rintro e w1 ⟨rfl, hb1⟩
 have hw1 := hwa.trans (hb1.mono hwa.size)
 have a1 := a0.later hb1
 have ca := a1.cell
 have la := a1.lt
 have h1 := h.below hw1
 clear hb1 a0 hwa h
 go_wp2_with fail
 refine (iG 10 _).mono ?_; rw [show kindOf 10 = 0 from rfl]; rintro e w2 ⟨rfl, rfl⟩
 go_upto_region 16 with fail
 obtain ⟨An, nn, Ar, nr, Ao, no, Ag, ng, Au, nu, At', nt, Aa, na, hg, hle, hn, un, mn, hr, ur, mr, ho, uo, mo, hgl, ugl, mgl, hu, uu, mu, ht, ut, mt, ha, ua, ma, c0, c1, c2, c3, c4, c5, c6, c7, c8, c9, c10, c11, c12⟩ := dP.in_ h1
 unfold maxLen at mn mr mgl
 clear h1 hn hr ho hgl hu ht ha
 rcases dC (n < (s.aA.length : Int)) with ⟨hx, hd⟩ | ⟨hx, hd⟩
 ·go_quiet (fail)
  go_wp2_with fail
  go_ret
  exact ⟨ah (by unfold cK fD; rw [HQ.out]; simp [kindOf, hx]), by first | exact hw1 | exact bN hw1 _⟩
 go_quiet (fail)
 go_wp2_with fail
 go_ret
 exact ⟨ah (by unfold cK fD; rw [HQ.out]; simp [kindOf, hx]), by first | exact hw1 | exact bN hw1 _⟩
theorem LQ (s : dP) (n i sl sh : Int) (t : ByteArray) (w : World) {g off lo hi : Nat} (h : At w g off lo hi dP.ay s) (hq : wfB ⟨11, n, i, t, ⟨sl, sh⟩⟩ = true) :
 Calls Tryz.prog 76 #[.pointer (some ⟨g, off, none⟩), .agg #[.int .i64 11, .int .i64 n, .int .i64 i, .string t, .int .i64 sl, .int .i64 sh]] w fun e w' => e = .returned (.bool (cK s ⟨11, n, i, t, ⟨sl, sh⟩⟩)) ∧ Below w.heap.size w w' := by
 have hn0 : 0 ≤ n := by simp [wfB, iK] at hq; omega
 obtain ⟨a0, hwa⟩ := eZ w 56 #[.int .i64 11, .int .i64 n, .int .i64 i, .string t, .int .i64 sl, .int .i64 sh]
 have HQ := lH hq
 clear hq
 go_enter Tryz.func76, Tryz.ntmps76
 go_wp2_with fail
 refine (fH ⟨11, n, i, t, ⟨sl, sh⟩⟩ _ _ 0 0 aQ.mk_).mono ?_; rw [HQ.out]; rintro e w1 ⟨rfl, hb1⟩
 have hw1 := hwa.trans (hb1.mono hwa.size)
 have a1 := a0.later hb1
 have ca := a1.cell
 have la := a1.lt
 have h1 := h.below hw1
 clear hb1 a0 hwa h
 go_wp2_with fail
 refine (iG 11 _).mono ?_; rw [show kindOf 11 = 6 from rfl]; rintro e w2 ⟨rfl, rfl⟩
 go_upto_region 5 with fail
 obtain ⟨An, nn, Ar, nr, Ao, no, Ag, ng, Au, nu, At', nt, Aa, na, hg, hle, hn, un, mn, hr, ur, mr, ho, uo, mo, hgl, ugl, mgl, hu, uu, mu, ht, ut, mt, ha, ua, ma, c0, c1, c2, c3, c4, c5, c6, c7, c8, c9, c10, c11, c12⟩ := dP.in_ h1
 unfold maxLen at mo
 obtain ⟨j, rfl⟩ : ∃ j : Nat, n = j := ⟨n.toNat, by omega⟩
 by_cases hx : s.aI.length ≤ j
 ·have HV := lH (lJ (s := s) (n := (j : Int)) (k := 6) (by omega))
  have hd : decide ((s.aI.length : Int) ≤ (j : Int)) = true := dT (by omega)
  clear h1 hn hr ho hgl hu ht ha
  go_quiet (fail)
  go_wp2_with fail
  go_ret
  exact ⟨ah (by unfold cK fD; rw [HQ.out]; simp [kindOf, HV.out]), by first | exact hw1 | exact bN hw1 _⟩
 have hd : decide ((s.aI.length : Int) ≤ (j : Int)) = false := dF (by omega)
 obtain ⟨ob, hc⟩ : ∃ ob, s.aI[j]? = some ob := ⟨_, gE (by omega)⟩
 obtain ⟨g', off', Ai, ni, Ak, nk, rfl, hg1, hg2, hmem, hrep, q0, q1, q2, q3, q4⟩ := fV.at_ ho hc
 have HV := lH (nP (k := 6) hc)
 clear h1 hn hr ho hgl hu ht ha hc hmem hrep
 by_cases hk : ob.kind = 6
 have he : (ob.kind != 6) = false := by simp [hk]
 rotate_left
 have he : (ob.kind != 6) = true := by simp [hk]
 iterate 2 focus
  go_quiet (fail)
  go_wp2_with fail
  go_ret
  exact ⟨ah (by unfold cK fD; rw [HQ.out]; simp [kindOf, HV.out, hk]), by first | exact hw1 | exact bN hw1 _⟩
theorem LU (s : dP) (n i sl sh : Int) (t : ByteArray) (w : World) {g off lo hi : Nat} (h : At w g off lo hi dP.ay s) (hq : wfB ⟨12, n, i, t, ⟨sl, sh⟩⟩ = true) :
 Calls Tryz.prog 76 #[.pointer (some ⟨g, off, none⟩), .agg #[.int .i64 12, .int .i64 n, .int .i64 i, .string t, .int .i64 sl, .int .i64 sh]] w fun e w' => e = .returned (.bool (cK s ⟨12, n, i, t, ⟨sl, sh⟩⟩)) ∧ Below w.heap.size w w' := by
 have hn0 : 0 ≤ n := by simp [wfB, iK] at hq; omega
 obtain ⟨a0, hwa⟩ := eZ w 56 #[.int .i64 12, .int .i64 n, .int .i64 i, .string t, .int .i64 sl, .int .i64 sh]
 have HQ := lH hq
 clear hq
 go_enter Tryz.func76, Tryz.ntmps76
 go_wp2_with fail
 refine (fH ⟨12, n, i, t, ⟨sl, sh⟩⟩ _ _ 0 0 aQ.mk_).mono ?_; rw [HQ.out]; rintro e w1 ⟨rfl, hb1⟩
 have hw1 := hwa.trans (hb1.mono hwa.size)
 have a1 := a0.later hb1
 have ca := a1.cell
 have la := a1.lt
 have h1 := h.below hw1
 clear hb1 a0 hwa h
 go_wp2_with fail
 refine (iG 12 _).mono ?_; rw [show kindOf 12 = 7 from rfl]; rintro e w2 ⟨rfl, rfl⟩
 go_upto_region 5 with fail
 obtain ⟨An, nn, Ar, nr, Ao, no, Ag, ng, Au, nu, At', nt, Aa, na, hg, hle, hn, un, mn, hr, ur, mr, ho, uo, mo, hgl, ugl, mgl, hu, uu, mu, ht, ut, mt, ha, ua, ma, c0, c1, c2, c3, c4, c5, c6, c7, c8, c9, c10, c11, c12⟩ := dP.in_ h1
 unfold maxLen at mo
 obtain ⟨j, rfl⟩ : ∃ j : Nat, n = j := ⟨n.toNat, by omega⟩
 by_cases hx : s.aI.length ≤ j
 ·have HV := lH (lJ (s := s) (n := (j : Int)) (k := 7) (by omega))
  have hd : decide ((s.aI.length : Int) ≤ (j : Int)) = true := dT (by omega)
  clear h1 hn hr ho hgl hu ht ha
  go_quiet (fail)
  go_wp2_with fail
  go_ret
  exact ⟨ah (by unfold cK fD; rw [HQ.out]; simp [kindOf, HV.out]), by first | exact hw1 | exact bN hw1 _⟩
 have hd : decide ((s.aI.length : Int) ≤ (j : Int)) = false := dF (by omega)
 obtain ⟨ob, hc⟩ : ∃ ob, s.aI[j]? = some ob := ⟨_, gE (by omega)⟩
 obtain ⟨g', off', Ai, ni, Ak, nk, rfl, hg1, hg2, hmem, hrep, q0, q1, q2, q3, q4⟩ := fV.at_ ho hc
 have HV := lH (nP (k := 7) hc)
 clear h1 hn hr ho hgl hu ht ha hc hmem hrep
 by_cases hk : ob.kind = 7
 have he : (ob.kind != 7) = false := by simp [hk]
 rotate_left
 have he : (ob.kind != 7) = true := by simp [hk]
 iterate 2 focus
  go_quiet (fail)
  go_wp2_with fail
  go_ret
  exact ⟨ah (by unfold cK fD; rw [HQ.out]; simp [kindOf, HV.out, hk]), by first | exact hw1 | exact bN hw1 _⟩
theorem LV (s : dP) (n i sl sh : Int) (t : ByteArray) (w : World) {g off lo hi : Nat} (h : At w g off lo hi dP.ay s) (hq : wfB ⟨13, n, i, t, ⟨sl, sh⟩⟩ = true) :
 Calls Tryz.prog 76 #[.pointer (some ⟨g, off, none⟩), .agg #[.int .i64 13, .int .i64 n, .int .i64 i, .string t, .int .i64 sl, .int .i64 sh]] w fun e w' => e = .returned (.bool (cK s ⟨13, n, i, t, ⟨sl, sh⟩⟩)) ∧ Below w.heap.size w w' := by
 have hn0 : 0 ≤ n := by simp [wfB, iK] at hq; omega
 obtain ⟨a0, hwa⟩ := eZ w 56 #[.int .i64 13, .int .i64 n, .int .i64 i, .string t, .int .i64 sl, .int .i64 sh]
 have HQ := lH hq
 clear hq
 go_enter Tryz.func76, Tryz.ntmps76
 go_wp2_with fail
 refine (fH ⟨13, n, i, t, ⟨sl, sh⟩⟩ _ _ 0 0 aQ.mk_).mono ?_; rw [HQ.out]; rintro e w1 ⟨rfl, hb1⟩
 have hw1 := hwa.trans (hb1.mono hwa.size)
 have a1 := a0.later hb1
 have ca := a1.cell
 have la := a1.lt
 have h1 := h.below hw1
 clear hb1 a0 hwa h
 go_wp2_with fail
 refine (iG 13 _).mono ?_; rw [show kindOf 13 = 1 from rfl]; rintro e w2 ⟨rfl, rfl⟩
 go_upto_region 5 with fail
 obtain ⟨An, nn, Ar, nr, Ao, no, Ag, ng, Au, nu, At', nt, Aa, na, hg, hle, hn, un, mn, hr, ur, mr, ho, uo, mo, hgl, ugl, mgl, hu, uu, mu, ht, ut, mt, ha, ua, ma, c0, c1, c2, c3, c4, c5, c6, c7, c8, c9, c10, c11, c12⟩ := dP.in_ h1
 unfold maxLen at mo
 obtain ⟨j, rfl⟩ : ∃ j : Nat, n = j := ⟨n.toNat, by omega⟩
 by_cases hx : s.aI.length ≤ j
 ·have HV := lH (lJ (s := s) (n := (j : Int)) (k := 1) (by omega))
  have hd : decide ((s.aI.length : Int) ≤ (j : Int)) = true := dT (by omega)
  clear h1 hn hr ho hgl hu ht ha
  go_quiet (fail)
  go_wp2_with fail
  go_ret
  exact ⟨ah (by unfold cK fD; rw [HQ.out]; simp [kindOf, HV.out]), by first | exact hw1 | exact aC hw1 | exact bN hw1 _ | exact bN (bN hw1 _) _⟩
 have hd : decide ((s.aI.length : Int) ≤ (j : Int)) = false := dF (by omega)
 obtain ⟨ob, hc⟩ : ∃ ob, s.aI[j]? = some ob := ⟨_, gE (by omega)⟩
 have hb := nP (k := 1) hc
 obtain ⟨g', off', Ai, ni, Ak, nk, rfl, hg1, hg2, hmem, hrep, q0, q1, q2, q3, q4⟩ := fV.at_ ho hc
 obtain ⟨X0, y0, X1, y1, hx0, l0, b0, d0, l1, b1, d1⟩ := fV.form hrep
 injection hx0 with hx0
 have hx0 := congrArg Array.toList hx0
 simp only [List.cons.injEq, Value.slice.injEq, and_true, true_and] at hx0
 obtain ⟨⟨rfl, rfl⟩, ⟨rfl, rfl⟩⟩ := hx0
 unfold maxLen at d0
 have HV := lH hb
 have HT := lH (wV hc)
 clear hn hr ho hgl hu ht ha hc hmem hrep l0 l1 hb
 by_cases hk : ob.kind = 1
 rotate_left
 ·have he : (ob.kind != 1) = true := by simp [hk]
  go_quiet (fail)
  go_wp2_with fail
  go_ret
  exact ⟨ah (by unfold cK fD; rw [HQ.out]; simp [kindOf, HV.out, hk]), by first | exact hw1 | exact aC hw1 | exact bN hw1 _ | exact bN (bN hw1 _) _⟩
 have he : (ob.kind != 1) = false := by simp [hk]
 go_quiet (fail)
 go_upto_region 8 with fail
 rcases dC (i < (ob.aj.length : Int)) with ⟨hi, hd2⟩ | ⟨hi, hd2⟩
 ·go_quiet (fail)
  go_wp2_with fail
  go_ret
  exact ⟨ah (by unfold cK fD; rw [HQ.out]; simp [kindOf, HV.out, HT.out, hi, hk]), by first | exact hw1 | exact aC hw1 | exact bN hw1 _ | exact bN (bN hw1 _) _⟩
 go_quiet (fail)
 go_wp2_with fail
 go_ret
 exact ⟨ah (by unfold cK fD; rw [HQ.out]; simp [kindOf, HV.out, HT.out, hi, hk]), by first | exact hw1 | exact aC hw1 | exact bN hw1 _ | exact bN (bN hw1 _) _⟩
theorem LW (s : dP) (n i sl sh : Int) (t : ByteArray) (w : World) {g off lo hi : Nat} (h : At w g off lo hi dP.ay s) (hq : wfB ⟨14, n, i, t, ⟨sl, sh⟩⟩ = true) :
 Calls Tryz.prog 76 #[.pointer (some ⟨g, off, none⟩), .agg #[.int .i64 14, .int .i64 n, .int .i64 i, .string t, .int .i64 sl, .int .i64 sh]] w fun e w' => e = .returned (.bool (cK s ⟨14, n, i, t, ⟨sl, sh⟩⟩)) ∧ Below w.heap.size w w' := by
 obtain ⟨a0, hwa⟩ := eZ w 56 #[.int .i64 14, .int .i64 n, .int .i64 i, .string t, .int .i64 sl, .int .i64 sh]
 have HQ := lH hq
 clear hq
 go_enter Tryz.func76, Tryz.ntmps76
 go_wp2_with fail
 refine (fH ⟨14, n, i, t, ⟨sl, sh⟩⟩ _ _ 0 0 aQ.mk_).mono ?_; rw [HQ.out]; rintro e w1 ⟨rfl, hb1⟩
 have hw1 := hwa.trans (hb1.mono hwa.size)
 have a1 := a0.later hb1
 have ca := a1.cell
 have la := a1.lt
 have h1 := h.below hw1
 clear hb1 a0 hwa h
 go_wp2_with fail
 refine (iG 14 _).mono ?_; rw [show kindOf 14 = 0 from rfl]; rintro e w2 ⟨rfl, rfl⟩
 go_upto_region 18 with fail
 obtain ⟨An, nn, Ar, nr, Ao, no, Ag, ng, Au, nu, At', nt, Aa, na, hg, hle, hn, un, mn, hr, ur, mr, ho, uo, mo, hgl, ugl, mgl, hu, uu, mu, ht, ut, mt, ha, ua, ma, c0, c1, c2, c3, c4, c5, c6, c7, c8, c9, c10, c11, c12⟩ := dP.in_ h1
 unfold maxLen at mn mr mgl
 clear h1 hn hr ho hgl hu ht ha
 rcases dC (i < (s.aB.length : Int)) with ⟨hx, hd⟩ | ⟨hx, hd⟩
 ·go_quiet (fail)
  go_wp2_with fail
  go_ret
  exact ⟨ah (by unfold cK fD; rw [HQ.out]; simp [kindOf, hx]), by first | exact hw1 | exact bN hw1 _⟩
 go_quiet (fail)
 go_wp2_with fail
 go_ret
 exact ⟨ah (by unfold cK fD; rw [HQ.out]; simp [kindOf, hx]), by first | exact hw1 | exact bN hw1 _⟩
theorem LX (s : dP) (n i sl sh : Int) (t : ByteArray) (w : World) {g off lo hi : Nat} (h : At w g off lo hi dP.ay s) (hq : wfB ⟨15, n, i, t, ⟨sl, sh⟩⟩ = true) :
 Calls Tryz.prog 76 #[.pointer (some ⟨g, off, none⟩), .agg #[.int .i64 15, .int .i64 n, .int .i64 i, .string t, .int .i64 sl, .int .i64 sh]] w fun e w' => e = .returned (.bool (cK s ⟨15, n, i, t, ⟨sl, sh⟩⟩)) ∧ Below w.heap.size w w' := by
 have hn0 : 0 ≤ n := by simp [wfB, iK] at hq; omega
 obtain ⟨a0, hwa⟩ := eZ w 56 #[.int .i64 15, .int .i64 n, .int .i64 i, .string t, .int .i64 sl, .int .i64 sh]
 have HQ := lH hq
 clear hq
 go_enter Tryz.func76, Tryz.ntmps76
 go_wp2_with fail
 refine (fH ⟨15, n, i, t, ⟨sl, sh⟩⟩ _ _ 0 0 aQ.mk_).mono ?_; rw [HQ.out]; rintro e w1 ⟨rfl, hb1⟩
 have hw1 := hwa.trans (hb1.mono hwa.size)
 have a1 := a0.later hb1
 have ca := a1.cell
 have la := a1.lt
 have h1 := h.below hw1
 clear hb1 a0 hwa h
 go_wp2_with fail
 refine (iG 15 _).mono ?_; rw [show kindOf 15 = 2 from rfl]; rintro e w2 ⟨rfl, rfl⟩
 go_upto_region 5 with fail
 obtain ⟨An, nn, Ar, nr, Ao, no, Ag, ng, Au, nu, At', nt, Aa, na, hg, hle, hn, un, mn, hr, ur, mr, ho, uo, mo, hgl, ugl, mgl, hu, uu, mu, ht, ut, mt, ha, ua, ma, c0, c1, c2, c3, c4, c5, c6, c7, c8, c9, c10, c11, c12⟩ := dP.in_ h1
 unfold maxLen at mo
 obtain ⟨j, rfl⟩ : ∃ j : Nat, n = j := ⟨n.toNat, by omega⟩
 by_cases hx : s.aI.length ≤ j
 ·have HV := lH (lJ (s := s) (n := (j : Int)) (k := 2) (by omega))
  have hd : decide ((s.aI.length : Int) ≤ (j : Int)) = true := dT (by omega)
  clear h1 hn hr ho hgl hu ht ha
  go_quiet (fail)
  go_wp2_with fail
  go_ret
  exact ⟨ah (by unfold cK fD; rw [HQ.out]; simp [kindOf, HV.out]), by first | exact hw1 | exact bN hw1 _⟩
 have hd : decide ((s.aI.length : Int) ≤ (j : Int)) = false := dF (by omega)
 obtain ⟨ob, hc⟩ : ∃ ob, s.aI[j]? = some ob := ⟨_, gE (by omega)⟩
 obtain ⟨g', off', Ai, ni, Ak, nk, rfl, hg1, hg2, hmem, hrep, q0, q1, q2, q3, q4⟩ := fV.at_ ho hc
 have HV := lH (nP (k := 2) hc)
 clear h1 hn hr ho hgl hu ht ha hc hmem hrep
 by_cases hk : ob.kind = 2
 have he : (ob.kind != 2) = false := by simp [hk]
 rotate_left
 have he : (ob.kind != 2) = true := by simp [hk]
 iterate 2 focus
  go_quiet (fail)
  go_wp2_with fail
  go_ret
  exact ⟨ah (by unfold cK fD; rw [HQ.out]; simp [kindOf, HV.out, hk]), by first | exact hw1 | exact bN hw1 _⟩
theorem LY (s : dP) (n i sl sh : Int) (t : ByteArray) (w : World) {g off lo hi : Nat} (h : At w g off lo hi dP.ay s) (hq : wfB ⟨16, n, i, t, ⟨sl, sh⟩⟩ = true) :
 Calls Tryz.prog 76 #[.pointer (some ⟨g, off, none⟩), .agg #[.int .i64 16, .int .i64 n, .int .i64 i, .string t, .int .i64 sl, .int .i64 sh]] w fun e w' => e = .returned (.bool (cK s ⟨16, n, i, t, ⟨sl, sh⟩⟩)) ∧ Below w.heap.size w w' := by
 have hn0 : 0 ≤ n := by simp [wfB, iK] at hq; omega
 obtain ⟨a0, hwa⟩ := eZ w 56 #[.int .i64 16, .int .i64 n, .int .i64 i, .string t, .int .i64 sl, .int .i64 sh]
 have HQ := lH hq
 clear hq
 go_enter Tryz.func76, Tryz.ntmps76
 go_wp2_with fail
 refine (fH ⟨16, n, i, t, ⟨sl, sh⟩⟩ _ _ 0 0 aQ.mk_).mono ?_; rw [HQ.out]; rintro e w1 ⟨rfl, hb1⟩
 have hw1 := hwa.trans (hb1.mono hwa.size)
 have a1 := a0.later hb1
 have ca := a1.cell
 have la := a1.lt
 have h1 := h.below hw1
 clear hb1 a0 hwa h
 go_wp2_with fail
 refine (iG 16 _).mono ?_; rw [show kindOf 16 = 5 from rfl]; rintro e w2 ⟨rfl, rfl⟩
 go_upto_region 5 with fail
 obtain ⟨An, nn, Ar, nr, Ao, no, Ag, ng, Au, nu, At', nt, Aa, na, hg, hle, hn, un, mn, hr, ur, mr, ho, uo, mo, hgl, ugl, mgl, hu, uu, mu, ht, ut, mt, ha, ua, ma, c0, c1, c2, c3, c4, c5, c6, c7, c8, c9, c10, c11, c12⟩ := dP.in_ h1
 unfold maxLen at mo
 obtain ⟨j, rfl⟩ : ∃ j : Nat, n = j := ⟨n.toNat, by omega⟩
 by_cases hx : s.aI.length ≤ j
 ·have HV := lH (lJ (s := s) (n := (j : Int)) (k := 5) (by omega))
  have hd : decide ((s.aI.length : Int) ≤ (j : Int)) = true := dT (by omega)
  clear h1 hn hr ho hgl hu ht ha
  go_quiet (fail)
  go_wp2_with fail
  go_ret
  exact ⟨ah (by unfold cK fD; rw [HQ.out]; simp [kindOf, HV.out]), by first | exact hw1 | exact aC hw1 | exact bN hw1 _ | exact bN (bN hw1 _) _⟩
 have hd : decide ((s.aI.length : Int) ≤ (j : Int)) = false := dF (by omega)
 obtain ⟨ob, hc⟩ : ∃ ob, s.aI[j]? = some ob := ⟨_, gE (by omega)⟩
 have hb := nP (k := 5) hc
 obtain ⟨g', off', Ai, ni, Ak, nk, rfl, hg1, hg2, hmem, hrep, q0, q1, q2, q3, q4⟩ := fV.at_ ho hc
 obtain ⟨X0, y0, X1, y1, hx0, l0, b0, d0, l1, b1, d1⟩ := fV.form hrep
 injection hx0 with hx0
 have hx0 := congrArg Array.toList hx0
 simp only [List.cons.injEq, Value.slice.injEq, and_true, true_and] at hx0
 obtain ⟨⟨rfl, rfl⟩, ⟨rfl, rfl⟩⟩ := hx0
 unfold maxLen at d0
 have HV := lH hb
 have HT := lH (wV hc)
 clear hn hr ho hgl hu ht ha hc hmem hrep l0 l1 hb
 by_cases hk : ob.kind = 5
 rotate_left
 ·have he : (ob.kind != 5) = true := by simp [hk]
  go_quiet (fail)
  go_wp2_with fail
  go_ret
  exact ⟨ah (by unfold cK fD; rw [HQ.out]; simp [kindOf, HV.out, hk]), by first | exact hw1 | exact aC hw1 | exact bN hw1 _ | exact bN (bN hw1 _) _⟩
 have he : (ob.kind != 5) = false := by simp [hk]
 go_quiet (fail)
 go_upto_region 8 with fail
 rcases dC (i < (ob.aj.length : Int)) with ⟨hi, hd2⟩ | ⟨hi, hd2⟩
 ·go_quiet (fail)
  go_wp2_with fail
  go_ret
  exact ⟨ah (by unfold cK fD; rw [HQ.out]; simp [kindOf, HV.out, HT.out, hi, hk]), by first | exact hw1 | exact aC hw1 | exact bN hw1 _ | exact bN (bN hw1 _) _⟩
 go_quiet (fail)
 go_wp2_with fail
 go_ret
 exact ⟨ah (by unfold cK fD; rw [HQ.out]; simp [kindOf, HV.out, HT.out, hi, hk]), by first | exact hw1 | exact aC hw1 | exact bN hw1 _ | exact bN (bN hw1 _) _⟩
theorem LZ (s : dP) (n i sl sh : Int) (t : ByteArray) (w : World) {g off lo hi : Nat} (h : At w g off lo hi dP.ay s) (hq : wfB ⟨17, n, i, t, ⟨sl, sh⟩⟩ = true) :
 Calls Tryz.prog 76 #[.pointer (some ⟨g, off, none⟩), .agg #[.int .i64 17, .int .i64 n, .int .i64 i, .string t, .int .i64 sl, .int .i64 sh]] w fun e w' => e = .returned (.bool (cK s ⟨17, n, i, t, ⟨sl, sh⟩⟩)) ∧ Below w.heap.size w w' := by
 have hn0 : 0 ≤ n := by simp [wfB, iK] at hq; omega
 obtain ⟨a0, hwa⟩ := eZ w 56 #[.int .i64 17, .int .i64 n, .int .i64 i, .string t, .int .i64 sl, .int .i64 sh]
 have HQ := lH hq
 clear hq
 go_enter Tryz.func76, Tryz.ntmps76
 go_wp2_with fail
 refine (fH ⟨17, n, i, t, ⟨sl, sh⟩⟩ _ _ 0 0 aQ.mk_).mono ?_; rw [HQ.out]; rintro e w1 ⟨rfl, hb1⟩
 have hw1 := hwa.trans (hb1.mono hwa.size)
 have a1 := a0.later hb1
 have ca := a1.cell
 have la := a1.lt
 have h1 := h.below hw1
 clear hb1 a0 hwa h
 go_wp2_with fail
 refine (iG 17 _).mono ?_; rw [show kindOf 17 = 8 from rfl]; rintro e w2 ⟨rfl, rfl⟩
 go_upto_region 5 with fail
 obtain ⟨An, nn, Ar, nr, Ao, no, Ag, ng, Au, nu, At', nt, Aa, na, hg, hle, hn, un, mn, hr, ur, mr, ho, uo, mo, hgl, ugl, mgl, hu, uu, mu, ht, ut, mt, ha, ua, ma, c0, c1, c2, c3, c4, c5, c6, c7, c8, c9, c10, c11, c12⟩ := dP.in_ h1
 unfold maxLen at mo
 obtain ⟨j, rfl⟩ : ∃ j : Nat, n = j := ⟨n.toNat, by omega⟩
 by_cases hx : s.aI.length ≤ j
 ·have HV := lH (lJ (s := s) (n := (j : Int)) (k := 8) (by omega))
  have hd : decide ((s.aI.length : Int) ≤ (j : Int)) = true := dT (by omega)
  clear h1 hn hr ho hgl hu ht ha
  go_quiet (fail)
  go_wp2_with fail
  go_ret
  exact ⟨ah (by unfold cK fD; rw [HQ.out]; simp [kindOf, HV.out]), by first | exact hw1 | exact bN hw1 _⟩
 have hd : decide ((s.aI.length : Int) ≤ (j : Int)) = false := dF (by omega)
 obtain ⟨ob, hc⟩ : ∃ ob, s.aI[j]? = some ob := ⟨_, gE (by omega)⟩
 obtain ⟨g', off', Ai, ni, Ak, nk, rfl, hg1, hg2, hmem, hrep, q0, q1, q2, q3, q4⟩ := fV.at_ ho hc
 have HV := lH (nP (k := 8) hc)
 clear h1 hn hr ho hgl hu ht ha hc hmem hrep
 by_cases hk : ob.kind = 8
 have he : (ob.kind != 8) = false := by simp [hk]
 rotate_left
 have he : (ob.kind != 8) = true := by simp [hk]
 iterate 2 focus
  go_quiet (fail)
  go_wp2_with fail
  go_ret
  exact ⟨ah (by unfold cK fD; rw [HQ.out]; simp [kindOf, HV.out, hk]), by first | exact hw1 | exact bN hw1 _⟩
theorem L5 (s : dP) (n i sl sh : Int) (t : ByteArray) (w : World) {g off lo hi : Nat} (h : At w g off lo hi dP.ay s) (hq : wfB ⟨18, n, i, t, ⟨sl, sh⟩⟩ = true) :
 Calls Tryz.prog 76 #[.pointer (some ⟨g, off, none⟩), .agg #[.int .i64 18, .int .i64 n, .int .i64 i, .string t, .int .i64 sl, .int .i64 sh]] w fun e w' => e = .returned (.bool (cK s ⟨18, n, i, t, ⟨sl, sh⟩⟩)) ∧ Below w.heap.size w w' := by
 obtain ⟨a0, hwa⟩ := eZ w 56 #[.int .i64 18, .int .i64 n, .int .i64 i, .string t, .int .i64 sl, .int .i64 sh]
 have HQ := lH hq
 clear hq
 go_enter Tryz.func76, Tryz.ntmps76
 go_wp2_with fail
 refine (fH ⟨18, n, i, t, ⟨sl, sh⟩⟩ _ _ 0 0 aQ.mk_).mono ?_; rw [HQ.out]; rintro e w1 ⟨rfl, hb1⟩
 have hw1 := hwa.trans (hb1.mono hwa.size)
 have a1 := a0.later hb1
 have ca := a1.cell
 have la := a1.lt
 have h1 := h.below hw1
 clear hb1 a0 hwa h
 go_wp2_with fail
 refine (iG 18 _).mono ?_; rw [show kindOf 18 = 0 from rfl]; rintro e w2 ⟨rfl, rfl⟩
 go_wp2_with fail
 go_ret
 exact ⟨ah (by unfold cK fD; rw [HQ.out]; simp [kindOf]), hw1⟩
theorem L6 (s : dP) (n i sl sh : Int) (t : ByteArray) (w : World) {g off lo hi : Nat} (h : At w g off lo hi dP.ay s) (hq : wfB ⟨19, n, i, t, ⟨sl, sh⟩⟩ = true) :
 Calls Tryz.prog 76 #[.pointer (some ⟨g, off, none⟩), .agg #[.int .i64 19, .int .i64 n, .int .i64 i, .string t, .int .i64 sl, .int .i64 sh]] w fun e w' => e = .returned (.bool (cK s ⟨19, n, i, t, ⟨sl, sh⟩⟩)) ∧ Below w.heap.size w w' := by
 have hn0 : 0 ≤ n := by simp [wfB, iK] at hq; omega
 obtain ⟨a0, hwa⟩ := eZ w 56 #[.int .i64 19, .int .i64 n, .int .i64 i, .string t, .int .i64 sl, .int .i64 sh]
 have HQ := lH hq
 clear hq
 go_enter Tryz.func76, Tryz.ntmps76
 go_wp2_with fail
 refine (fH ⟨19, n, i, t, ⟨sl, sh⟩⟩ _ _ 0 0 aQ.mk_).mono ?_; rw [HQ.out]; rintro e w1 ⟨rfl, hb1⟩
 have hw1 := hwa.trans (hb1.mono hwa.size)
 have a1 := a0.later hb1
 have ca := a1.cell
 have la := a1.lt
 have h1 := h.below hw1
 clear hb1 a0 hwa h
 go_wp2_with fail
 refine (iG 19 _).mono ?_; rw [show kindOf 19 = 1 from rfl]; rintro e w2 ⟨rfl, rfl⟩
 go_upto_region 5 with fail
 obtain ⟨An, nn, Ar, nr, Ao, no, Ag, ng, Au, nu, At', nt, Aa, na, hg, hle, hn, un, mn, hr, ur, mr, ho, uo, mo, hgl, ugl, mgl, hu, uu, mu, ht, ut, mt, ha, ua, ma, c0, c1, c2, c3, c4, c5, c6, c7, c8, c9, c10, c11, c12⟩ := dP.in_ h1
 unfold maxLen at mo
 obtain ⟨j, rfl⟩ : ∃ j : Nat, n = j := ⟨n.toNat, by omega⟩
 by_cases hx : s.aI.length ≤ j
 ·have HV := lH (lJ (s := s) (n := (j : Int)) (k := 1) (by omega))
  have hd : decide ((s.aI.length : Int) ≤ (j : Int)) = true := dT (by omega)
  clear h1 hn hr ho hgl hu ht ha
  go_quiet (fail)
  go_wp2_with fail
  go_ret
  exact ⟨ah (by unfold cK fD; rw [HQ.out]; simp [kindOf, HV.out]), by first | exact hw1 | exact bN hw1 _⟩
 have hd : decide ((s.aI.length : Int) ≤ (j : Int)) = false := dF (by omega)
 obtain ⟨ob, hc⟩ : ∃ ob, s.aI[j]? = some ob := ⟨_, gE (by omega)⟩
 obtain ⟨g', off', Ai, ni, Ak, nk, rfl, hg1, hg2, hmem, hrep, q0, q1, q2, q3, q4⟩ := fV.at_ ho hc
 have HV := lH (nP (k := 1) hc)
 clear h1 hn hr ho hgl hu ht ha hc hmem hrep
 by_cases hk : ob.kind = 1
 have he : (ob.kind != 1) = false := by simp [hk]
 rotate_left
 have he : (ob.kind != 1) = true := by simp [hk]
 iterate 2 focus
  go_quiet (fail)
  go_wp2_with fail
  go_ret
  exact ⟨ah (by unfold cK fD; rw [HQ.out]; simp [kindOf, HV.out, hk]), by first | exact hw1 | exact bN hw1 _⟩
theorem L8 (s : dP) (n i sl sh : Int) (t : ByteArray) (w : World) {g off lo hi : Nat} (h : At w g off lo hi dP.ay s) (hq : wfB ⟨20, n, i, t, ⟨sl, sh⟩⟩ = true) :
 Calls Tryz.prog 76 #[.pointer (some ⟨g, off, none⟩), .agg #[.int .i64 20, .int .i64 n, .int .i64 i, .string t, .int .i64 sl, .int .i64 sh]] w fun e w' => e = .returned (.bool (cK s ⟨20, n, i, t, ⟨sl, sh⟩⟩)) ∧ Below w.heap.size w w' := by
 have hn0 : 0 ≤ n := by simp [wfB, iK] at hq; omega
 obtain ⟨a0, hwa⟩ := eZ w 56 #[.int .i64 20, .int .i64 n, .int .i64 i, .string t, .int .i64 sl, .int .i64 sh]
 have HQ := lH hq
 clear hq
 go_enter Tryz.func76, Tryz.ntmps76
 go_wp2_with fail
 refine (fH ⟨20, n, i, t, ⟨sl, sh⟩⟩ _ _ 0 0 aQ.mk_).mono ?_; rw [HQ.out]; rintro e w1 ⟨rfl, hb1⟩
 have hw1 := hwa.trans (hb1.mono hwa.size)
 have a1 := a0.later hb1
 have ca := a1.cell
 have la := a1.lt
 have h1 := h.below hw1
 clear hb1 a0 hwa h
 go_wp2_with fail
 refine (iG 20 _).mono ?_; rw [show kindOf 20 = 9 from rfl]; rintro e w2 ⟨rfl, rfl⟩
 go_upto_region 5 with fail
 obtain ⟨An, nn, Ar, nr, Ao, no, Ag, ng, Au, nu, At', nt, Aa, na, hg, hle, hn, un, mn, hr, ur, mr, ho, uo, mo, hgl, ugl, mgl, hu, uu, mu, ht, ut, mt, ha, ua, ma, c0, c1, c2, c3, c4, c5, c6, c7, c8, c9, c10, c11, c12⟩ := dP.in_ h1
 unfold maxLen at mo
 obtain ⟨j, rfl⟩ : ∃ j : Nat, n = j := ⟨n.toNat, by omega⟩
 by_cases hx : s.aI.length ≤ j
 ·have HV := lH (lJ (s := s) (n := (j : Int)) (k := 9) (by omega))
  have hd : decide ((s.aI.length : Int) ≤ (j : Int)) = true := dT (by omega)
  clear h1 hn hr ho hgl hu ht ha
  go_quiet (fail)
  go_wp2_with fail
  go_ret
  exact ⟨ah (by unfold cK fD; rw [HQ.out]; simp [kindOf, HV.out]), by first | exact hw1 | exact bN hw1 _⟩
 have hd : decide ((s.aI.length : Int) ≤ (j : Int)) = false := dF (by omega)
 obtain ⟨ob, hc⟩ : ∃ ob, s.aI[j]? = some ob := ⟨_, gE (by omega)⟩
 obtain ⟨g', off', Ai, ni, Ak, nk, rfl, hg1, hg2, hmem, hrep, q0, q1, q2, q3, q4⟩ := fV.at_ ho hc
 have HV := lH (nP (k := 9) hc)
 clear h1 hn hr ho hgl hu ht ha hc hmem hrep
 by_cases hk : ob.kind = 9
 have he : (ob.kind != 9) = false := by simp [hk]
 rotate_left
 have he : (ob.kind != 9) = true := by simp [hk]
 iterate 2 focus
  go_quiet (fail)
  go_wp2_with fail
  go_ret
  exact ⟨ah (by unfold cK fD; rw [HQ.out]; simp [kindOf, HV.out, hk]), by first | exact hw1 | exact bN hw1 _⟩
theorem mH (s : dP) (c : aQ) (x : Value) (w : World) {g off lo hi lo' hi' : Nat} (h : At w g off lo hi dP.ay s) (hx : fA w lo' hi' aQ.ay x c) :
 Calls Tryz.prog 76 #[.pointer (some ⟨g, off, none⟩), x] w fun e w' => e = .returned (.bool (cK s c)) ∧ Below w.heap.size w w' := by
 obtain rfl := aQ.form hx
 obtain ⟨k, n, i, t, ⟨sl, sh⟩⟩ := c
 cases hq : wfB ⟨k, n, i, t, ⟨sl, sh⟩⟩ with
 | false => exact LM k s n i sl sh t w h hq
 | true =>
   have hr : 0 ≤ k ∧ k ≤ 20 := by simp [wfB] at hq; omega
   by_cases k0 : k = 0
   ·subst k0; exact NQ s n i sl sh t w h hq
   by_cases k1 : k = 1
   ·subst k1; exact NR s n i sl sh t w h hq
   by_cases k2 : k = 2
   ·subst k2; exact NS s n i sl sh t w h hq
   by_cases k3 : k = 3
   ·subst k3; exact NT s n i sl sh t w h hq
   by_cases k4 : k = 4
   ·subst k4; exact NU s n i sl sh t w h hq
   by_cases k5 : k = 5
   ·subst k5; exact NV s n i sl sh t w h hq
   by_cases k6 : k = 6
   ·subst k6; exact NW s n i sl sh t w h hq
   by_cases k7 : k = 7
   ·subst k7; exact NY s n i sl sh t w h hq
   by_cases k8 : k = 8
   ·subst k8; exact NZ s n i sl sh t w h hq
   by_cases k9 : k = 9
   ·subst k9; exact N5 s n i sl sh t w h hq
   by_cases k10 : k = 10
   ·subst k10; exact LP s n i sl sh t w h hq
   by_cases k11 : k = 11
   ·subst k11; exact LQ s n i sl sh t w h hq
   by_cases k12 : k = 12
   ·subst k12; exact LU s n i sl sh t w h hq
   by_cases k13 : k = 13
   ·subst k13; exact LV s n i sl sh t w h hq
   by_cases k14 : k = 14
   ·subst k14; exact LW s n i sl sh t w h hq
   by_cases k15 : k = 15
   ·subst k15; exact LX s n i sl sh t w h hq
   by_cases k16 : k = 16
   ·subst k16; exact LY s n i sl sh t w h hq
   by_cases k17 : k = 17
   ·subst k17; exact LZ s n i sl sh t w h hq
   by_cases k18 : k = 18
   ·subst k18; exact L5 s n i sl sh t w h hq
   by_cases k19 : k = 19
   ·subst k19; exact L6 s n i sl sh t w h hq
   obtain rfl : k = 20 := by omega
   exact L8 s n i sl sh t w h hq
theorem xx (s : dP) (c : aQ) (x : Value) (w : World) {g off lo hi lo' hi' : Nat} (h : At w g off lo hi dP.ay s) (hx : fA w lo' hi' aQ.ay x c) :
 Calls Tryz.prog 123 #[.pointer (some ⟨g, off, none⟩), x] w fun e w' => e = .returned (.bool (ig s c)) ∧ Below w.heap.size w w' := by
 obtain rfl := aQ.form hx
 have hwa : Below w.heap.size w (w.alloc (.cells #[Value.int .i64 c.kind, .int .i64 c.number, .int .i64 c.index, .string c.text, .int .i64 c.eB, .int .i64 c.dW] 56)) := bA _ _
 have h0 := h.below hwa
 clear h hx
 by_cases hk : c.kind ≤ 12
 ·have D := lH (dT hk)
  go_enter Tryz.func123, Tryz.ntmps123
  go_wp2_with fail
  refine (mH s c _ _ h0 (aQ.mk_ (lo := 0) (hi := 0))).mono ?_; rintro e w1 ⟨rfl, hb1⟩
  have hw1 := hwa.trans (hb1.mono hwa.size)
  go_wp2_with fail
  go_ret
  exact ⟨ah (by unfold ig; rw [D.out]; rfl), hw1⟩
 ·have D := lH (dF hk)
  go_enter Tryz.func123, Tryz.ntmps123
  go_wp2_with fail
  go_ret
  exact ⟨ah (by unfold ig; rw [D.out]; rfl), hwa⟩
theorem kL (s : dP) (l : List aQ) (v : Value) (w : World) {g off lo hi lo' hi' : Nat} (h : At w g off lo hi dP.ay s) (hv : dz w lo' hi' 6 aQ.ay v l) (hhi : hi' ≤ w.heap.size) :
 Calls Tryz.prog 75 #[.pointer (some ⟨g, off, none⟩), v] w fun e w' => e = .returned (.bool (l.all (ig s))) ∧ Below w.heap.size w w' := by
 obtain ⟨A, cap, rfl, hc1, hc2⟩ := hv.shape
 unfold maxLen at hc2
 go_enter Tryz.func75, Tryz.ntmps75
 go_wp2_with fail
 go_loopw [5] (fun i wr => ∃ k : Nat, k ≤ l.length ∧ i = .int .i64 k ∧ Hid ((l.take k).all (ig s) = true) ∧ Below w.heap.size w wr) (fun i _ => l.length - (intOf i).toNat)
 case atStart => exact ⟨0, nZ _, rfl, by simp [Hid], bR _ _⟩
 case round =>
  obtain ⟨k, hk, rfl, hgo, hb⟩ := hrel
  obtain ⟨wo, rfl⟩ := nW wr
  have hz := hb.size
  by_cases hlt : k < l.length
  ·obtain ⟨c, hc⟩ : ∃ c, l[k]? = some c := ⟨_, gE hlt⟩
   obtain ⟨g', off', rfl, hg1, hg2, hmem, hrep, q0, q1, q2, q3, q4, q5⟩ := aQ.at_ (hv.below hb hhi) hc
   have hwa := hb
   have h0 := h.below hwa
   have HN := lH (fun h => fJ (q := ig s) hc hgo.out h)
   have HF := lH (fun h => lI (q := ig s) (mG hc) h)
   clear hc hmem hrep hgo
   go_wp2_with fail
   refine (xx s c _ _ h0 (aQ.mk_ (lo := 0) (hi := 0))).mono ?_; rintro e w1 ⟨rfl, hb1⟩
   have hw1 := hwa.trans (hb1.mono hz)
   clear q0 q1 q2 q3 q4 q5 hb1 h0
   cases hq : ig s c with
   | true =>
     have HN := lH (HN.out hq)
     clear hq HF
     go_wp2_with fail
     go_roundw
     case rel => exact ⟨k + 1, by omega, by go_num, HN, hw1⟩
     case measure => simp [intOf]; omega
   | false =>
     have HF := lH (HF.out hq)
     clear hq HN
     go_wp2_with fail
     go_ret
     exact ⟨ah HF.out.symm, hw1⟩
  ·obtain rfl : k = l.length := by omega
   rw [List.take_length] at hgo
   go_wp2_with fail
   go_ret
   exact ⟨ah hgo.out.symm, hb⟩
theorem GR (c : eO) (x : Value) (left : Int) (w : World) (lo hi : Nat) (h : fA w lo hi eO.ay x c) (hhi : hi ≤ w.heap.size) (hl0 : 0 ≤ left) (hl1 : left ≤ 1048576) (hf : c.Fits) :
 Calls Tryz.prog 65 #[x, .int .i64 left] w fun e w' => e = .returned (.int .i64 (leftOf left c.dX)) ∧ Below w.heap.size w w' := by
 obtain rfl := eO.form h
 have Rx : c.text.size ≤ 9223372036854775807 := hf
 have HB : Hid (c.dX = c.text.size) := rfl
 have hw0 : Below w.heap.size w (w.alloc (.cells #[Value.int .i64 c.op, .int .i64 c.a, .int .i64 c.b, .int .i64 c.line, .string c.text] 133)) := bA _ _
 by_cases OZ : left < (c.text.size : Nat)
 ·go_enter Tryz.func65, Tryz.ntmps65
  go_wp2_with fail
  go_ret
  exact ⟨eX (dM (by have := HB.out; omega)).symm, hw0⟩
 go_enter Tryz.func65, Tryz.ntmps65
 go_wp2_with fail
 go_ret
 exact ⟨eX (by rw [ep (by have := HB.out; omega)]; have := HB.out; omega), hw0⟩
theorem FF (l : List eO) (v : Value) (left : Int) (w : World) (lo hi : Nat) (h : dz w lo hi 5 eO.ay v l) (hhi : hi ≤ w.heap.size) (hl0 : 0 ≤ left) (hl1 : left ≤ 1048576) (hf : ∀ c ∈ l, c.Fits) :
 Calls Tryz.prog 29 #[v, .int .i64 left] w fun e w' => e = .returned (.int .i64 (leftOf left (l.length + sumOf eO.dX l))) ∧ Below w.heap.size w w' := by
 obtain ⟨A, cap, rfl, hc1, hc2⟩ := h.shape
 unfold maxLen at hc2
 have HF := lH hf
 clear hf
 by_cases hn : left < l.length
 ·go_enter Tryz.func29, Tryz.ntmps29
  go_wp2_with fail
  go_ret
  exact ⟨eX (dM (by omega)).symm, bR _ _⟩
 go_enter Tryz.func29, Tryz.ntmps29
 go_wp2_with fail
 go_loopw [1, 5] (fun t i wr => ∃ k : Nat, k ≤ l.length ∧ i = .int .i64 k ∧ t = .int .i64 (left - l.length - sumOf eO.dX (l.take k)) ∧ sumOf eO.dX (l.take k) ≤ left - l.length ∧ Below w.heap.size w wr) (fun _ i _ => l.length - (intOf i).toNat)
 case atStart => exact ⟨0, nZ _, rfl, by simp [sumOf], by simp [sumOf]; omega, bR _ _⟩
 case round =>
  obtain ⟨k, hk, rfl, rfl, hle, hb⟩ := hrel
  obtain ⟨wo, rfl⟩ := nW wr
  have hz := hb.size
  by_cases hlt : k < l.length
  ·obtain ⟨c, hc⟩ : ∃ c, l[k]? = some c := ⟨_, gE hlt⟩
   obtain ⟨g, off, rfl, hg1, hg2, hmem, hrep, q0, q1, q2, q3, q4⟩ := eO.at_ (h.below hb hhi) hc
   have HB := lH (rM (b := eO.dX) hc)
   have hft := HF.out c hmem
   clear hc hmem
   go_wp2_with fail
   refine (GR c _ _ _ _ _ hrep (by omega) (by omega) (by omega) hft).mono ?_; rintro e w1 ⟨rfl, hb1⟩
   have hb2 := hb.trans (hb1.mono hz)
   clear hrep q0 q1 q2 q3 q4
   by_cases hk1 : left - l.length - sumOf eO.dX (l.take k) < c.dX
   ·rw [dM hk1]
    go_wp2_with fail
    go_ret
    exact ⟨eX (dM (by have := HB.out; have := pX eO.dX l (k + 1); omega)).symm, hb2⟩
   ·rw [ep hk1]
    go_wp2_with fail
    go_roundw
    case rel => exact ⟨k + 1, by omega, by go_num, by rw [HB.out]; go_num, by rw [HB.out]; omega, hb2⟩
    case measure => simp [intOf]; omega
  ·obtain rfl : k = l.length := by omega
   rw [List.take_length] at hle ⊢
   go_wp2_with fail
   go_ret
   exact ⟨eX (by rw [ep (by omega)]; omega), hb⟩
theorem FH (c : eO) (x : Value) (w : World) (lo hi : Nat) (h : fA w lo hi eO.ay x c) (hhi : hi ≤ w.heap.size) (hbk : c.dX ≤ 1048576) :
 Calls Tryz.prog 84 #[x] w (uN eO.ay c w) := by
 obtain rfl := eO.form h
 go_enter Tryz.func84, Tryz.ntmps84
 go_wp2_with fail
 refine bodyPost_ret (v := .agg #[Value.int .i64 c.op, .int .i64 c.a, .int .i64 c.b, .int .i64 c.line, .string c.text]) ?_ rfl ⟨[Value.int .i64 c.op, .int .i64 c.a, .int .i64 c.b, .int .i64 c.line, .string c.text], rfl, (.gG (.gG (.gG (.gG (.wD .lu))))), ?_⟩
 ·simp [results, Tryz.results84, go_sem]
 ·exact ((bA _ _).alloc (by simp) _).alloc (by simp; omega) _
theorem JR : (Tryz.prog.info? 146).map (fun i => (i.zero, i.size, i.bytes)) = some (some (.agg #[.int .i64 0, .int .i64 0, .int .i64 0, .int .i64 0, .string ⟨#[]⟩]), 5, 48) := by kernel_rfl
theorem DY (l : List eO) (v : Value) (w : World) (lo hi : Nat) (h : dz w lo hi 5 eO.ay v l) (hhi : hi ≤ w.heap.size) (hl : l.length + sumOf eO.dX l ≤ 1048576) :
 Calls Tryz.prog 43 #[v] w (vT 5 eO.ay l w) := by
 obtain ⟨i0, hi0, hz0, hz1, hz2⟩ := info_parts JR
 obtain ⟨A, cap, rfl, hc1, hc2⟩ := h.shape
 unfold maxLen at hc2
 go_enter Tryz.func43, Tryz.ntmps43
 go_wp2_with (first | (at_make; refine wpList_make_full w rfl (.tmp 6) (.tmp 6) 45 rfl w.heap.size 146 i0 _ 5 Tryz.underlying45 hi0 hz0 hz1 .i64 .i64 _ _ l.length rfl rfl rfl rfl (by rw [hz2]; omega) (by unfold maxLen; omega) (nR _) ?_))
 intro w1 hown hg
 have hb := kM hg (nR w.heap.size) (fun g hg => by cases hg)
 have hz : w.heap.size + 1 ≤ w1.heap.size := (hown.lt _ rfl).2
 obtain ⟨Z, hown⟩ : ∃ Z, w1.ownsRow w.heap.size 146 5 (.slice (some ⟨w.heap.size, 0, none⟩) l.length l.length) l.length Z := ⟨_, hown⟩
 have HZ := lH hown.1
 clear hg
 go_wp2_with fail
 go_loopw [4] (fun i wr => ∃ (k : Nat) (vs : List Value), k ≤ l.length ∧ i = .int .i64 k ∧ wr.ownsRow w.heap.size 146 5 (.slice (some ⟨w.heap.size, 0, none⟩) l.length l.length) l.length (vs ++ Z.drop (k * 5)) ∧ gZ wr (w.heap.size + 1) wr.heap.size (flat eO.ay (l.take k)) vs ∧ Below w.heap.size w wr ∧ w.heap.size + 1 ≤ wr.heap.size) (fun i _ => l.length - (intOf i).toNat)
 case atStart => exact ⟨0, [], nZ _, rfl, by simpa using hown, by simp only [List.take_zero, oP]; exact .lu, hb, hz⟩
 case round =>
  clear hown hb hz
  obtain ⟨k, vs, hk, rfl, hown, hrep, hb, hz⟩ := hrel
  obtain ⟨wo, rfl⟩ := nW wr
  have hvs : vs.length = k * 5 := by rw [hrep.len, qJ eO.gK, List.length_take, Nat.min_eq_left hk]
  have HV := lH hvs
  clear hvs
  by_cases hlt : k < l.length
  ·obtain ⟨c, hc⟩ : ∃ c, l[k]? = some c := ⟨_, gE hlt⟩
   obtain ⟨g, off, rfl, hg1, hg2, hmem, hcr, q0, q1, q2, q3, q4⟩ := eO.at_ (h.below hb hhi) hc
   have HD := lH (rz (f := eO.ay) hc)
   have hbm := qK (b := eO.dX) hmem
   clear hc hmem
   go_wp2_with fail
   refine (FH c _ _ _ _ hcr (by omega) (by omega)).mono ?_; rintro e w1 ⟨cs, rfl, hx, hb1⟩
   obtain hcs := eO.form ⟨cs, rfl, hx.rep⟩
   obtain rfl : cs = [Value.int .i64 c.op, .int .i64 c.a, .int .i64 c.b, .int .i64 c.line, .string c.text] := congrArg Array.toList (Value.agg.inj hcs)
   have z1 := hb1.size
   have hown1 := pG hown hb1
   have qD := (hrep.below hb1 (nR _)).app hx hz z1
   have hb2 := hb.trans (hb1.mono (by omega))
   clear hown hrep hx hb1 hb hcr q0 q1 q2 q3 q4
   obtain ⟨⟨o0, d0⟩, f0⟩ := gM hown1 (k * 5) (by omega)
   obtain ⟨⟨o1, d1⟩, f1⟩ := gM hown1 (k * 5 + 1) (by omega)
   obtain ⟨⟨o2, d2⟩, f2⟩ := gM hown1 (k * 5 + 2) (by omega)
   obtain ⟨⟨o3, d3⟩, f3⟩ := gM hown1 (k * 5 + 3) (by omega)
   obtain ⟨⟨o4, d4⟩, f4⟩ := gM hown1 (k * 5 + 4) (by omega)
   have pO := qc [Value.int .i64 c.op, .int .i64 c.a, .int .i64 c.b, .int .i64 c.line, .string c.text] _ _ (k * 5) hown1
   rw [oq _ _ _ HV.out (by rw [HZ.out]; simp; omega)] at pO
   have qQ := gZ.gq (g := w.heap.size) (.inl (Nat.lt_succ_self _)) [Value.int .i64 c.op, .int .i64 c.a, .int .i64 c.b, .int .i64 c.line, .string c.text] _ (k * 5) qD
   have tC := lK (nR w.heap.size) [Value.int .i64 c.op, .int .i64 c.a, .int .i64 c.b, .int .i64 c.line, .string c.text] _ _ (k * 5) hb2
   have qR := kK w.heap.size [Value.int .i64 c.op, .int .i64 c.a, .int .i64 c.b, .int .i64 c.line, .string c.text] w1 (k * 5)
   simp only [gq, Nat.add_assoc, Nat.reduceAdd, List.length_cons, List.length_nil] at pO qQ tC qR
   have O2 := lH pO
   have R2 := lH qQ
   have S2 := lH qR
   clear pO qQ hown1 qD qR hcs
   go_wp2_with fail
   go_roundw
   case rel =>
    refine ⟨k + 1, vs ++ [Value.int .i64 c.op, .int .i64 c.a, .int .i64 c.b, .int .i64 c.line, .string c.text], by omega, by go_num, ?_, ?_, tC, by rw [S2.out]; omega⟩
    ·rw [Nat.succ_mul]; exact O2.out
    ·rw [HD.out, S2.out]; exact R2.out
   case measure => simp [intOf]; omega
  ·obtain rfl : k = l.length := by omega
   rw [List.take_length] at hrep
   go_wp2_with fail
   go_ret
   rw [List.drop_eq_nil_of_le (by rw [HZ.out]; exact nR _), List.append_nil] at hown
   exact ⟨_, rfl, dI.mk_ (mid := w.heap.size + 1) hown hrep (by simp [Value.ownBlock]) (by omega) hz, hb⟩
theorem GU (c : kG) (x : Value) (w : World) (lo hi : Nat) (h : fA w lo hi kG.ay x c) (hhi : hi ≤ w.heap.size) (hbk : c.dX ≤ 1048576) :
 Calls Tryz.prog 128 #[x] w (uN kG.ay c w) := by
 obtain rfl := kG.form h
 go_enter Tryz.func128, Tryz.ntmps128
 go_wp2_with fail
 refine bodyPost_ret (v := .agg #[Value.int .i64 c.ret, .int .i64 c.frame, .int .i64 c.routine, .int .i64 c.height, .int .i64 c.dU, .int .i64 c.dx, .int .i64 c.eT, .int .i64 c.line]) ?_ rfl ⟨[Value.int .i64 c.ret, .int .i64 c.frame, .int .i64 c.routine, .int .i64 c.height, .int .i64 c.dU, .int .i64 c.dx, .int .i64 c.eT, .int .i64 c.line], rfl, (.gG (.gG (.gG (.gG (.gG (.gG (.gG (.gG .lu)))))))), ?_⟩
 ·simp [results, Tryz.results128, go_sem]
 ·exact ((bA _ _).alloc (by simp) _).alloc (by simp; omega) _
theorem JU : (Tryz.prog.info? 210).map (fun i => (i.zero, i.size, i.bytes)) = some (some (.agg #[.int .i64 0, .int .i64 0, .int .i64 0, .int .i64 0, .int .i64 0, .int .i64 0, .int .i64 0, .int .i64 0]), 8, 64) := by kernel_rfl
theorem zy (l : List kG) (v : Value) (w : World) (lo hi : Nat) (h : dz w lo hi 8 kG.ay v l) (hhi : hi ≤ w.heap.size) (hl : l.length + sumOf kG.dX l ≤ 1048576) :
 Calls Tryz.prog 88 #[v] w (vT 8 kG.ay l w) := by
 obtain ⟨i0, hi0, hz0, hz1, hz2⟩ := info_parts JU
 obtain ⟨A, cap, rfl, hc1, hc2⟩ := h.shape
 unfold maxLen at hc2
 go_enter Tryz.func88, Tryz.ntmps88
 go_wp2_with (first | (at_make; refine wpList_make_full w rfl (.tmp 6) (.tmp 6) 108 rfl w.heap.size 210 i0 _ 8 Tryz.underlying108 hi0 hz0 hz1 .i64 .i64 _ _ l.length rfl rfl rfl rfl (by rw [hz2]; omega) (by unfold maxLen; omega) (nR _) ?_))
 intro w1 hown hg
 have hb := kM hg (nR w.heap.size) (fun g hg => by cases hg)
 have hz : w.heap.size + 1 ≤ w1.heap.size := (hown.lt _ rfl).2
 obtain ⟨Z, hown⟩ : ∃ Z, w1.ownsRow w.heap.size 210 8 (.slice (some ⟨w.heap.size, 0, none⟩) l.length l.length) l.length Z := ⟨_, hown⟩
 have HZ := lH hown.1
 clear hg
 go_wp2_with fail
 go_loopw [4] (fun i wr => ∃ (k : Nat) (vs : List Value), k ≤ l.length ∧ i = .int .i64 k ∧ wr.ownsRow w.heap.size 210 8 (.slice (some ⟨w.heap.size, 0, none⟩) l.length l.length) l.length (vs ++ Z.drop (k * 8)) ∧ gZ wr (w.heap.size + 1) wr.heap.size (flat kG.ay (l.take k)) vs ∧ Below w.heap.size w wr ∧ w.heap.size + 1 ≤ wr.heap.size) (fun i _ => l.length - (intOf i).toNat)
 case atStart => exact ⟨0, [], nZ _, rfl, by simpa using hown, by simp only [List.take_zero, oP]; exact .lu, hb, hz⟩
 case round =>
  clear hown hb hz
  obtain ⟨k, vs, hk, rfl, hown, hrep, hb, hz⟩ := hrel
  obtain ⟨wo, rfl⟩ := nW wr
  have hvs : vs.length = k * 8 := by rw [hrep.len, qJ kG.gK, List.length_take, Nat.min_eq_left hk]
  have HV := lH hvs
  clear hvs
  by_cases hlt : k < l.length
  ·obtain ⟨c, hc⟩ : ∃ c, l[k]? = some c := ⟨_, gE hlt⟩
   obtain ⟨g, off, rfl, hg1, hg2, hmem, hcr, q0, q1, q2, q3, q4, q5, q6, q7⟩ := kG.at_ (h.below hb hhi) hc
   have HD := lH (rz (f := kG.ay) hc)
   have hbm := qK (b := kG.dX) hmem
   clear hc hmem
   go_wp2_with fail
   refine (GU c _ _ _ _ hcr (by omega) (by omega)).mono ?_; rintro e w1 ⟨cs, rfl, hx, hb1⟩
   obtain hcs := kG.form ⟨cs, rfl, hx.rep⟩
   obtain rfl : cs = [Value.int .i64 c.ret, .int .i64 c.frame, .int .i64 c.routine, .int .i64 c.height, .int .i64 c.dU, .int .i64 c.dx, .int .i64 c.eT, .int .i64 c.line] := congrArg Array.toList (Value.agg.inj hcs)
   have z1 := hb1.size
   have hown1 := pG hown hb1
   have qD := (hrep.below hb1 (nR _)).app hx hz z1
   have hb2 := hb.trans (hb1.mono (by omega))
   clear hown hrep hx hb1 hb hcr q0 q1 q2 q3 q4 q5 q6 q7
   obtain ⟨⟨o0, d0⟩, f0⟩ := gM hown1 (k * 8) (by omega)
   obtain ⟨⟨o1, d1⟩, f1⟩ := gM hown1 (k * 8 + 1) (by omega)
   obtain ⟨⟨o2, d2⟩, f2⟩ := gM hown1 (k * 8 + 2) (by omega)
   obtain ⟨⟨o3, d3⟩, f3⟩ := gM hown1 (k * 8 + 3) (by omega)
   obtain ⟨⟨o4, d4⟩, f4⟩ := gM hown1 (k * 8 + 4) (by omega)
   obtain ⟨⟨o5, d5⟩, f5⟩ := gM hown1 (k * 8 + 5) (by omega)
   obtain ⟨⟨o6, d6⟩, f6⟩ := gM hown1 (k * 8 + 6) (by omega)
   obtain ⟨⟨o7, d7⟩, f7⟩ := gM hown1 (k * 8 + 7) (by omega)
   have pO := qc [Value.int .i64 c.ret, .int .i64 c.frame, .int .i64 c.routine, .int .i64 c.height, .int .i64 c.dU, .int .i64 c.dx, .int .i64 c.eT, .int .i64 c.line] _ _ (k * 8) hown1
   rw [oq _ _ _ HV.out (by rw [HZ.out]; simp; omega)] at pO
   have qQ := gZ.gq (g := w.heap.size) (.inl (Nat.lt_succ_self _)) [Value.int .i64 c.ret, .int .i64 c.frame, .int .i64 c.routine, .int .i64 c.height, .int .i64 c.dU, .int .i64 c.dx, .int .i64 c.eT, .int .i64 c.line] _ (k * 8) qD
   have tC := lK (nR w.heap.size) [Value.int .i64 c.ret, .int .i64 c.frame, .int .i64 c.routine, .int .i64 c.height, .int .i64 c.dU, .int .i64 c.dx, .int .i64 c.eT, .int .i64 c.line] _ _ (k * 8) hb2
   have qR := kK w.heap.size [Value.int .i64 c.ret, .int .i64 c.frame, .int .i64 c.routine, .int .i64 c.height, .int .i64 c.dU, .int .i64 c.dx, .int .i64 c.eT, .int .i64 c.line] w1 (k * 8)
   simp only [gq, Nat.add_assoc, Nat.reduceAdd, List.length_cons, List.length_nil] at pO qQ tC qR
   have O2 := lH pO
   have R2 := lH qQ
   have S2 := lH qR
   clear pO qQ hown1 qD qR hcs
   go_wp2_with fail
   go_roundw
   case rel =>
    refine ⟨k + 1, vs ++ [Value.int .i64 c.ret, .int .i64 c.frame, .int .i64 c.routine, .int .i64 c.height, .int .i64 c.dU, .int .i64 c.dx, .int .i64 c.eT, .int .i64 c.line], by omega, by go_num, ?_, ?_, tC, by rw [S2.out]; omega⟩
    ·rw [Nat.succ_mul]; exact O2.out
    ·rw [HD.out, S2.out]; exact R2.out
   case measure => simp [intOf]; omega
  ·obtain rfl : k = l.length := by omega
   rw [List.take_length] at hrep
   go_wp2_with fail
   go_ret
   rw [List.drop_eq_nil_of_le (by rw [HZ.out]; exact nR _), List.append_nil] at hown
   exact ⟨_, rfl, dI.mk_ (mid := w.heap.size + 1) hown hrep (by simp [Value.ownBlock]) (by omega) hz, hb⟩
theorem GV (c : kH) (x : Value) (w : World) (lo hi : Nat) (h : fA w lo hi kH.ay x c) (hhi : hi ≤ w.heap.size) (hbk : c.dX ≤ 1048576) :
 Calls Tryz.prog 127 #[x] w (uN kH.ay c w) := by
 obtain rfl := kH.form h
 go_enter Tryz.func127, Tryz.ntmps127
 go_wp2_with fail
 refine bodyPost_ret (v := .agg #[Value.int .i64 c.fail, .int .i64 c.height, .int .i64 c.dx, .int .i64 c.eT, .int .i64 c.count]) ?_ rfl ⟨[Value.int .i64 c.fail, .int .i64 c.height, .int .i64 c.dx, .int .i64 c.eT, .int .i64 c.count], rfl, (.gG (.gG (.gG (.gG (.gG .lu))))), ?_⟩
 ·simp [results, Tryz.results127, go_sem]
 ·exact ((bA _ _).alloc (by simp) _).alloc (by simp; omega) _
theorem JV : (Tryz.prog.info? 208).map (fun i => (i.zero, i.size, i.bytes)) = some (some (.agg #[.int .i64 0, .int .i64 0, .int .i64 0, .int .i64 0, .int .i64 0]), 5, 40) := by kernel_rfl
theorem zz (l : List kH) (v : Value) (w : World) (lo hi : Nat) (h : dz w lo hi 5 kH.ay v l) (hhi : hi ≤ w.heap.size) (hl : l.length + sumOf kH.dX l ≤ 1048576) :
 Calls Tryz.prog 87 #[v] w (vT 5 kH.ay l w) := by
 obtain ⟨i0, hi0, hz0, hz1, hz2⟩ := info_parts JV
 obtain ⟨A, cap, rfl, hc1, hc2⟩ := h.shape
 unfold maxLen at hc2
 go_enter Tryz.func87, Tryz.ntmps87
 go_wp2_with (first | (at_make; refine wpList_make_full w rfl (.tmp 6) (.tmp 6) 107 rfl w.heap.size 208 i0 _ 5 Tryz.underlying107 hi0 hz0 hz1 .i64 .i64 _ _ l.length rfl rfl rfl rfl (by rw [hz2]; omega) (by unfold maxLen; omega) (nR _) ?_))
 intro w1 hown hg
 have hb := kM hg (nR w.heap.size) (fun g hg => by cases hg)
 have hz : w.heap.size + 1 ≤ w1.heap.size := (hown.lt _ rfl).2
 obtain ⟨Z, hown⟩ : ∃ Z, w1.ownsRow w.heap.size 208 5 (.slice (some ⟨w.heap.size, 0, none⟩) l.length l.length) l.length Z := ⟨_, hown⟩
 have HZ := lH hown.1
 clear hg
 go_wp2_with fail
 go_loopw [4] (fun i wr => ∃ (k : Nat) (vs : List Value), k ≤ l.length ∧ i = .int .i64 k ∧ wr.ownsRow w.heap.size 208 5 (.slice (some ⟨w.heap.size, 0, none⟩) l.length l.length) l.length (vs ++ Z.drop (k * 5)) ∧ gZ wr (w.heap.size + 1) wr.heap.size (flat kH.ay (l.take k)) vs ∧ Below w.heap.size w wr ∧ w.heap.size + 1 ≤ wr.heap.size) (fun i _ => l.length - (intOf i).toNat)
 case atStart => exact ⟨0, [], nZ _, rfl, by simpa using hown, by simp only [List.take_zero, oP]; exact .lu, hb, hz⟩
 case round =>
  clear hown hb hz
  obtain ⟨k, vs, hk, rfl, hown, hrep, hb, hz⟩ := hrel
  obtain ⟨wo, rfl⟩ := nW wr
  have hvs : vs.length = k * 5 := by rw [hrep.len, qJ kH.gK, List.length_take, Nat.min_eq_left hk]
  have HV := lH hvs
  clear hvs
  by_cases hlt : k < l.length
  ·obtain ⟨c, hc⟩ : ∃ c, l[k]? = some c := ⟨_, gE hlt⟩
   obtain ⟨g, off, rfl, hg1, hg2, hmem, hcr, q0, q1, q2, q3, q4⟩ := kH.at_ (h.below hb hhi) hc
   have HD := lH (rz (f := kH.ay) hc)
   have hbm := qK (b := kH.dX) hmem
   clear hc hmem
   go_wp2_with fail
   refine (GV c _ _ _ _ hcr (by omega) (by omega)).mono ?_; rintro e w1 ⟨cs, rfl, hx, hb1⟩
   obtain hcs := kH.form ⟨cs, rfl, hx.rep⟩
   obtain rfl : cs = [Value.int .i64 c.fail, .int .i64 c.height, .int .i64 c.dx, .int .i64 c.eT, .int .i64 c.count] := congrArg Array.toList (Value.agg.inj hcs)
   have z1 := hb1.size
   have hown1 := pG hown hb1
   have qD := (hrep.below hb1 (nR _)).app hx hz z1
   have hb2 := hb.trans (hb1.mono (by omega))
   clear hown hrep hx hb1 hb hcr q0 q1 q2 q3 q4
   obtain ⟨⟨o0, d0⟩, f0⟩ := gM hown1 (k * 5) (by omega)
   obtain ⟨⟨o1, d1⟩, f1⟩ := gM hown1 (k * 5 + 1) (by omega)
   obtain ⟨⟨o2, d2⟩, f2⟩ := gM hown1 (k * 5 + 2) (by omega)
   obtain ⟨⟨o3, d3⟩, f3⟩ := gM hown1 (k * 5 + 3) (by omega)
   obtain ⟨⟨o4, d4⟩, f4⟩ := gM hown1 (k * 5 + 4) (by omega)
   have pO := qc [Value.int .i64 c.fail, .int .i64 c.height, .int .i64 c.dx, .int .i64 c.eT, .int .i64 c.count] _ _ (k * 5) hown1
   rw [oq _ _ _ HV.out (by rw [HZ.out]; simp; omega)] at pO
   have qQ := gZ.gq (g := w.heap.size) (.inl (Nat.lt_succ_self _)) [Value.int .i64 c.fail, .int .i64 c.height, .int .i64 c.dx, .int .i64 c.eT, .int .i64 c.count] _ (k * 5) qD
   have tC := lK (nR w.heap.size) [Value.int .i64 c.fail, .int .i64 c.height, .int .i64 c.dx, .int .i64 c.eT, .int .i64 c.count] _ _ (k * 5) hb2
   have qR := kK w.heap.size [Value.int .i64 c.fail, .int .i64 c.height, .int .i64 c.dx, .int .i64 c.eT, .int .i64 c.count] w1 (k * 5)
   simp only [gq, Nat.add_assoc, Nat.reduceAdd, List.length_cons, List.length_nil] at pO qQ tC qR
   have O2 := lH pO
   have R2 := lH qQ
   have S2 := lH qR
   clear pO qQ hown1 qD qR hcs
   go_wp2_with fail
   go_roundw
   case rel =>
    refine ⟨k + 1, vs ++ [Value.int .i64 c.fail, .int .i64 c.height, .int .i64 c.dx, .int .i64 c.eT, .int .i64 c.count], by omega, by go_num, ?_, ?_, tC, by rw [S2.out]; omega⟩
    ·rw [Nat.succ_mul]; exact O2.out
    ·rw [HD.out, S2.out]; exact R2.out
   case measure => simp [intOf]; omega
  ·obtain rfl : k = l.length := by omega
   rw [List.take_length] at hrep
   go_wp2_with fail
   go_ret
   rw [List.drop_eq_nil_of_le (by rw [HZ.out]; exact nR _), List.append_nil] at hown
   exact ⟨_, rfl, dI.mk_ (mid := w.heap.size + 1) hown hrep (by simp [Value.ownBlock]) (by omega) hz, hb⟩
theorem FI (c : fV) (x y : Value) (w : World) (lo hi lo' hi' : Nat) (h : fA w lo hi fV.ay x c) (h' : fA w lo' hi' fV.ay y c) (hhi : hi ≤ w.heap.size) (eP : hi' ≤ w.heap.size) :
 Calls Tryz.prog 106 #[x, y] w fun e w' => e = .returned (.bool true) ∧ Below w.heap.size w w' := by
 obtain ⟨pP, oV, rG, qP, rfl, yI, KU, EU, hkeys, Oz, I4⟩ := fV.form h
 obtain ⟨sI, sJ, uY, uZ, rfl, N6, T9, Ua, P7, UF, UG⟩ := fV.form h'
 have K3 : (c.kind != c.kind) = false := by simp
 have Vr : (c.tag != c.tag) = false := by simp
 have Ub : (c.ak != c.ak) = false := by simp
 have hw0 : Below w.heap.size w ((w.alloc (.cells #[Value.int .i64 c.kind, .int .i64 c.tag, .int .i64 c.ak, .slice pP c.aj.length oV, .slice rG c.aX.length qP] 97)).alloc (.cells #[Value.int .i64 c.kind, .int .i64 c.tag, .int .i64 c.ak, .slice sI c.aj.length sJ, .slice uY c.aX.length uZ] 97)) := (bA _ _).alloc (by simp) _
 have a0 := (Blk.new w 97 #[Value.int .i64 c.kind, .int .i64 c.tag, .int .i64 c.ak, .slice pP c.aj.length oV, .slice rG c.aX.length qP]).alloc (.cells #[Value.int .i64 c.kind, .int .i64 c.tag, .int .i64 c.ak, .slice sI c.aj.length sJ, .slice uY c.aX.length uZ] 97)
 have e0 := Blk.newAt (w.alloc (.cells #[Value.int .i64 c.kind, .int .i64 c.tag, .int .i64 c.ak, .slice pP c.aj.length oV, .slice rG c.aX.length qP] 97)) 97 #[Value.int .i64 c.kind, .int .i64 c.tag, .int .i64 c.ak, .slice sI c.aj.length sJ, .slice uY c.aX.length uZ] (w.heap.size + 1) (by simp)
 go_enter Tryz.func106, Tryz.ntmps106
 go_wp2_with fail
 refine (rV c.aj _ _ _ lo hi lo' hi' (yI.below hw0 hhi) (N6.below hw0 eP) (nT hhi hw0.size) (nT eP hw0.size)).mono ?_; rintro e w1 ⟨rfl, hb1⟩
 have hw1 : Below w.heap.size w w1 := hw0.trans (hb1.mono hw0.size)
 have a1 := a0.later hb1
 have e1 := e0.later hb1
 have ca := a1.cell
 have ce := e1.cell
 have la := a1.lt
 have le := e1.lt
 clear hb1
 go_wp2_with fail
 refine (rV c.aX _ _ _ lo hi lo' hi' (hkeys.below hw1 hhi) (P7.below hw1 eP) (nT hhi hw1.size) (nT eP hw1.size)).mono ?_; rintro e w2 ⟨rfl, hb2⟩
 have hw2 : Below w.heap.size w w2 := hw1.trans (hb2.mono hw1.size)
 have a2 := a1.later hb2
 have e2 := e1.later hb2
 clear ca ce la le
 have ca := a2.cell
 have ce := e2.cell
 have la := a2.lt
 have le := e2.lt
 clear hb2
 go_wp2_with fail
 go_ret
 exact ⟨rfl, hw2⟩
theorem DZ (l : List fV) (v u : Value) (w : World) (lo hi lo' hi' : Nat) (h : dz w lo hi 5 fV.ay v l) (h' : dz w lo' hi' 5 fV.ay u l) (hhi : hi ≤ w.heap.size) (eP : hi' ≤ w.heap.size) :
 Calls Tryz.prog 58 #[v, u] w fun e w' => e = .returned (.bool true) ∧ Below w.heap.size w w' := by
 obtain ⟨A, cap, rfl, hc1, hc2⟩ := h.shape
 obtain ⟨A', cap', rfl, hc1', hc2'⟩ := h'.shape
 unfold maxLen at hc2 hc2'
 have hne : ((l.length : Int) != (l.length : Int)) = false := by simp
 go_enter Tryz.func58, Tryz.ntmps58
 go_wp2_with fail
 go_loopw [5] (fun i wr => ∃ k : Nat, k ≤ l.length ∧ i = .int .i64 k ∧ Below w.heap.size w wr) (fun i _ => l.length - (intOf i).toNat)
 case atStart => exact ⟨0, nZ _, rfl, bR _ _⟩
 case round =>
  obtain ⟨k, hk, rfl, hb⟩ := hrel
  obtain ⟨wo, rfl⟩ := nW wr
  have hz := hb.size
  by_cases hlt : k < l.length
  ·obtain ⟨c, hc⟩ : ∃ c, l[k]? = some c := ⟨_, gE hlt⟩
   obtain ⟨g, off, pP, oV, rG, qP, rfl, hg1, hg2, hmem, hrep, q0, q1, q2, q3, q4⟩ := fV.at_ (h.below hb hhi) hc
   obtain ⟨g', off', sI, sJ, uY, uZ, rfl, hg1', wE, tF, qE, p0, p1, p2, p3, p4⟩ := fV.at_ (h'.below hb eP) hc
   have e0 : (0 : Int) ≤ (k : Int) := by omega
   have e8 : (k : Int) < (l.length : Int) := by omega
   have y1 : hi ≤ wo.drew.heap.size := nT hhi hz
   have y2 : hi' ≤ wo.drew.heap.size := nT eP hz
   have t1 := nL hg2 y1
   have t2 := nL wE y2
   clear hc hmem tF
   go_wp2_with fail
   go_region_held3 (fun w' => (w'.cell? ⟨g, off + k * 5, none⟩ = some (.int .i64 c.kind) ∧ w'.cell? ⟨g, off + k * 5 + 1, none⟩ = some (.int .i64 c.tag) ∧ w'.cell? ⟨g, off + k * 5 + 2, none⟩ = some (.int .i64 c.ak) ∧ w'.cell? ⟨g, off + k * 5 + 3, none⟩ = some (.slice pP c.aj.length oV) ∧ w'.cell? ⟨g, off + k * 5 + 4, none⟩ = some (.slice rG c.aX.length qP)) ∧ (w'.cell? ⟨g', off' + k * 5, none⟩ = some (.int .i64 c.kind) ∧ w'.cell? ⟨g', off' + k * 5 + 1, none⟩ = some (.int .i64 c.tag) ∧ w'.cell? ⟨g', off' + k * 5 + 2, none⟩ = some (.int .i64 c.ak) ∧ w'.cell? ⟨g', off' + k * 5 + 3, none⟩ = some (.slice sI c.aj.length sJ) ∧ w'.cell? ⟨g', off' + k * 5 + 4, none⟩ = some (.slice uY c.aX.length uZ)))
    (first | exact ⟨⟨q0, q1, q2, q3, q4⟩, p0, p1, p2, p3, p4⟩ | exact ⟨⟨(hbA.cell t1).trans q0, (hbA.cell t1).trans q1, (hbA.cell t1).trans q2, (hbA.cell t1).trans q3, (hbA.cell t1).trans q4⟩, (hbA.cell t2).trans p0, (hbA.cell t2).trans p1, (hbA.cell t2).trans p2, (hbA.cell t2).trans p3, (hbA.cell t2).trans p4⟩)
    ((go_at_call 106; refine (FI c _ _ _ _ _ _ _ (hrep.same (Same.refl _).drew) (qE.same (Same.refl _).drew) y1 y2).mono ?_; rintro e wA ⟨rfl, hbA⟩))
   have hb2 : Below w.heap.size w wA := hb.drew.trans (hbA.mono hz)
   clear hrep qE q0 q1 q2 q3 q4 p0 p1 p2 p3 p4
   go_wp2_with fail
   go_roundw
   case rel => exact ⟨k + 1, by omega, by go_num, hb2⟩
   case measure => simp [intOf]; omega
  ·obtain rfl : k = l.length := by omega
   go_wp2_with fail
   go_ret
   exact ⟨rfl, hb⟩
end Go.Proofs.YtoddlphekcihgaaGreatDoor
