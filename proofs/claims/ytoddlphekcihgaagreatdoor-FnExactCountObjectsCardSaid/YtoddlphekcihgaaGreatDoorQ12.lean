/- holds of the program: is a value in a yX -/
import Derived.Test.YtoddlphekcihgaaGreatDoorQ07
import Derived.Test.YtoddlphekcihgaaGreatDoorQ11
import Derived.Deep.DeepCutAuto
set_option maxRecDepth 100000
set_option maxHeartbeats 8000000
set_option linter.unusedVariables false
set_option linter.unusedSimpArgs false
namespace Go.Proofs.YtoddlphekcihgaaGreatDoor
open Go.RowKit
theorem zT {P : Program} {f : FuncId} {args : Array Value} {w : World} {n : Nat} {v : Value}
 (h : Calls P f args (w.drewN n) fun e w' => e = .returned v ∧ w.drewN n = w') : Calls P f args (w.drewN n) fun e w'' => e = .returned v ∧ ∃ m, w'' = w.drewN m :=
 h.mono fun _ _ ⟨he, hm⟩ => ⟨he, n, hm.symm⟩
theorem K5 (k : Int) (s : dP) (n i sl sh : Int) (t : ByteArray) (w : World) {g off lo hi : Nat} (h : At w g off lo hi dP.ay s) (hq : wfB ⟨k, n, i, t, ⟨sl, sh⟩⟩ = false) :
 Calls Tryz.prog 97 #[.pointer (some ⟨g, off, none⟩), .agg #[.int .i64 k, .int .i64 n, .int .i64 i, .string t, .int .i64 sl, .int .i64 sh]] w fun e w' => e = .returned (.bool (cK s ⟨k, n, i, t, ⟨sl, sh⟩⟩)) ∧ Below w.heap.size w w' := by
 obtain ⟨a0, hwa⟩ := eZ w 56 #[.int .i64 k, .int .i64 n, .int .i64 i, .string t, .int .i64 sl, .int .i64 sh]
 have HQ := lH hq
 clear hq
 go_enter Tryz.func97, Tryz.ntmps97
 go_wp2_with fail
 refine (fG ⟨k, n, i, t, ⟨sl, sh⟩⟩ _ _ 0 0 aQ.mk_).mono ?_; rw [HQ.out]; rintro e w1 ⟨rfl, hb1⟩
 have hw1 := hwa.trans (hb1.mono hwa.size)
 have a1 := a0.later hb1
 have ca := a1.cell
 have la := a1.lt
 have h1 := h.below hw1
 clear hb1 a0 hwa h
 go_wp2_with fail
 go_ret
 exact ⟨ah (by unfold cK; rw [HQ.out]; rfl), hw1⟩
theorem Nk (s : dP) (n i sl sh : Int) (t : ByteArray) (w : World) {g off lo hi : Nat} (h : At w g off lo hi dP.ay s) (hq : wfB ⟨0, n, i, t, ⟨sl, sh⟩⟩ = true) :
 Calls Tryz.prog 97 #[.pointer (some ⟨g, off, none⟩), .agg #[.int .i64 0, .int .i64 n, .int .i64 i, .string t, .int .i64 sl, .int .i64 sh]] w fun e w' => e = .returned (.bool (cK s ⟨0, n, i, t, ⟨sl, sh⟩⟩)) ∧ Below w.heap.size w w' := by
 obtain ⟨a0, hwa⟩ := eZ w 56 #[.int .i64 0, .int .i64 n, .int .i64 i, .string t, .int .i64 sl, .int .i64 sh]
 have HQ := lH hq
 clear hq
 go_enter Tryz.func97, Tryz.ntmps97
 go_wp2_with fail
 refine (fG ⟨0, n, i, t, ⟨sl, sh⟩⟩ _ _ 0 0 aQ.mk_).mono ?_; rw [HQ.out]; rintro e w1 ⟨rfl, hb1⟩
 have hw1 := hwa.trans (hb1.mono hwa.size)
 have a1 := a0.later hb1
 have ca := a1.cell
 have la := a1.lt
 have h1 := h.below hw1
 clear hb1 a0 hwa h
 go_wp2_with fail
 go_ret
 exact ⟨ah (by unfold cK fD; rw [HQ.out]; simp [kindOf]), hw1⟩
theorem Nl (s : dP) (n i sl sh : Int) (t : ByteArray) (w : World) {g off lo hi : Nat} (h : At w g off lo hi dP.ay s) (hq : wfB ⟨1, n, i, t, ⟨sl, sh⟩⟩ = true) :
 Calls Tryz.prog 97 #[.pointer (some ⟨g, off, none⟩), .agg #[.int .i64 1, .int .i64 n, .int .i64 i, .string t, .int .i64 sl, .int .i64 sh]] w fun e w' => e = .returned (.bool (cK s ⟨1, n, i, t, ⟨sl, sh⟩⟩)) ∧ Below w.heap.size w w' := by
 obtain ⟨a0, hwa⟩ := eZ w 56 #[.int .i64 1, .int .i64 n, .int .i64 i, .string t, .int .i64 sl, .int .i64 sh]
 have HQ := lH hq
 clear hq
 go_enter Tryz.func97, Tryz.ntmps97
 go_wp2_with fail
 refine (fG ⟨1, n, i, t, ⟨sl, sh⟩⟩ _ _ 0 0 aQ.mk_).mono ?_; rw [HQ.out]; rintro e w1 ⟨rfl, hb1⟩
 have hw1 := hwa.trans (hb1.mono hwa.size)
 have a1 := a0.later hb1
 have ca := a1.cell
 have la := a1.lt
 have h1 := h.below hw1
 clear hb1 a0 hwa h
 go_wp2_with fail
 go_ret
 exact ⟨ah (by unfold cK fD; rw [HQ.out]; simp [kindOf]), hw1⟩
theorem Nn (s : dP) (n i sl sh : Int) (t : ByteArray) (w : World) {g off lo hi : Nat} (h : At w g off lo hi dP.ay s) (hq : wfB ⟨2, n, i, t, ⟨sl, sh⟩⟩ = true) :
 Calls Tryz.prog 97 #[.pointer (some ⟨g, off, none⟩), .agg #[.int .i64 2, .int .i64 n, .int .i64 i, .string t, .int .i64 sl, .int .i64 sh]] w fun e w' => e = .returned (.bool (cK s ⟨2, n, i, t, ⟨sl, sh⟩⟩)) ∧ Below w.heap.size w w' := by
 obtain ⟨a0, hwa⟩ := eZ w 56 #[.int .i64 2, .int .i64 n, .int .i64 i, .string t, .int .i64 sl, .int .i64 sh]
 have HQ := lH hq
 clear hq
 go_enter Tryz.func97, Tryz.ntmps97
 go_wp2_with fail
 refine (fG ⟨2, n, i, t, ⟨sl, sh⟩⟩ _ _ 0 0 aQ.mk_).mono ?_; rw [HQ.out]; rintro e w1 ⟨rfl, hb1⟩
 have hw1 := hwa.trans (hb1.mono hwa.size)
 have a1 := a0.later hb1
 have ca := a1.cell
 have la := a1.lt
 have h1 := h.below hw1
 clear hb1 a0 hwa h
 go_wp2_with fail
 go_ret
 exact ⟨ah (by unfold cK fD; rw [HQ.out]; simp [kindOf]), hw1⟩
theorem Np (s : dP) (n i sl sh : Int) (t : ByteArray) (w : World) {g off lo hi : Nat} (h : At w g off lo hi dP.ay s) (hq : wfB ⟨3, n, i, t, ⟨sl, sh⟩⟩ = true) :
 Calls Tryz.prog 97 #[.pointer (some ⟨g, off, none⟩), .agg #[.int .i64 3, .int .i64 n, .int .i64 i, .string t, .int .i64 sl, .int .i64 sh]] w fun e w' => e = .returned (.bool (cK s ⟨3, n, i, t, ⟨sl, sh⟩⟩)) ∧ Below w.heap.size w w' := by
 obtain ⟨a0, hwa⟩ := eZ w 56 #[.int .i64 3, .int .i64 n, .int .i64 i, .string t, .int .i64 sl, .int .i64 sh]
 have HQ := lH hq
 clear hq
 go_enter Tryz.func97, Tryz.ntmps97
 go_wp2_with fail
 refine (fG ⟨3, n, i, t, ⟨sl, sh⟩⟩ _ _ 0 0 aQ.mk_).mono ?_; rw [HQ.out]; rintro e w1 ⟨rfl, hb1⟩
 have hw1 := hwa.trans (hb1.mono hwa.size)
 have a1 := a0.later hb1
 have ca := a1.cell
 have la := a1.lt
 have h1 := h.below hw1
 clear hb1 a0 hwa h
 go_wp2_with fail
 go_ret
 exact ⟨ah (by unfold cK fD; rw [HQ.out]; simp [kindOf]), hw1⟩
theorem Nq (s : dP) (n i sl sh : Int) (t : ByteArray) (w : World) {g off lo hi : Nat} (h : At w g off lo hi dP.ay s) (hq : wfB ⟨4, n, i, t, ⟨sl, sh⟩⟩ = true) :
 Calls Tryz.prog 97 #[.pointer (some ⟨g, off, none⟩), .agg #[.int .i64 4, .int .i64 n, .int .i64 i, .string t, .int .i64 sl, .int .i64 sh]] w fun e w' => e = .returned (.bool (cK s ⟨4, n, i, t, ⟨sl, sh⟩⟩)) ∧ Below w.heap.size w w' := by
 have hn0 : 0 ≤ n := by simp [wfB, iK] at hq; omega
 obtain ⟨a0, hwa⟩ := eZ w 56 #[.int .i64 4, .int .i64 n, .int .i64 i, .string t, .int .i64 sl, .int .i64 sh]
 have HQ := lH hq
 clear hq
 go_enter Tryz.func97, Tryz.ntmps97
 go_wp2_with fail
 refine (fG ⟨4, n, i, t, ⟨sl, sh⟩⟩ _ _ 0 0 aQ.mk_).mono ?_; rw [HQ.out]; rintro e w1 ⟨rfl, hb1⟩
 have hw1 := hwa.trans (hb1.mono hwa.size)
 have a1 := a0.later hb1
 have ca := a1.cell
 have la := a1.lt
 have h1 := h.below hw1
 clear hb1 a0 hwa h
 go_wp2_with fail
 refine (fF s n 2 _ h1).mono ?_; rintro e w2 ⟨rfl, rfl⟩
 go_wp2_with fail
 go_ret
 exact ⟨ah (by unfold cK fD; rw [HQ.out]; simp [kindOf]), hw1⟩
theorem Nr (s : dP) (n i sl sh : Int) (t : ByteArray) (w : World) {g off lo hi : Nat} (h : At w g off lo hi dP.ay s) (hq : wfB ⟨5, n, i, t, ⟨sl, sh⟩⟩ = true) :
 Calls Tryz.prog 97 #[.pointer (some ⟨g, off, none⟩), .agg #[.int .i64 5, .int .i64 n, .int .i64 i, .string t, .int .i64 sl, .int .i64 sh]] w fun e w' => e = .returned (.bool (cK s ⟨5, n, i, t, ⟨sl, sh⟩⟩)) ∧ Below w.heap.size w w' := by
 have hn0 : 0 ≤ n := by simp [wfB, iK] at hq; omega
 obtain ⟨a0, hwa⟩ := eZ w 56 #[.int .i64 5, .int .i64 n, .int .i64 i, .string t, .int .i64 sl, .int .i64 sh]
 have HQ := lH hq
 clear hq
 go_enter Tryz.func97, Tryz.ntmps97
 go_wp2_with fail
 refine (fG ⟨5, n, i, t, ⟨sl, sh⟩⟩ _ _ 0 0 aQ.mk_).mono ?_; rw [HQ.out]; rintro e w1 ⟨rfl, hb1⟩
 have hw1 := hwa.trans (hb1.mono hwa.size)
 have a1 := a0.later hb1
 have ca := a1.cell
 have la := a1.lt
 have h1 := h.below hw1
 clear hb1 a0 hwa h
 go_wp2_with fail
 refine (fF s n 3 _ h1).mono ?_; rintro e w2 ⟨rfl, rfl⟩
 go_wp2_with fail
 go_ret
 exact ⟨ah (by unfold cK fD; rw [HQ.out]; simp [kindOf]), hw1⟩
theorem Ns (s : dP) (n i sl sh : Int) (t : ByteArray) (w : World) {g off lo hi : Nat} (h : At w g off lo hi dP.ay s) (hq : wfB ⟨6, n, i, t, ⟨sl, sh⟩⟩ = true) :
 Calls Tryz.prog 97 #[.pointer (some ⟨g, off, none⟩), .agg #[.int .i64 6, .int .i64 n, .int .i64 i, .string t, .int .i64 sl, .int .i64 sh]] w fun e w' => e = .returned (.bool (cK s ⟨6, n, i, t, ⟨sl, sh⟩⟩)) ∧ Below w.heap.size w w' := by
 have hn0 : 0 ≤ n := by simp [wfB, iK] at hq; omega
 obtain ⟨a0, hwa⟩ := eZ w 56 #[.int .i64 6, .int .i64 n, .int .i64 i, .string t, .int .i64 sl, .int .i64 sh]
 have HQ := lH hq
 clear hq
 go_enter Tryz.func97, Tryz.ntmps97
 go_wp2_with fail
 refine (fG ⟨6, n, i, t, ⟨sl, sh⟩⟩ _ _ 0 0 aQ.mk_).mono ?_; rw [HQ.out]; rintro e w1 ⟨rfl, hb1⟩
 have hw1 := hwa.trans (hb1.mono hwa.size)
 have a1 := a0.later hb1
 have ca := a1.cell
 have la := a1.lt
 have h1 := h.below hw1
 clear hb1 a0 hwa h
 go_wp2_with fail
 refine (fF s n 4 _ h1).mono ?_; rintro e w2 ⟨rfl, rfl⟩
 go_wp2_with fail
 go_ret
 exact ⟨ah (by unfold cK fD; rw [HQ.out]; simp [kindOf]), hw1⟩
theorem Nt (s : dP) (n i sl sh : Int) (t : ByteArray) (w : World) {g off lo hi : Nat} (h : At w g off lo hi dP.ay s) (hq : wfB ⟨7, n, i, t, ⟨sl, sh⟩⟩ = true) :
 Calls Tryz.prog 97 #[.pointer (some ⟨g, off, none⟩), .agg #[.int .i64 7, .int .i64 n, .int .i64 i, .string t, .int .i64 sl, .int .i64 sh]] w fun e w' => e = .returned (.bool (cK s ⟨7, n, i, t, ⟨sl, sh⟩⟩)) ∧ Below w.heap.size w w' := by
 have hn0 : 0 ≤ n := by simp [wfB, iK] at hq; omega
 obtain ⟨a0, hwa⟩ := eZ w 56 #[.int .i64 7, .int .i64 n, .int .i64 i, .string t, .int .i64 sl, .int .i64 sh]
 have HQ := lH hq
 clear hq
 go_enter Tryz.func97, Tryz.ntmps97
 go_wp2_with fail
 refine (fG ⟨7, n, i, t, ⟨sl, sh⟩⟩ _ _ 0 0 aQ.mk_).mono ?_; rw [HQ.out]; rintro e w1 ⟨rfl, hb1⟩
 have hw1 := hwa.trans (hb1.mono hwa.size)
 have a1 := a0.later hb1
 have ca := a1.cell
 have la := a1.lt
 have h1 := h.below hw1
 clear hb1 a0 hwa h
 go_wp2_with fail
 refine (fF s n 5 _ h1).mono ?_; rintro e w2 ⟨rfl, rfl⟩
 go_wp2_with fail
 go_ret
 exact ⟨ah (by unfold cK fD; rw [HQ.out]; simp [kindOf]), hw1⟩
theorem Nu (s : dP) (n i sl sh : Int) (t : ByteArray) (w : World) {g off lo hi : Nat} (h : At w g off lo hi dP.ay s) (hq : wfB ⟨8, n, i, t, ⟨sl, sh⟩⟩ = true) :
 Calls Tryz.prog 97 #[.pointer (some ⟨g, off, none⟩), .agg #[.int .i64 8, .int .i64 n, .int .i64 i, .string t, .int .i64 sl, .int .i64 sh]] w fun e w' => e = .returned (.bool (cK s ⟨8, n, i, t, ⟨sl, sh⟩⟩)) ∧ Below w.heap.size w w' := by
 obtain ⟨a0, hwa⟩ := eZ w 56 #[.int .i64 8, .int .i64 n, .int .i64 i, .string t, .int .i64 sl, .int .i64 sh]
 have HQ := lH hq
 clear hq
 go_enter Tryz.func97, Tryz.ntmps97
 go_wp2_with fail
 refine (fG ⟨8, n, i, t, ⟨sl, sh⟩⟩ _ _ 0 0 aQ.mk_).mono ?_; rw [HQ.out]; rintro e w1 ⟨rfl, hb1⟩
 have hw1 := hwa.trans (hb1.mono hwa.size)
 have a1 := a0.later hb1
 have ca := a1.cell
 have la := a1.lt
 have h1 := h.below hw1
 clear hb1 a0 hwa h
 go_upto_region 29 with fail
 obtain ⟨An, nn, Ar, nr, Ao, no, Ag, ng, Au, nu, At', nt, Aa, na, hg, hle, hn, un, mn, hr, ur, mr, ho, uo, mo, hgl, ugl, mgl, hu, uu, mu, ht, ut, mt, ha, ua, ma, c0, c1, c2, c3, c4, c5, c6, c7, c8, c9, c10, c11, c12⟩ := dP.in_ h1
 unfold maxLen at mn mr mgl
 clear h1 hn hr ho hgl hu ht ha
 rcases dC (n < (s.fu.length : Int)) with ⟨hx, hd⟩ | ⟨hx, hd⟩
 ·go_quiet (fail)
  go_wp2_with fail
  go_ret
  exact ⟨ah (by unfold cK fD; rw [HQ.out]; simp [kindOf, hx]), by first | exact hw1 | exact bN hw1 _⟩
 go_quiet (fail)
 go_wp2_with fail
 go_ret
 exact ⟨ah (by unfold cK fD; rw [HQ.out]; simp [kindOf, hx]), by first | exact hw1 | exact bN hw1 _⟩
theorem Nv (s : dP) (n i sl sh : Int) (t : ByteArray) (w : World) {g off lo hi : Nat} (h : At w g off lo hi dP.ay s) (hq : wfB ⟨9, n, i, t, ⟨sl, sh⟩⟩ = true) :
 Calls Tryz.prog 97 #[.pointer (some ⟨g, off, none⟩), .agg #[.int .i64 9, .int .i64 n, .int .i64 i, .string t, .int .i64 sl, .int .i64 sh]] w fun e w' => e = .returned (.bool (cK s ⟨9, n, i, t, ⟨sl, sh⟩⟩)) ∧ Below w.heap.size w w' := by
 obtain ⟨a0, hwa⟩ := eZ w 56 #[.int .i64 9, .int .i64 n, .int .i64 i, .string t, .int .i64 sl, .int .i64 sh]
 have HQ := lH hq
 clear hq
 go_enter Tryz.func97, Tryz.ntmps97
 go_wp2_with fail
 refine (fG ⟨9, n, i, t, ⟨sl, sh⟩⟩ _ _ 0 0 aQ.mk_).mono ?_; rw [HQ.out]; rintro e w1 ⟨rfl, hb1⟩
 have hw1 := hwa.trans (hb1.mono hwa.size)
 have a1 := a0.later hb1
 have ca := a1.cell
 have la := a1.lt
 have h1 := h.below hw1
 clear hb1 a0 hwa h
 by_cases hx : n ≤ 54
 ·go_wp2_with fail
  go_ret
  exact ⟨ah (by unfold cK fD; rw [HQ.out]; simp [kindOf, hx]), hw1⟩
 go_wp2_with fail
 go_ret
 exact ⟨ah (by unfold cK fD; rw [HQ.out]; simp [kindOf] <;> omega), hw1⟩
theorem K6 (s : dP) (n i sl sh : Int) (t : ByteArray) (w : World) {g off lo hi : Nat} (h : At w g off lo hi dP.ay s) (hq : wfB ⟨10, n, i, t, ⟨sl, sh⟩⟩ = true) :
 Calls Tryz.prog 97 #[.pointer (some ⟨g, off, none⟩), .agg #[.int .i64 10, .int .i64 n, .int .i64 i, .string t, .int .i64 sl, .int .i64 sh]] w fun e w' => e = .returned (.bool (cK s ⟨10, n, i, t, ⟨sl, sh⟩⟩)) ∧ Below w.heap.size w w' := by
 obtain ⟨a0, hwa⟩ := eZ w 56 #[.int .i64 10, .int .i64 n, .int .i64 i, .string t, .int .i64 sl, .int .i64 sh]
 have HQ := lH hq
 clear hq
 go_enter Tryz.func97, Tryz.ntmps97
 go_wp2_with fail
 refine (fG ⟨10, n, i, t, ⟨sl, sh⟩⟩ _ _ 0 0 aQ.mk_).mono ?_; rw [HQ.out]; rintro e w1 ⟨rfl, hb1⟩
 have hw1 := hwa.trans (hb1.mono hwa.size)
 have a1 := a0.later hb1
 have ca := a1.cell
 have la := a1.lt
 have h1 := h.below hw1
 clear hb1 a0 hwa h
 go_upto_region 33 with fail
 obtain ⟨An, nn, Ar, nr, Ao, no, Ag, ng, Au, nu, At', nt, Aa, na, hg, hle, hn, un, mn, hr, ur, mr, ho, uo, mo, hgl, ugl, mgl, hu, uu, mu, ht, ut, mt, ha, ua, ma, c0, c1, c2, c3, c4, c5, c6, c7, c8, c9, c10, c11, c12⟩ := dP.in_ h1
 unfold maxLen at mn mr mgl
 clear h1 hn hr ho hgl hu ht ha
 rcases dC (n < (s.aA.length : Int)) with ⟨hx, hd⟩ | ⟨hx, hd⟩
 ·go_quiet (fail)
  go_wp2_with fail
  go_ret
  exact ⟨ah (by unfold cK fD; rw [HQ.out]; simp [kindOf, hx]), by first | exact hw1 | exact bN hw1 _⟩
 go_quiet (fail)
 go_wp2_with fail
 go_ret
 exact ⟨ah (by unfold cK fD; rw [HQ.out]; simp [kindOf, hx]), by first | exact hw1 | exact bN hw1 _⟩
theorem K7 (s : dP) (n i sl sh : Int) (t : ByteArray) (w : World) {g off lo hi : Nat} (h : At w g off lo hi dP.ay s) (hq : wfB ⟨11, n, i, t, ⟨sl, sh⟩⟩ = true) :
 Calls Tryz.prog 97 #[.pointer (some ⟨g, off, none⟩), .agg #[.int .i64 11, .int .i64 n, .int .i64 i, .string t, .int .i64 sl, .int .i64 sh]] w fun e w' => e = .returned (.bool (cK s ⟨11, n, i, t, ⟨sl, sh⟩⟩)) ∧ Below w.heap.size w w' := by
 have hn0 : 0 ≤ n := by simp [wfB, iK] at hq; omega
 obtain ⟨a0, hwa⟩ := eZ w 56 #[.int .i64 11, .int .i64 n, .int .i64 i, .string t, .int .i64 sl, .int .i64 sh]
 have HQ := lH hq
 clear hq
 go_enter Tryz.func97, Tryz.ntmps97
 go_wp2_with fail
 refine (fG ⟨11, n, i, t, ⟨sl, sh⟩⟩ _ _ 0 0 aQ.mk_).mono ?_; rw [HQ.out]; rintro e w1 ⟨rfl, hb1⟩
 have hw1 := hwa.trans (hb1.mono hwa.size)
 have a1 := a0.later hb1
 have ca := a1.cell
 have la := a1.lt
 have h1 := h.below hw1
 clear hb1 a0 hwa h
 go_wp2_with fail
 refine (fF s n 6 _ h1).mono ?_; rintro e w2 ⟨rfl, rfl⟩
 go_wp2_with fail
 go_ret
 exact ⟨ah (by unfold cK fD; rw [HQ.out]; simp [kindOf]), hw1⟩
theorem K8 (s : dP) (n i sl sh : Int) (t : ByteArray) (w : World) {g off lo hi : Nat} (h : At w g off lo hi dP.ay s) (hq : wfB ⟨12, n, i, t, ⟨sl, sh⟩⟩ = true) :
 Calls Tryz.prog 97 #[.pointer (some ⟨g, off, none⟩), .agg #[.int .i64 12, .int .i64 n, .int .i64 i, .string t, .int .i64 sl, .int .i64 sh]] w fun e w' => e = .returned (.bool (cK s ⟨12, n, i, t, ⟨sl, sh⟩⟩)) ∧ Below w.heap.size w w' := by
 have hn0 : 0 ≤ n := by simp [wfB, iK] at hq; omega
 obtain ⟨a0, hwa⟩ := eZ w 56 #[.int .i64 12, .int .i64 n, .int .i64 i, .string t, .int .i64 sl, .int .i64 sh]
 have HQ := lH hq
 clear hq
 go_enter Tryz.func97, Tryz.ntmps97
 go_wp2_with fail
 refine (fG ⟨12, n, i, t, ⟨sl, sh⟩⟩ _ _ 0 0 aQ.mk_).mono ?_; rw [HQ.out]; rintro e w1 ⟨rfl, hb1⟩
 have hw1 := hwa.trans (hb1.mono hwa.size)
 have a1 := a0.later hb1
 have ca := a1.cell
 have la := a1.lt
 have h1 := h.below hw1
 clear hb1 a0 hwa h
 go_wp2_with fail
 refine (fF s n 7 _ h1).mono ?_; rintro e w2 ⟨rfl, rfl⟩
 go_wp2_with fail
 go_ret
 exact ⟨ah (by unfold cK fD; rw [HQ.out]; simp [kindOf]), hw1⟩
theorem K9 (s : dP) (n i sl sh : Int) (t : ByteArray) (w : World) {g off lo hi : Nat} (h : At w g off lo hi dP.ay s) (hq : wfB ⟨13, n, i, t, ⟨sl, sh⟩⟩ = true) :
 Calls Tryz.prog 97 #[.pointer (some ⟨g, off, none⟩), .agg #[.int .i64 13, .int .i64 n, .int .i64 i, .string t, .int .i64 sl, .int .i64 sh]] w fun e w' => e = .returned (.bool (cK s ⟨13, n, i, t, ⟨sl, sh⟩⟩)) ∧ Below w.heap.size w w' := by
 have hn0 : 0 ≤ n := by simp [wfB, iK] at hq; omega
 obtain ⟨a0, hwa⟩ := eZ w 56 #[.int .i64 13, .int .i64 n, .int .i64 i, .string t, .int .i64 sl, .int .i64 sh]
 have HQ := lH hq
 clear hq
 go_enter Tryz.func97, Tryz.ntmps97
 go_wp2_with fail
 refine (fG ⟨13, n, i, t, ⟨sl, sh⟩⟩ _ _ 0 0 aQ.mk_).mono ?_; rw [HQ.out]; rintro e w1 ⟨rfl, hb1⟩
 have hw1 := hwa.trans (hb1.mono hwa.size)
 have a1 := a0.later hb1
 have ca := a1.cell
 have la := a1.lt
 have h1 := h.below hw1
 clear hb1 a0 hwa h
 go_upto_region 25 with fail
 obtain ⟨An, nn, Ar, nr, Ao, no, Ag, ng, Au, nu, At', nt, Aa, na, hg, hle, hn, un, mn, hr, ur, mr, ho, uo, mo, hgl, ugl, mgl, hu, uu, mu, ht, ut, mt, ha, ua, ma, c0, c1, c2, c3, c4, c5, c6, c7, c8, c9, c10, c11, c12⟩ := dP.in_ h1
 unfold maxLen at mo
 obtain ⟨j, rfl⟩ : ∃ j : Nat, n = j := ⟨n.toNat, by omega⟩
 cases hb : kU s j 1
 case false =>
  have HV := lH hb
  clear hn hr ho hgl hu ht ha hb
  go_quiet (first | (go_at_call 94; exact zT ((fF s j 1 _ (h1.drewN _)).mono fun _ _ ⟨a, b⟩ => ⟨a.trans (by rw [HV.out]), b⟩)) | fail)
  all_goals go_wp2_with fail
  all_goals go_ret <;> exact ⟨ah (by unfold cK fD; rw [HQ.out]; simp [kindOf, HV.out]), by first | exact hw1 | exact aC hw1 | exact bN hw1 _ | exact bN (bN hw1 _) _⟩
 obtain ⟨j', ob, hj, hc, hk⟩ := Co hb
 obtain rfl : j = j' := by omega
 obtain ⟨g', off', Ai, ni, Ak, nk, rfl, hg1, hg2, hmem, hrep, q0, q1, q2, q3, q4⟩ := fV.at_ ho hc
 obtain ⟨X0, y0, X1, y1, hx0, l0, b0, d0, l1, b1, d1⟩ := fV.form hrep
 injection hx0 with hx0
 have hx0 := congrArg Array.toList hx0
 simp only [List.cons.injEq, Value.slice.injEq, and_true, true_and] at hx0
 obtain ⟨⟨rfl, rfl⟩, ⟨rfl, rfl⟩⟩ := hx0
 unfold maxLen at d0
 have HV := lH hb
 have hjl : j < s.aI.length := (List.getElem?_eq_some_iff.1 hc).1
 have HT := lH (wV hc)
 clear hn hr ho hgl hu ht ha hc hmem hrep l0 l1 hb
 rcases dC (i < (ob.aj.length : Int)) with ⟨hi, hd2⟩ | ⟨hi, hd2⟩
 ·go_quiet (first | (go_at_call 94; exact zT ((fF s j 1 _ (h1.drewN _)).mono fun _ _ ⟨a, b⟩ => ⟨a.trans (by rw [HV.out]), b⟩)) | fail)
  all_goals go_wp2_with fail
  all_goals go_ret <;> exact ⟨ah (by unfold cK fD; rw [HQ.out]; simp [kindOf, HV.out, HT.out, hi]), by first | exact hw1 | exact aC hw1 | exact bN hw1 _ | exact bN (bN hw1 _) _⟩
 go_quiet (first | (go_at_call 94; exact zT ((fF s j 1 _ (h1.drewN _)).mono fun _ _ ⟨a, b⟩ => ⟨a.trans (by rw [HV.out]), b⟩)) | fail)
 all_goals go_wp2_with fail
 all_goals go_ret <;> exact ⟨ah (by unfold cK fD; rw [HQ.out]; simp [kindOf, HV.out, HT.out, hi]), by first | exact hw1 | exact aC hw1 | exact bN hw1 _ | exact bN (bN hw1 _) _⟩
theorem La (s : dP) (n i sl sh : Int) (t : ByteArray) (w : World) {g off lo hi : Nat} (h : At w g off lo hi dP.ay s) (hq : wfB ⟨14, n, i, t, ⟨sl, sh⟩⟩ = true) :
 Calls Tryz.prog 97 #[.pointer (some ⟨g, off, none⟩), .agg #[.int .i64 14, .int .i64 n, .int .i64 i, .string t, .int .i64 sl, .int .i64 sh]] w fun e w' => e = .returned (.bool (cK s ⟨14, n, i, t, ⟨sl, sh⟩⟩)) ∧ Below w.heap.size w w' := by
 obtain ⟨a0, hwa⟩ := eZ w 56 #[.int .i64 14, .int .i64 n, .int .i64 i, .string t, .int .i64 sl, .int .i64 sh]
 have HQ := lH hq
 clear hq
 go_enter Tryz.func97, Tryz.ntmps97
 go_wp2_with fail
 refine (fG ⟨14, n, i, t, ⟨sl, sh⟩⟩ _ _ 0 0 aQ.mk_).mono ?_; rw [HQ.out]; rintro e w1 ⟨rfl, hb1⟩
 have hw1 := hwa.trans (hb1.mono hwa.size)
 have a1 := a0.later hb1
 have ca := a1.cell
 have la := a1.lt
 have h1 := h.below hw1
 clear hb1 a0 hwa h
 go_upto_region 35 with fail
 obtain ⟨An, nn, Ar, nr, Ao, no, Ag, ng, Au, nu, At', nt, Aa, na, hg, hle, hn, un, mn, hr, ur, mr, ho, uo, mo, hgl, ugl, mgl, hu, uu, mu, ht, ut, mt, ha, ua, ma, c0, c1, c2, c3, c4, c5, c6, c7, c8, c9, c10, c11, c12⟩ := dP.in_ h1
 unfold maxLen at mn mr mgl
 clear h1 hn hr ho hgl hu ht ha
 rcases dC (i < (s.aB.length : Int)) with ⟨hx, hd⟩ | ⟨hx, hd⟩
 ·go_quiet (fail)
  go_wp2_with fail
  go_ret
  exact ⟨ah (by unfold cK fD; rw [HQ.out]; simp [kindOf, hx]), by first | exact hw1 | exact bN hw1 _⟩
 go_quiet (fail)
 go_wp2_with fail
 go_ret
 exact ⟨ah (by unfold cK fD; rw [HQ.out]; simp [kindOf, hx]), by first | exact hw1 | exact bN hw1 _⟩
theorem Lb (s : dP) (n i sl sh : Int) (t : ByteArray) (w : World) {g off lo hi : Nat} (h : At w g off lo hi dP.ay s) (hq : wfB ⟨15, n, i, t, ⟨sl, sh⟩⟩ = true) :
 Calls Tryz.prog 97 #[.pointer (some ⟨g, off, none⟩), .agg #[.int .i64 15, .int .i64 n, .int .i64 i, .string t, .int .i64 sl, .int .i64 sh]] w fun e w' => e = .returned (.bool (cK s ⟨15, n, i, t, ⟨sl, sh⟩⟩)) ∧ Below w.heap.size w w' := by
 have hn0 : 0 ≤ n := by simp [wfB, iK] at hq; omega
 obtain ⟨a0, hwa⟩ := eZ w 56 #[.int .i64 15, .int .i64 n, .int .i64 i, .string t, .int .i64 sl, .int .i64 sh]
 have HQ := lH hq
 clear hq
 go_enter Tryz.func97, Tryz.ntmps97
 go_wp2_with fail
 refine (fG ⟨15, n, i, t, ⟨sl, sh⟩⟩ _ _ 0 0 aQ.mk_).mono ?_; rw [HQ.out]; rintro e w1 ⟨rfl, hb1⟩
 have hw1 := hwa.trans (hb1.mono hwa.size)
 have a1 := a0.later hb1
 have ca := a1.cell
 have la := a1.lt
 have h1 := h.below hw1
 clear hb1 a0 hwa h
 go_wp2_with fail
 refine (fF s n 2 _ h1).mono ?_; rintro e w2 ⟨rfl, rfl⟩
 go_wp2_with fail
 go_ret
 exact ⟨ah (by unfold cK fD; rw [HQ.out]; simp [kindOf]), hw1⟩
theorem Lc (s : dP) (n i sl sh : Int) (t : ByteArray) (w : World) {g off lo hi : Nat} (h : At w g off lo hi dP.ay s) (hq : wfB ⟨16, n, i, t, ⟨sl, sh⟩⟩ = true) :
 Calls Tryz.prog 97 #[.pointer (some ⟨g, off, none⟩), .agg #[.int .i64 16, .int .i64 n, .int .i64 i, .string t, .int .i64 sl, .int .i64 sh]] w fun e w' => e = .returned (.bool (cK s ⟨16, n, i, t, ⟨sl, sh⟩⟩)) ∧ Below w.heap.size w w' := by
 have hn0 : 0 ≤ n := by simp [wfB, iK] at hq; omega
 obtain ⟨a0, hwa⟩ := eZ w 56 #[.int .i64 16, .int .i64 n, .int .i64 i, .string t, .int .i64 sl, .int .i64 sh]
 have HQ := lH hq
 clear hq
 go_enter Tryz.func97, Tryz.ntmps97
 go_wp2_with fail
 refine (fG ⟨16, n, i, t, ⟨sl, sh⟩⟩ _ _ 0 0 aQ.mk_).mono ?_; rw [HQ.out]; rintro e w1 ⟨rfl, hb1⟩
 have hw1 := hwa.trans (hb1.mono hwa.size)
 have a1 := a0.later hb1
 have ca := a1.cell
 have la := a1.lt
 have h1 := h.below hw1
 clear hb1 a0 hwa h
 go_upto_region 27 with fail
 obtain ⟨An, nn, Ar, nr, Ao, no, Ag, ng, Au, nu, At', nt, Aa, na, hg, hle, hn, un, mn, hr, ur, mr, ho, uo, mo, hgl, ugl, mgl, hu, uu, mu, ht, ut, mt, ha, ua, ma, c0, c1, c2, c3, c4, c5, c6, c7, c8, c9, c10, c11, c12⟩ := dP.in_ h1
 unfold maxLen at mo
 obtain ⟨j, rfl⟩ : ∃ j : Nat, n = j := ⟨n.toNat, by omega⟩
 cases hb : kU s j 5
 case false =>
  have HV := lH hb
  clear hn hr ho hgl hu ht ha hb
  go_quiet (first | (go_at_call 94; exact zT ((fF s j 5 _ (h1.drewN _)).mono fun _ _ ⟨a, b⟩ => ⟨a.trans (by rw [HV.out]), b⟩)) | fail)
  all_goals go_wp2_with fail
  all_goals go_ret <;> exact ⟨ah (by unfold cK fD; rw [HQ.out]; simp [kindOf, HV.out]), by first | exact hw1 | exact aC hw1 | exact bN hw1 _ | exact bN (bN hw1 _) _⟩
 obtain ⟨j', ob, hj, hc, hk⟩ := Co hb
 obtain rfl : j = j' := by omega
 obtain ⟨g', off', Ai, ni, Ak, nk, rfl, hg1, hg2, hmem, hrep, q0, q1, q2, q3, q4⟩ := fV.at_ ho hc
 obtain ⟨X0, y0, X1, y1, hx0, l0, b0, d0, l1, b1, d1⟩ := fV.form hrep
 injection hx0 with hx0
 have hx0 := congrArg Array.toList hx0
 simp only [List.cons.injEq, Value.slice.injEq, and_true, true_and] at hx0
 obtain ⟨⟨rfl, rfl⟩, ⟨rfl, rfl⟩⟩ := hx0
 unfold maxLen at d0
 have HV := lH hb
 have hjl : j < s.aI.length := (List.getElem?_eq_some_iff.1 hc).1
 have HT := lH (wV hc)
 clear hn hr ho hgl hu ht ha hc hmem hrep l0 l1 hb
 rcases dC (i < (ob.aj.length : Int)) with ⟨hi, hd2⟩ | ⟨hi, hd2⟩
 ·go_quiet (first | (go_at_call 94; exact zT ((fF s j 5 _ (h1.drewN _)).mono fun _ _ ⟨a, b⟩ => ⟨a.trans (by rw [HV.out]), b⟩)) | fail)
  all_goals go_wp2_with fail
  all_goals go_ret <;> exact ⟨ah (by unfold cK fD; rw [HQ.out]; simp [kindOf, HV.out, HT.out, hi]), by first | exact hw1 | exact aC hw1 | exact bN hw1 _ | exact bN (bN hw1 _) _⟩
 go_quiet (first | (go_at_call 94; exact zT ((fF s j 5 _ (h1.drewN _)).mono fun _ _ ⟨a, b⟩ => ⟨a.trans (by rw [HV.out]), b⟩)) | fail)
 all_goals go_wp2_with fail
 all_goals go_ret <;> exact ⟨ah (by unfold cK fD; rw [HQ.out]; simp [kindOf, HV.out, HT.out, hi]), by first | exact hw1 | exact aC hw1 | exact bN hw1 _ | exact bN (bN hw1 _) _⟩
theorem Ld (s : dP) (n i sl sh : Int) (t : ByteArray) (w : World) {g off lo hi : Nat} (h : At w g off lo hi dP.ay s) (hq : wfB ⟨17, n, i, t, ⟨sl, sh⟩⟩ = true) :
 Calls Tryz.prog 97 #[.pointer (some ⟨g, off, none⟩), .agg #[.int .i64 17, .int .i64 n, .int .i64 i, .string t, .int .i64 sl, .int .i64 sh]] w fun e w' => e = .returned (.bool (cK s ⟨17, n, i, t, ⟨sl, sh⟩⟩)) ∧ Below w.heap.size w w' := by
 have hn0 : 0 ≤ n := by simp [wfB, iK] at hq; omega
 obtain ⟨a0, hwa⟩ := eZ w 56 #[.int .i64 17, .int .i64 n, .int .i64 i, .string t, .int .i64 sl, .int .i64 sh]
 have HQ := lH hq
 clear hq
 go_enter Tryz.func97, Tryz.ntmps97
 go_wp2_with fail
 refine (fG ⟨17, n, i, t, ⟨sl, sh⟩⟩ _ _ 0 0 aQ.mk_).mono ?_; rw [HQ.out]; rintro e w1 ⟨rfl, hb1⟩
 have hw1 := hwa.trans (hb1.mono hwa.size)
 have a1 := a0.later hb1
 have ca := a1.cell
 have la := a1.lt
 have h1 := h.below hw1
 clear hb1 a0 hwa h
 go_wp2_with fail
 refine (fF s n 8 _ h1).mono ?_; rintro e w2 ⟨rfl, rfl⟩
 go_wp2_with fail
 go_ret
 exact ⟨ah (by unfold cK fD; rw [HQ.out]; simp [kindOf]), hw1⟩
theorem Le (s : dP) (n i sl sh : Int) (t : ByteArray) (w : World) {g off lo hi : Nat} (h : At w g off lo hi dP.ay s) (hq : wfB ⟨18, n, i, t, ⟨sl, sh⟩⟩ = true) :
 Calls Tryz.prog 97 #[.pointer (some ⟨g, off, none⟩), .agg #[.int .i64 18, .int .i64 n, .int .i64 i, .string t, .int .i64 sl, .int .i64 sh]] w fun e w' => e = .returned (.bool (cK s ⟨18, n, i, t, ⟨sl, sh⟩⟩)) ∧ Below w.heap.size w w' := by
 obtain ⟨a0, hwa⟩ := eZ w 56 #[.int .i64 18, .int .i64 n, .int .i64 i, .string t, .int .i64 sl, .int .i64 sh]
 have HQ := lH hq
 clear hq
 go_enter Tryz.func97, Tryz.ntmps97
 go_wp2_with fail
 refine (fG ⟨18, n, i, t, ⟨sl, sh⟩⟩ _ _ 0 0 aQ.mk_).mono ?_; rw [HQ.out]; rintro e w1 ⟨rfl, hb1⟩
 have hw1 := hwa.trans (hb1.mono hwa.size)
 have a1 := a0.later hb1
 have ca := a1.cell
 have la := a1.lt
 have h1 := h.below hw1
 clear hb1 a0 hwa h
 go_wp2_with fail
 go_ret
 exact ⟨ah (by unfold cK fD; rw [HQ.out]; simp [kindOf]), hw1⟩
theorem Lf (s : dP) (n i sl sh : Int) (t : ByteArray) (w : World) {g off lo hi : Nat} (h : At w g off lo hi dP.ay s) (hq : wfB ⟨19, n, i, t, ⟨sl, sh⟩⟩ = true) :
 Calls Tryz.prog 97 #[.pointer (some ⟨g, off, none⟩), .agg #[.int .i64 19, .int .i64 n, .int .i64 i, .string t, .int .i64 sl, .int .i64 sh]] w fun e w' => e = .returned (.bool (cK s ⟨19, n, i, t, ⟨sl, sh⟩⟩)) ∧ Below w.heap.size w w' := by
 have hn0 : 0 ≤ n := by simp [wfB, iK] at hq; omega
 obtain ⟨a0, hwa⟩ := eZ w 56 #[.int .i64 19, .int .i64 n, .int .i64 i, .string t, .int .i64 sl, .int .i64 sh]
 have HQ := lH hq
 clear hq
 go_enter Tryz.func97, Tryz.ntmps97
 go_wp2_with fail
 refine (fG ⟨19, n, i, t, ⟨sl, sh⟩⟩ _ _ 0 0 aQ.mk_).mono ?_; rw [HQ.out]; rintro e w1 ⟨rfl, hb1⟩
 have hw1 := hwa.trans (hb1.mono hwa.size)
 have a1 := a0.later hb1
 have ca := a1.cell
 have la := a1.lt
 have h1 := h.below hw1
 clear hb1 a0 hwa h
 go_wp2_with fail
 refine (fF s n 1 _ h1).mono ?_; rintro e w2 ⟨rfl, rfl⟩
 go_wp2_with fail
 go_ret
 exact ⟨ah (by unfold cK fD; rw [HQ.out]; simp [kindOf]), hw1⟩
theorem Lg (s : dP) (n i sl sh : Int) (t : ByteArray) (w : World) {g off lo hi : Nat} (h : At w g off lo hi dP.ay s) (hq : wfB ⟨20, n, i, t, ⟨sl, sh⟩⟩ = true) :
 Calls Tryz.prog 97 #[.pointer (some ⟨g, off, none⟩), .agg #[.int .i64 20, .int .i64 n, .int .i64 i, .string t, .int .i64 sl, .int .i64 sh]] w fun e w' => e = .returned (.bool (cK s ⟨20, n, i, t, ⟨sl, sh⟩⟩)) ∧ Below w.heap.size w w' := by
 have hn0 : 0 ≤ n := by simp [wfB, iK] at hq; omega
 obtain ⟨a0, hwa⟩ := eZ w 56 #[.int .i64 20, .int .i64 n, .int .i64 i, .string t, .int .i64 sl, .int .i64 sh]
 have HQ := lH hq
 clear hq
 go_enter Tryz.func97, Tryz.ntmps97
 go_wp2_with fail
 refine (fG ⟨20, n, i, t, ⟨sl, sh⟩⟩ _ _ 0 0 aQ.mk_).mono ?_; rw [HQ.out]; rintro e w1 ⟨rfl, hb1⟩
 have hw1 := hwa.trans (hb1.mono hwa.size)
 have a1 := a0.later hb1
 have ca := a1.cell
 have la := a1.lt
 have h1 := h.below hw1
 clear hb1 a0 hwa h
 go_wp2_with fail
 refine (fF s n 9 _ h1).mono ?_; rintro e w2 ⟨rfl, rfl⟩
 go_wp2_with fail
 go_ret
 exact ⟨ah (by unfold cK fD; rw [HQ.out]; simp [kindOf]), hw1⟩
theorem mX (s : dP) (c : aQ) (x : Value) (w : World) {g off lo hi lo' hi' : Nat} (h : At w g off lo hi dP.ay s) (hx : fA w lo' hi' aQ.ay x c) :
 Calls Tryz.prog 97 #[.pointer (some ⟨g, off, none⟩), x] w fun e w' => e = .returned (.bool (cK s c)) ∧ Below w.heap.size w w' := by
 obtain rfl := aQ.form hx
 obtain ⟨k, n, i, t, ⟨sl, sh⟩⟩ := c
 cases hq : wfB ⟨k, n, i, t, ⟨sl, sh⟩⟩ with
 | false => exact K5 k s n i sl sh t w h hq
 | true =>
   have hr : 0 ≤ k ∧ k ≤ 20 := by simp [wfB] at hq; omega
   by_cases k0 : k = 0
   ·subst k0; exact Nk s n i sl sh t w h hq
   by_cases k1 : k = 1
   ·subst k1; exact Nl s n i sl sh t w h hq
   by_cases k2 : k = 2
   ·subst k2; exact Nn s n i sl sh t w h hq
   by_cases k3 : k = 3
   ·subst k3; exact Np s n i sl sh t w h hq
   by_cases k4 : k = 4
   ·subst k4; exact Nq s n i sl sh t w h hq
   by_cases k5 : k = 5
   ·subst k5; exact Nr s n i sl sh t w h hq
   by_cases k6 : k = 6
   ·subst k6; exact Ns s n i sl sh t w h hq
   by_cases k7 : k = 7
   ·subst k7; exact Nt s n i sl sh t w h hq
   by_cases k8 : k = 8
   ·subst k8; exact Nu s n i sl sh t w h hq
   by_cases k9 : k = 9
   ·subst k9; exact Nv s n i sl sh t w h hq
   by_cases k10 : k = 10
   ·subst k10; exact K6 s n i sl sh t w h hq
   by_cases k11 : k = 11
   ·subst k11; exact K7 s n i sl sh t w h hq
   by_cases k12 : k = 12
   ·subst k12; exact K8 s n i sl sh t w h hq
   by_cases k13 : k = 13
   ·subst k13; exact K9 s n i sl sh t w h hq
   by_cases k14 : k = 14
   ·subst k14; exact La s n i sl sh t w h hq
   by_cases k15 : k = 15
   ·subst k15; exact Lb s n i sl sh t w h hq
   by_cases k16 : k = 16
   ·subst k16; exact Lc s n i sl sh t w h hq
   by_cases k17 : k = 17
   ·subst k17; exact Ld s n i sl sh t w h hq
   by_cases k18 : k = 18
   ·subst k18; exact Le s n i sl sh t w h hq
   by_cases k19 : k = 19
   ·subst k19; exact Lf s n i sl sh t w h hq
   obtain rfl : k = 20 := by omega
   exact Lg s n i sl sh t w h hq
end Go.Proofs.YtoddlphekcihgaaGreatDoor
