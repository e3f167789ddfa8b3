/- When a tree is valid: the plain law of RU and of Qq. YT, XI of the program. rJ of the reference. -/
import Derived.Test.YthbcamfejgghhaaGreatDoorQ07
import Derived.Test.YthbcamfejgghhaaGreatDoorQ16
import Derived.Test.YthbcamfejgghhaaGreatDoorQ18
import Derived.Test.YthbcamfejgghhaaGreatDoorQ26
import Derived.Test.YthbcamfejgghhaaGreatDoorQ27
set_option maxRecDepth 100000
set_option maxHeartbeats 8000000
set_option linter.unusedVariables false
set_option linter.unusedSimpArgs false
namespace Go.Proofs.YthbcamfejgghhaaGreatDoor
open Go.IntKind (i64)
open Go.RowKit
def Au : ak := .mk 0 0 0 0 ByteArray.empty []
def iT (c : ak) : Bool := decide (1 ≤ c.kind) && decide (c.kind ≤ 28) && decide (0 ≤ c.line) && decide (dw c.kind c.op ≤ c.kids.length) && decide ((c.kids.length : Int) ≤ dx c.kind c.op) && (decide (c.kind = 11) || decide (c.op = 0))
def j4 (c : ak) : Bool := if c.kind = 2 then decide (c.text.size ≤ 120) else if c.kind = 3 then kQ c.text else decide (c.text.size = 0)
def gF (c : ak) (loop create : Bool) : Bool := !(decide (c.kind = 20 ∨ c.kind = 21) && !loop) && !(decide (23 ≤ c.kind ∧ c.kind ≤ 25) && create)
noncomputable def bL (c : ak) : Bool := !(decide (c.op = 79) && !(decide ((c.kids.getD 1 Au).kind = 2) && bJ (c.kids.getD 1 Au).text)) && !(decide (c.op = 81) && !decide ((c.kids.getD 0 Au).kind = 5 ∨ (c.kids.getD 0 Au).kind = 6))
noncomputable def iI (d : WdT) (c : ak) (loop create : Bool) : Bool := iT c && fD d c.kind c.number && j4 c && gF c loop create && bL c
def fH (k : Int) (i : Nat) (loop : Bool) : Bool := if k = 18 ∨ k = 19 then decide (i = 1) else if k = 20 ∨ k = 26 then false else loop
mutual
noncomputable def dW (d : WdT) : ak → Bool → Bool → Bool
 | .mk k o n l t kids, loop, create => iI d (.mk k o n l t kids) loop create && DR d k 0 kids loop (create || decide (k = 26))
noncomputable def DR (d : WdT) (k : Int) : Nat → List ak → Bool → Bool → Bool
 | _, [], _, _ => true
 | i, c :: cs, loop, create => dW d c (fH k i loop) create && DR d k (i + 1) cs loop create
end
theorem DT (d : WdT) (k : Int) (loop create : Bool) : ∀ (l : List ak) (i : Nat), DR d k i l loop create = true ↔ ∀ j c, l[j]? = some c → dW d c (fH k (i + j) loop) create = true
 | [], i => by simp [DR]
 | c :: l, i => by
   rw [DR, Bool.and_eq_true, DT d k loop create l (i + 1)]
   constructor
   ·rintro ⟨h1, h2⟩ j x hj
    cases j with
    | zero => simp at hj; subst hj; exact h1
    | succ j => have := h2 j x (by simpa using hj); rw [show i + (j + 1) = i + 1 + j by omega]; exact this
   intro h
   exact ⟨h 0 c rfl, fun j x hj => by have := h (j + 1) x (by simpa using hj); rw [show i + (j + 1) = i + 1 + j by omega] at this; exact this⟩
theorem fV (d : WdT) (c : ak) (loop create : Bool) : dW d c loop create = true ↔ iI d c loop create = true ∧ ∀ j x, c.kids[j]? = some x → dW d x (fH c.kind j loop) (create || decide (c.kind = 26)) = true := by
 cases c with
 | mk k o n l t kids =>
   rw [dW, Bool.and_eq_true, DT]
   simp only [Nat.zero_add, ak.kids, ak.kind]
   exact Iff.rfl
theorem qE {d : WdT} {c : ak} {loop create : Bool} (h : iI d c loop create = false) : dW d c loop create = false := by
 rw [Bool.eq_false_iff]; intro hv; rw [((fV d c loop create).1 hv).1] at h; cases h
theorem DU {d : WdT} {c x : ak} {loop create : Bool} {j : Nat} (hj : c.kids[j]? = some x) (h : dW d x (fH c.kind j loop) (create || decide (c.kind = 26)) = false) : dW d c loop create = false := by
 rw [Bool.eq_false_iff]; intro hv; rw [((fV d c loop create).1 hv).2 j x hj] at h; cases h
theorem Qr {s : ByteArray} (h : kQ s = true) : ∀ j, j < s.size → j ≤ cZ s j ∧ cZ s j ≤ 127 := by
 have hr : ∀ j, j < s.size → kC s j = true := fun j hj => List.all_eq_true.1 h j (List.mem_range.2 hj)
 intro j
 induction j with
 | zero => intro hj; have := hr 0 hj; simp [kC] at this; exact ⟨nZ _, this⟩
 | succ j ih =>
   intro hj
   have h1 := ih ah
   have := hr (j + 1) hj
   simp [kC] at this
   exact ⟨ah, this.1⟩
theorem uU {s : ByteArray} (h : kQ s = true) : s.size ≤ 128 := by
 by_cases h0 : s.size = 0
 ·omega
 have := Qr h (s.size - 1) ah; omega
theorem tV (s : ByteArray) (w : World) (hs : s.size ≤ 1048576) :
 Calls Tryz.prog 147 #[.string s] w (Db (bH s) (jl s) w) := by
 go_in
 go_wp2_with fail
 go_loopw [5] (fun i wr => ∃ k : Nat, k ≤ s.size ∧ i = .int i64 k ∧ Hid (∀ j, j < k → cZ s j ≤ 127) ∧ Blk wr w.heap.size 110 (aL 0 0) ∧ Blk wr (w.heap.size + 1) 110 (aL ((mE s k).lo.toInt) ((mE s k).hi.toInt)) ∧ Below w.heap.size w wr) (fun i _ => s.size - (intOf i).toNat)
 case atStart => exact ⟨0, nZ _, rfl, (fun j hj => by omega), (Blk.new w _ _).alloc _, Blk.newAt _ _ _ _ av, (bA _ _).alloc av _⟩
 obtain ⟨k, hk, rfl, hgo, hr, hc, hb⟩ := hrel
 obtain ⟨wo, rfl⟩ := nW wr
 have hz := hb.size
 by_cases hlt : k < s.size
 ·have HK := lH (jh s k hlt)
  by_cases h7 : 127 < s[k].toNat
  ·have HN := lH (KF hlt (by rw [HK.out]; exact h7))
   have cr := hr.cell
   have fr := hr.frozen
   go_wp2_with fail
   refine bodyPost_ret (v := .tuple #[.agg (aL 0 0), .bool false]) ?_ rfl ⟨?_, ?_⟩
   ·simp [results, Tryz.results147, go_sem, cr]
   ·rw [xD HN.out, HN.out]; rfl
   exact Jk
  have hb7 : s[k].toNat ≤ 127 := ah
  have HG : Hid (∀ j, j < k + 1 → cZ s j ≤ 127) := by
   exact JD
  have HS := lH (uJ s k)
  have cc := hc.cell
  have e0 : (0 : Int) ≤ (k : Int) := ah
  have e8 : (k : Int) < (s.size : Int) := ah
  clear hgo
  go_wp2_with fail
  go_region_with (first
   | (go_at_call 182; refine (EC (mE s k) s[k].toNat _ hb7).mono ?_; rintro e w1 ⟨rfl, hb1⟩; unfold cB.val; have cc1 := (hc.drew.later hb1).cell; have fc1 := (hc.drew.later hb1).frozen))
  all_goals
   have hr1 := hr.drew.later hb1
   have hc1 := hc.drew.later hb1
   have hb2 : Below w.heap.size w w1 := hb.drew.trans (hb1.mono hz)
   clear cc cc1 fc1
   go_wp2_with fail
   go_roundw
   case rel =>
    exact Og
   simp [intOf]; omega
 obtain rfl : k = s.size := by omega
 have HY := lH (FE hgo.out)
 have cc := hc.cell
 have cr := hr.cell
 have fr := hr.frozen
 clear hgo
 go_wp2_with fail
 refine bodyPost_ret (v := .tuple #[(mE s s.size).val, .bool true]) ?_ rfl ⟨?_, ?_⟩
 ·simp [results, Tryz.results147, go_sem, cr, cB.val]
 ·rw [uK HY.out, HY.out]
 exact (hb.setCell (p := ⟨w.heap.size, 0, none⟩) (nR _) _).setCell (p := ⟨w.heap.size, 1, none⟩) (nR _) _
theorem xk (c : cB) (w : World) :
 Calls Tryz.prog 149 #[c.val] w fun e w' => e = .returned (.string (dN c)) ∧ Below w.heap.size w w' := by
 have hcv := fun (W : World) (g cap n : Nat) (xs : List Int) (hl : xs.length = n) (hc : ∀ i, i < n → W.cell? (aj g (0 + i)) = some (.int .u8 (xs.getD i 0))) => run_convert_bytes_arg (P := Tryz.prog) W 22 5 Tryz.underlying22 Tryz.underlying5 g 0 n cap xs hl hc 9 Tryz.underlying9
 have HCV := lH hcv
 clear hcv
 unfold cB.val
 go_in
 go_wp2_with fail
 go_loopw [3, 4] (fun v i wr => ∃ k : Nat, k ≤ 128 ∧ i = .int i64 k ∧ wr.ownsRow w.heap.size 5 1 v (eP c k).length ((eP c k).map fun (j : Nat) => Value.int .u8 (j : Int)) ∧ Q9 v (eP c k).length ∧ Blk wr w.heap.size 110 (aL c.lo.toInt c.hi.toInt) ∧ v.ownBlock ≠ some w.heap.size ∧ Below w.heap.size w wr) (fun _ i _ => 128 - (intOf i).toNat)
 case atStart =>
  exact Ob
 obtain ⟨k, hk, rfl, hown, hsl, ha, hne, hb⟩ := hrel
 obtain ⟨wo, rfl⟩ := nW wr
 obtain ⟨v, hv⟩ : ∃ v, v = u3 := ⟨_, rfl⟩
 subst hv
 have hz := hb.size
 have hln := pW c k
 by_cases hlt : k < 128
 ·have ca := ha.cell
  have HC := lH (fun w => Hl c k w ah)
  exact NN
 obtain rfl : k = 128 := by omega
 obtain ⟨g, cap, rfl⟩ := hsl
 have hcv := HCV.out wo g cap (eP c 128).length ((eP c 128).map fun (j : Nat) => (j : Int)) av (fun i hi => by
  have := hown.cellAt i ah
  rw [Nat.zero_add, this, List.getElem?_map, gE hi, List.getD, List.getElem?_map, gE hi]
  rfl)
 clear hown HCV
 go_wp2_with fail
 go_ret
 exact ⟨rfl, hb⟩
theorem xq {a b c d : Int} (h1 : a = c) (h2 : b = d) : Ending.returned (.tuple (aL a b)) = .returned (.tuple (aL c d)) := by rw [h1, h2]
theorem xP (op : Int) (w : World) : Calls Tryz.prog 106 (dI op) w fun e w' => e = .returned (.tuple (aL (dH op) (dM op))) ∧ Below w.heap.size w w' := by
 cases hok : sU op with
 | false =>
   have HL : Hid (dH op = 0) := by show _ = _; simp [dH, hok]
   have HH : Hid (dM op = -1) := by show _ = _; simp [dM, hok]
   have HT := lH (ru op w)
   have HK := lH hok
   clear hok
   go_in
   go_wp2_with fail
   refine HT.out.mono ?_; rintro e w1 ⟨t, rfl, h0, hs, hb⟩
   rw [HK.out] at h0
   have h1 : t.toList = [] := by simpa using h0
   go_wp2_with fail
   go_ret2
   exact ⟨xq HL.out.symm HH.out.symm, hb⟩
 | true =>
   have HT := lH (ru op w)
   have HK := lH hok
   by_cases h11 : op ≤ 11
   have HL : Hid (dH op = 1) := by show _ = _; unfold dH; rw [if_neg gG]; rw [if_pos ah]
   have HH : Hid (dM op = 1) := by show _ = _; unfold dM; rw [if_neg gG]; rw [if_pos ah]
   clear hok
   rotate_left
   by_cases h81 : op = 81
   have HL : Hid (dH op = 1) := by show _ = _; unfold dH; rw [if_neg gG]; rw [if_pos ah]
   have HH : Hid (dM op = 1) := by show _ = _; unfold dM; rw [if_neg gG]; rw [if_pos ah]
   have b81 : (op == 81) = true := beq_iff_eq.2 ah
   clear hok h81
   rotate_left
   by_cases h71 : op = 71
   have HL : Hid (dH op = 3) := by show _ = _; unfold dH; rw [if_neg gG]; rw [if_neg ah]; rw [if_pos ah]
   have HH : Hid (dM op = 3) := by show _ = _; unfold dM; rw [if_neg gG]; rw [if_neg ah]; rw [if_pos ah]
   have b81 : (op == 81) = false := bF ah
   have b71 : (op == 71) = true := beq_iff_eq.2 ah
   clear hok h71
   rotate_left
   by_cases h72 : op = 72
   have HL : Hid (dH op = 3) := by show _ = _; unfold dH; rw [if_neg gG]; rw [if_neg ah]; rw [if_pos ah]
   have HH : Hid (dM op = 3) := by show _ = _; unfold dM; rw [if_neg gG]; rw [if_neg ah]; rw [if_pos ah]
   have b81 : (op == 81) = false := bF ah
   have b71 : (op == 71) = false := bF ah
   have b72 : (op == 72) = true := beq_iff_eq.2 ah
   clear hok h72
   rotate_left
   by_cases h73 : op = 73
   have HL : Hid (dH op = 2) := by show _ = _; unfold dH; rw [if_neg gG]; rw [if_neg ah]; rw [if_neg ah]; rw [if_pos ah]
   have HH : Hid (dM op = 8) := by show _ = _; unfold dM; rw [if_neg gG]; rw [if_neg ah]; rw [if_neg ah]; rw [if_pos ah]
   have b81 : (op == 81) = false := bF ah
   have b71 : (op == 71) = false := bF ah
   have b72 : (op == 72) = false := bF ah
   have b73 : (op == 73) = true := beq_iff_eq.2 ah
   clear hok h73
   rotate_left
   by_cases h74 : op = 74
   have HL : Hid (dH op = 0) := by show _ = _; unfold dH; rw [if_neg gG]; rw [if_neg ah]; rw [if_neg ah]; rw [if_neg ah]; rw [if_pos ah]
   have HH : Hid (dM op = 8) := by show _ = _; unfold dM; rw [if_neg gG]; rw [if_neg ah]; rw [if_neg ah]; rw [if_neg ah]; rw [if_pos ah]
   have b81 : (op == 81) = false := bF ah
   have b71 : (op == 71) = false := bF ah
   have b72 : (op == 72) = false := bF ah
   have b73 : (op == 73) = false := bF ah
   have b74 : (op == 74) = true := beq_iff_eq.2 ah
   clear hok h74
   rotate_left
   have HL : Hid (dH op = 2) := by show _ = _; unfold dH; rw [if_neg gG]; rw [if_neg ah]; rw [if_neg ah]; rw [if_neg ah]; rw [if_neg ah]
   have HH : Hid (dM op = 2) := by show _ = _; unfold dM; rw [if_neg gG]; rw [if_neg ah]; rw [if_neg ah]; rw [if_neg ah]; rw [if_neg ah]
   have b81 : (op == 81) = false := bF ah
   have b71 : (op == 71) = false := bF ah
   have b72 : (op == 72) = false := bF ah
   have b73 : (op == 73) = false := bF ah
   have b74 : (op == 74) = false := bF ah
   clear hok
   iterate 7 focus
    go_in
    go_wp2_with fail
    refine HT.out.mono ?_; rintro e w1 ⟨t, rfl, h0, hs, hb⟩
    rw [HK.out] at h0
    simp only [Bool.not_true] at h0
    have h1 : ¬ t.toList = [] := by intro h; rw [h] at h0; cases h0
    go_wp2_with fail
    go_ret2
    exact ⟨xq HL.out.symm HH.out.symm, hb⟩
end Go.Proofs.YthbcamfejgghhaaGreatDoor
