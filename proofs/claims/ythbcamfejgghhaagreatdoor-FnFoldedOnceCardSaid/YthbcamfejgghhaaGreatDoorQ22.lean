/- A row of trees laid at once, as a step of the walk. The text of a drawn program: of bounded length. -/
import Derived.Test.YthbcamfejgghhaaGreatDoorQ21
set_option maxRecDepth 100000
set_option maxHeartbeats 8000000
set_option linter.unusedVariables false
set_option linter.unusedSimpArgs false
namespace Go.Proofs.YthbcamfejgghhaaGreatDoor
open Go.IntKind (i64)
section
open Go Go.RowKit
theorem ad2 (a0 a1 a2 a3 a4 a5 : Value) (w : World) : (Instr.buildSlice 41 1 #[(0, .agg #[a0, a1, a2, a3, a4, a5])]).run Tryz.prog w = .ok (.slice (some (aj w.heap.size 0)) 1 1) (w.alloc (.cells #[a0, a1, a2, a3, a4, a5] 43)) := by
 simp [Instr.buildSlice, Instr.fill, go_sem]
theorem ad3 (a0 a1 a2 a3 a4 a5 b0 b1 b2 b3 b4 b5 : Value) (w : World) : (Instr.buildSlice 41 2 #[(0, .agg #[a0, a1, a2, a3, a4, a5]), (1, .agg #[b0, b1, b2, b3, b4, b5])]).run Tryz.prog w = .ok (.slice (some (aj w.heap.size 0)) 2 2) (w.alloc (.cells #[a0, a1, a2, a3, a4, a5, b0, b1, b2, b3, b4, b5] 43)) := by
 simp [Instr.buildSlice, Instr.fill, go_sem]
theorem ad4 (a0 a1 a2 a3 a4 a5 b0 b1 b2 b3 b4 b5 c0 c1 c2 c3 c4 c5 : Value) (w : World) : (Instr.buildSlice 41 3 #[(0, .agg #[a0, a1, a2, a3, a4, a5]), (1, .agg #[b0, b1, b2, b3, b4, b5]), (2, .agg #[c0, c1, c2, c3, c4, c5])]).run Tryz.prog w = .ok (.slice (some (aj w.heap.size 0)) 3 3) (w.alloc (.cells #[a0, a1, a2, a3, a4, a5, b0, b1, b2, b3, b4, b5, c0, c1, c2, c3, c4, c5] 43)) := by
 simp [Instr.buildSlice, Instr.fill, go_sem]
section
variable {K : Act → World → Prop} {ops : Array Oper} {Q : Exit → Act → World → Prop} {rest : List Oper} {d : Option Tmp} {ty : TypeId} {pos : String} {af : Array Edge} {a a' : Act} {w : World} {x y z : Operand} {a0 a1 a2 a3 a4 a5 b0 b1 b2 b3 b4 b5 c0 c1 c2 c3 c4 c5 : Value}
theorem qc (hx : a.eval x = .agg #[a0, a1, a2, a3, a4, a5])
 (h : K a' (w.alloc (.cells #[a0, a1, a2, a3, a4, a5] 43)))
 (ha : a.put d (.slice (some (aj w.heap.size 0)) 1 1) = a' := by (try simp only [Act.put, List.setIfInBounds_toArray, List.set_cons_zero, List.set_cons_succ]) <;> rfl) :
 Oper.wp Tryz.prog ⟨d, .buildSlice 41 1 #[(0, x)], ty, pos, af, none⟩ a w K Q := by
 subst ha
 have e : Sem.run Tryz.prog (execOp a.eval ⟨d, .buildSlice 41 1 #[(0, x)], ty, pos, af, none⟩) w = .ok (Next.value (.slice (some (aj w.heap.size 0)) 1 1)) (w.alloc (.cells #[a0, a1, a2, a3, a4, a5] 43)) := by
  simp only [execOp, List.map_toArray, List.map_cons, List.map_nil, hx]
  rw [Sem.run_bind, ad2]
  simp [go_sem]
 unfold Oper.wp
 rw [e]
 exact h
theorem q9 (hx : a.eval x = .agg #[a0, a1, a2, a3, a4, a5])
 (h : wpList Tryz.prog ops Q rest a' (w.alloc (.cells #[a0, a1, a2, a3, a4, a5] 43)))
 (ha : a.put d (.slice (some (aj w.heap.size 0)) 1 1) = a' := by (try simp only [Act.put, List.setIfInBounds_toArray, List.set_cons_zero, List.set_cons_succ]) <;> rfl) :
 wpList Tryz.prog ops Q (⟨d, .buildSlice 41 1 #[(0, x)], ty, pos, af, none⟩ :: rest) a w := by
 subst ha
 refine wpList_plain rfl fun K hK => ?_
 exact qc hx (hK _ _ h)
theorem rP (hx : a.eval x = .agg #[a0, a1, a2, a3, a4, a5]) (hy : a.eval y = .agg #[b0, b1, b2, b3, b4, b5])
 (h : K a' (w.alloc (.cells #[a0, a1, a2, a3, a4, a5, b0, b1, b2, b3, b4, b5] 43)))
 (ha : a.put d (.slice (some (aj w.heap.size 0)) 2 2) = a' := by (try simp only [Act.put, List.setIfInBounds_toArray, List.set_cons_zero, List.set_cons_succ]) <;> rfl) :
 Oper.wp Tryz.prog ⟨d, .buildSlice 41 2 #[(0, x), (1, y)], ty, pos, af, none⟩ a w K Q := by
 subst ha
 have e : Sem.run Tryz.prog (execOp a.eval ⟨d, .buildSlice 41 2 #[(0, x), (1, y)], ty, pos, af, none⟩) w = .ok (Next.value (.slice (some (aj w.heap.size 0)) 2 2)) (w.alloc (.cells #[a0, a1, a2, a3, a4, a5, b0, b1, b2, b3, b4, b5] 43)) := by
  simp only [execOp, List.map_toArray, List.map_cons, List.map_nil, hx, hy]
  rw [Sem.run_bind, ad3]
  simp [go_sem]
 unfold Oper.wp
 rw [e]
 exact h
theorem pF (hx : a.eval x = .agg #[a0, a1, a2, a3, a4, a5]) (hy : a.eval y = .agg #[b0, b1, b2, b3, b4, b5])
 (h : wpList Tryz.prog ops Q rest a' (w.alloc (.cells #[a0, a1, a2, a3, a4, a5, b0, b1, b2, b3, b4, b5] 43)))
 (ha : a.put d (.slice (some (aj w.heap.size 0)) 2 2) = a' := by (try simp only [Act.put, List.setIfInBounds_toArray, List.set_cons_zero, List.set_cons_succ]) <;> rfl) :
 wpList Tryz.prog ops Q (⟨d, .buildSlice 41 2 #[(0, x), (1, y)], ty, pos, af, none⟩ :: rest) a w := by
 subst ha
 refine wpList_plain rfl fun K hK => ?_
 exact rP hx hy (hK _ _ h)
theorem FP (hx : a.eval x = .agg #[a0, a1, a2, a3, a4, a5]) (hy : a.eval y = .agg #[b0, b1, b2, b3, b4, b5]) (hz : a.eval z = .agg #[c0, c1, c2, c3, c4, c5])
 (h : K a' (w.alloc (.cells #[a0, a1, a2, a3, a4, a5, b0, b1, b2, b3, b4, b5, c0, c1, c2, c3, c4, c5] 43)))
 (ha : a.put d (.slice (some (aj w.heap.size 0)) 3 3) = a' := by (try simp only [Act.put, List.setIfInBounds_toArray, List.set_cons_zero, List.set_cons_succ]) <;> rfl) :
 Oper.wp Tryz.prog ⟨d, .buildSlice 41 3 #[(0, x), (1, y), (2, z)], ty, pos, af, none⟩ a w K Q := by
 subst ha
 have e : Sem.run Tryz.prog (execOp a.eval ⟨d, .buildSlice 41 3 #[(0, x), (1, y), (2, z)], ty, pos, af, none⟩) w = .ok (Next.value (.slice (some (aj w.heap.size 0)) 3 3)) (w.alloc (.cells #[a0, a1, a2, a3, a4, a5, b0, b1, b2, b3, b4, b5, c0, c1, c2, c3, c4, c5] 43)) := by
  simp only [execOp, List.map_toArray, List.map_cons, List.map_nil, hx, hy, hz]
  rw [Sem.run_bind, ad4]
  simp [go_sem]
 unfold Oper.wp
 rw [e]
 exact h
theorem uT (hx : a.eval x = .agg #[a0, a1, a2, a3, a4, a5]) (hy : a.eval y = .agg #[b0, b1, b2, b3, b4, b5]) (hz : a.eval z = .agg #[c0, c1, c2, c3, c4, c5])
 (h : wpList Tryz.prog ops Q rest a' (w.alloc (.cells #[a0, a1, a2, a3, a4, a5, b0, b1, b2, b3, b4, b5, c0, c1, c2, c3, c4, c5] 43)))
 (ha : a.put d (.slice (some (aj w.heap.size 0)) 3 3) = a' := by (try simp only [Act.put, List.setIfInBounds_toArray, List.set_cons_zero, List.set_cons_succ]) <;> rfl) :
 wpList Tryz.prog ops Q (⟨d, .buildSlice 41 3 #[(0, x), (1, y), (2, z)], ty, pos, af, none⟩ :: rest) a w := by
 subst ha
 refine wpList_plain rfl fun K hK => ?_
 exact FP hx hy hz (hK _ _ h)
end
end
section
open Go Go.RowKit
def Qo : Nat → Nat
 | 0 => 10000
 | k + 1 => 6 * Qo k + 10012
theorem Pm : ∀ (k : Nat) (d : Int), k ≤ 3 → d ≤ k → -50 ≤ d → Txb 125 d (Qo k)
 | 0, d, _, h, h1 => FO d h
 | k + 1, d, hk, h, h1 => by
   have hb : Qo k ≤ 500000 := by
    rcases k with _ | _ | _ | k
    ·decide
    ·decide
    ·decide
    omega
   by_cases h0 : d ≤ 0
   ·exact (FO d h0).mono (by rw [Qo]; omega)
   have ih := Pm k (d - 1) ah ah ah
   exact (RO d (2 * Qo k + 4) ah ah ah (ih.mono ah) (RN _ _ ah ih)).mono (by rw [Qo]; omega)
theorem VD (d : Int) (h : d ≤ 3) (h1 : -50 ≤ d) : Txb 125 d 2590516 := Pm 3 d (nR _) h h1
theorem z8 {c : Nat} {w0 w : World} (hA : At_ c w0 w) : Calls Tryz.prog 123 #[.pointer (some (aj c 0))] w (Got c w0 (P6 3200)) := by
 go_in
 go_wp2_with (first | (go_at_call 127; refine (jV (k := 24) aU aM aI).mono ?_; rintro e w1 ⟨_, rfl, hA, s, rfl, hs⟩) | (go_at_call 126; refine ((Bz _ ah ah).int _ _ _ aU).mono ?_; rintro e w1 ⟨_, rfl, hA, s, rfl, hs⟩) | fail)
 go_ret
 refine ⟨_, rfl, aU, _, rfl, ?_⟩
 (try simp only [ByteArray.size_append, oh, List.size_toArray, List.length_cons, List.length_nil, Array.size_append, List.length_append])
 omega
theorem Du (A : Option Addr) (n k hi : Nat) (bs : List Int) (w : World) (hr : Rds w 0 hi 1 (.slice A n k) n (bs.map (Value.int .u8))) (hhi : hi ≤ w.heap.size) (hn : n ≤ 1048576) :
 Calls Tryz.prog 82 #[.slice A n k] w fun e w' => ∃ s : ByteArray, e = .returned (.string s) ∧ s.size ≤ 30000000 ∧ Below w.heap.size w w' := by
 go_in
 go_wp2_with (first | (go_at_call 44; refine (tO A n k hi bs _ hr hhi hn).mono ?_; rintro e wn ⟨c, rfl, hb1, hc1, hcu⟩; have hA := At_.start hcu) | (go_at_call 124; refine (uR A n k 2 6 _ hn aA aA aA).mono ?_; rintro e w1 ⟨⟨q, rfl, hq0, hq⟩, rfl⟩) | (go_at_call 46; refine (rZ aU aA aA).mono ?_; rintro e w1 ⟨_, rfl, hA, b, rfl⟩) | (go_at_call 127; refine (jV (k := 80) aU aM aI).mono ?_; rintro e w1 ⟨_, rfl, hA, s, rfl, hs⟩) | (go_at_call 126; refine ((Bz _ ah ah).int _ _ _ aU).mono ?_; rintro e w1 ⟨_, rfl, hA, s, rfl, hs⟩) | (go_at_call 123; refine (z8 aU).mono ?_; rintro e w1 ⟨_, rfl, hA, s, rfl, hs⟩) | (go_at_call 125; refine (VD _ ah ah _ _ _ _ aU).mono ?_; rintro e w1 ⟨_, rfl, hA, s, rfl, hs⟩) | (go_at_call 47; refine (kJ aU ah ah).mono ?_; rintro e w1 ⟨_, rfl, hA, x, rfl, hx0, hx⟩) | fail)
 all_goals
  go_loopw [5, 7] (fun out i wr => ∃ (s : ByteArray) (j : Nat), out = .string s ∧ s.size ≤ 5000 + 2600000 * j ∧ i = .int i64 j ∧ (j : Int) ≤ 1 + x ∧ At_ c wn wr) (fun _ i _ => (1 + x - intOf i).toNat)
  case atStart =>
   refine ⟨_, 0, rfl, ?_, rfl, ah, aU⟩
   (try simp only [ByteArray.size_append, oh, List.size_toArray, List.length_cons, List.length_nil, Array.size_append, List.length_append])
   omega
  obtain ⟨s, j, rfl, hs, rfl, hj, hA⟩ := hrel
  by_cases hlt : (j : Int) < 1 + x
  ·go_wp2_with (first | (go_at_call 44; refine (tO A n k hi bs _ hr hhi hn).mono ?_; rintro e wn ⟨c, rfl, hb1, hc1, hcu⟩; have hA := At_.start hcu) | (go_at_call 124; refine (uR A n k 2 6 _ hn aA aA aA).mono ?_; rintro e w1 ⟨⟨q, rfl, hq0, hq⟩, rfl⟩) | (go_at_call 46; refine (rZ aU aA aA).mono ?_; rintro e w1 ⟨_, rfl, hA, b, rfl⟩) | (go_at_call 127; refine (jV (k := 80) aU aM aI).mono ?_; rintro e w1 ⟨_, rfl, hA, s, rfl, hs⟩) | (go_at_call 126; refine ((Bz _ ah ah).int _ _ _ aU).mono ?_; rintro e w1 ⟨_, rfl, hA, s, rfl, hs⟩) | (go_at_call 123; refine (z8 aU).mono ?_; rintro e w1 ⟨_, rfl, hA, s, rfl, hs⟩) | (go_at_call 125; refine (VD _ ah ah _ _ _ _ aU).mono ?_; rintro e w1 ⟨_, rfl, hA, s, rfl, hs⟩) | (go_at_call 47; refine (kJ aU ah ah).mono ?_; rintro e w1 ⟨_, rfl, hA, x, rfl, hx0, hx⟩) | fail)
   go_roundw
   case rel =>
    refine ⟨_, j + 1, rfl, ?_, by go_num, ah, aU⟩
    (try simp only [ByteArray.size_append, oh, List.size_toArray, List.length_cons, List.length_nil, Array.size_append, List.length_append])
    omega
   simp [intOf]; omega
  have hj7 : j ≤ 7 := ah
  go_wp2_with (first | (go_at_call 44; refine (tO A n k hi bs _ hr hhi hn).mono ?_; rintro e wn ⟨c, rfl, hb1, hc1, hcu⟩; have hA := At_.start hcu) | (go_at_call 124; refine (uR A n k 2 6 _ hn aA aA aA).mono ?_; rintro e w1 ⟨⟨q, rfl, hq0, hq⟩, rfl⟩) | (go_at_call 46; refine (rZ aU aA aA).mono ?_; rintro e w1 ⟨_, rfl, hA, b, rfl⟩) | (go_at_call 127; refine (jV (k := 80) aU aM aI).mono ?_; rintro e w1 ⟨_, rfl, hA, s, rfl, hs⟩) | (go_at_call 126; refine ((Bz _ ah ah).int _ _ _ aU).mono ?_; rintro e w1 ⟨_, rfl, hA, s, rfl, hs⟩) | (go_at_call 123; refine (z8 aU).mono ?_; rintro e w1 ⟨_, rfl, hA, s, rfl, hs⟩) | (go_at_call 125; refine (VD _ ah ah _ _ _ _ aU).mono ?_; rintro e w1 ⟨_, rfl, hA, s, rfl, hs⟩) | (go_at_call 47; refine (kJ aU ah ah).mono ?_; rintro e w1 ⟨_, rfl, hA, x, rfl, hx0, hx⟩) | fail)
  all_goals go_ret
  all_goals refine ⟨_, rfl, ?_, hb1.trans ?_⟩
  all_goals first
   | exact uF (show At_ c wn _ by assumption).cr.grown hb1.size qP
   | ((try simp only [ByteArray.size_append, oh, List.size_toArray, List.length_cons, List.length_nil, Array.size_append, List.length_append]); omega)
end
end Go.Proofs.YthbcamfejgghhaaGreatDoor
