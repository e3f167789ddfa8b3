/- Literals of a text: where they end, what stands in them. What is returned is not told but for its bounds. Words and operators of the language, literals; a token -/
import Derived.Test.YthbcamfejgghhaaGreatDoorQ05
import Derived.Test.YthbcamfejgghhaaGreatDoorQ06
import Derived.Test.YthbcamfejgghhaaGreatDoorQ07
import Derived.Test.YthbcamfejgghhaaGreatDoorQ08
import Derived.Test.YthbcamfejgghhaaGreatDoorQ09
set_option maxRecDepth 100000
set_option maxHeartbeats 8000000
set_option linter.unusedVariables false
set_option linter.unusedSimpArgs false
namespace Go.Proofs.YthbcamfejgghhaaGreatDoor
open Go.IntKind (i64)
section
open Go Go.RowKit
theorem xK (s : ByteArray) (a : Nat) (w : World) (ha : a < s.size) (hs : s.size ≤ 100000000) :
 Calls Tryz.prog 202 (lM s a) w fun e w' => (∃ r : Int, e = .returned (.int i64 r) ∧ (r = -1 ∨ ((a : Int) + 1 < r ∧ r ≤ s.size))) ∧ Same w w' := by
 go_in
 go_wp2_with fail
 go_loopw [5] (fun i wr => ∃ k : Nat, a < k ∧ k ≤ s.size + 1 ∧ i = .int i64 k ∧ Same w wr) (fun i _ => s.size + 1 - (intOf i).toNat)
 case atStart => exact ⟨a + 1, ah, ah, by go_num, Same.refl w⟩
 obtain ⟨k, hk, hk1, rfl, hw⟩ := hrel
 obtain ⟨wo, rfl⟩ := nW wr
 by_cases hlt : k < s.size
 ·have q1 : (0 : Int) ≤ k := by omega
  have q2 : (k : Int) < s.size := ah
  have q3 : (a : Int) < s.size := ah
  go_wp2_with fail
  go_quiet (fail)
  by_cases h1 : (s[k].toNat : Int) < 32
  all_goals
   go_wp2_with fail
   all_goals first
    | exact ⟨⟨k + 1, ah, ah, by go_num, hw.drewN _⟩, by simp [intOf]; omega⟩
    | exact ⟨⟨k + 2, ah, ah, by go_num, hw.drewN _⟩, by simp [intOf]; omega⟩
    | (go_ret; exact ⟨⟨_, rfl, .inl rfl⟩, hw.drewN _⟩)
    | (go_ret; exact ⟨⟨_, rfl, .inr ⟨ah, ah⟩⟩, hw.drewN _⟩)
 go_wp2_with fail
 go_ret
 exact ⟨⟨-1, rfl, .inl rfl⟩, hw⟩
def UY (n : Nat) (w : World) (e : Ending) (w' : World) : Prop := (∃ (t : ByteArray) (b : Bool), e = .returned (.tuple #[.string t, .bool b]) ∧ t.size ≤ n) ∧ Below w.heap.size w w'
theorem wu (s : ByteArray) : (ByteArray.mk #[]).size ≤ s.size := nZ s.size
def MJ (c : Nat) : Int := if 48 ≤ c ∧ c ≤ 57 then (c : Int) - 48 else if 97 ≤ c ∧ c ≤ 102 then (c : Int) - 87 else -1
theorem O9 (c : Nat) : -1 ≤ MJ c ∧ MJ c ≤ 15 := by unfold MJ; split <;> (try split) <;> omega
theorem pJ (c : Nat) (w : World) (hc : c ≤ 255) :
 Calls Tryz.prog 232 #[.int .u8 c] w fun e w' => e = .returned (.int i64 (MJ c)) ∧ w = w' := by
 by_cases h1 : (48 : Int) ≤ c
 all_goals by_cases h2 : (97 : Int) ≤ c
 all_goals
  go_in
  go_wp2_with fail
  all_goals
   go_ret
   exact ⟨pU (by unfold MJ; split <;> (try split) <;> omega), rfl⟩
def vL (B : Nat) (v : Value) (m : Nat) (w : World) : Prop := ∃ xs : List Int, w.ownsRow B 5 1 v xs.length (xs.map (Value.int .u8)) ∧ Q9 v xs.length ∧ xs.length ≤ m
theorem vL.push {B m k : Nat} {v' : Value} {w' : World} {xs : List Int} {b : Int} {ys : List Value} (hy : ys = [Value.int .u8 b]) (h : w'.ownsRow B 5 1 v' (xs.length + 1) (xs.map (Value.int .u8) ++ ys)) (hm : xs.length ≤ m) (hk : m + 1 ≤ k) : vL B v' k w' := by
 subst hy
 refine ⟨xs ++ [b], by simpa using h, ?_, aJ⟩
 exact JC
theorem uM (s : ByteArray) (q : Nat) (w : World) (hs : s.size ≤ 100000000) (hq : q ≤ 255) :
 Calls Tryz.prog 221 #[.string s, .int .u8 q] w (UY s.size w) := by
 by_cases h2 : (s.size : Int) < 2
 ·go_in
  go_wp2_with fail
  go_ret2
  exact ⟨⟨_, _, rfl, wu s⟩, bR _ _⟩
 have h0 : 0 < s.size := ah
 cases hqb : ((s[0].toNat : Int) != (q : Int)) with
 | true =>
   go_in
   go_wp2_with fail
   go_ret2
   exact ⟨⟨_, _, rfl, wu s⟩, bR _ _⟩
 | false =>
   go_in
   go_wp2_with fail
   refine (xK s 0 _ h0 hs).mono ?_
   rintro e w1 ⟨⟨r, rfl, hr⟩, hS⟩
   clear hr
   cases hrb : (r != (s.size : Int))
   all_goals go_wp2_with fail
   rotate_left
   ·go_ret2 -- out
    exact ⟨⟨_, _, rfl, wu s⟩, hS.below _⟩
   have hlit := vO (World.ownsRow_lit w1 #[] 0 (e := 5) (size := 1) (nR _) aA rfl) (base' := w.heap.size) (Nat.le_of_eq hS.size.symm)
   go_loopw [6, 7] (fun v i wr => ∃ k : Nat, 1 ≤ k ∧ k ≤ s.size ∧ i = .int i64 k ∧ vL w.heap.size v k wr ∧ Below w.heap.size w wr) (fun _ i _ => s.size - (intOf i).toNat)
   case atStart => exact ⟨1, nR _, h0, rfl, ⟨[], hlit, ⟨_, _, rfl⟩, nZ _⟩, (hS.below _).alloc (Nat.le_of_eq hS.size.symm) _⟩
   obtain ⟨k, hk1, hk, rfl, ⟨xs, hown, hsl, hxs⟩, hb⟩ := hrel
   obtain ⟨wo, rfl⟩ := nW wr
   clear hlit
   by_cases hlt : k + 1 < s.size
   ·have q1 : (k : Int) + 1 < s.size := by omega
    cases c0 : ((s[k].toNat : Int) != 92) with
    | true =>
      go_wp2_with (first | (at_builtin; refine dO rfl _ _ 22 aM 5 _ 1 1 BJ Tryz.underlying22 rfl aA aA w.heap.size _ _ _ aM hown _ 1 _ aM aM eZ ah hb.size ?_))
      rintro v' w1 ho1 hg1 -
      have hb1 := gN hb hb.size hown hg1
      clear hown
      go_wp2_with fail
      go_roundw
      case rel => exact ⟨k + 1, ah, ah, by go_num, vL.push rfl ho1 hxs ah, hb1⟩
      simp [intOf]; omega
    | false =>
      cases c1 : ((s[k + 1].toNat : Int) == 110) with
      | true =>
        exact yD
      | false =>
      cases c2 : ((s[k + 1].toNat : Int) == 116) with
      | true =>
        exact yD
      | false =>
      cases c3 : ((s[k + 1].toNat : Int) == 92) with
      | true =>
        exact yD
      | false =>
      cases c4 : ((s[k + 1].toNat : Int) == 34) with
      | true =>
        exact yD
      | false =>
      cases c5 : ((s[k + 1].toNat : Int) == 39) with
      | true =>
        exact yD
      | false =>
      cases c6 : ((s[k + 1].toNat : Int) == 120) with
      | false =>
        go_wp2_with fail
        go_ret2
        exact ⟨⟨_, _, rfl, wu s⟩, hb⟩
      | true =>
      by_cases h4 : (k : Int) + 3 < (s.size : Int) - 1
      rotate_left
      ·go_wp2_with fail
       go_ret2
       exact ⟨⟨_, _, rfl, wu s⟩, hb⟩
      have q4 : k + 4 < s.size := ah
      have x2 := s[k + 2].toNat_lt
      have x3 := s[k + 3].toNat_lt
      have y2 := O9 s[k + 2].toNat
      have y3 := O9 s[k + 3].toNat
      cases c7 : decide (0 ≤ MJ s[k + 2].toNat)
      have d7 := of_decide_eq_false c7
      rotate_left
      have d7 := of_decide_eq_true c7
      cases c8 : decide (0 ≤ MJ s[k + 3].toNat)
      have d8 := of_decide_eq_false c8
      rotate_left
      rotate_right 2
      iterate 2 focus
       go_wp2_with (first | (go_at_call 232; refine (pJ _ _ (Nat.le_of_lt_succ (UInt8.toNat_lt _))).mono ?_; rintro e w2 ⟨rfl, rfl⟩) | fail)
       go_ret2
       exact ⟨⟨_, _, rfl, wu s⟩, hb⟩
      have d8 := of_decide_eq_true c8
      have w2_ : IntKind.i64.wrap ((k : Int) + 2) = (k : Int) + 2 := IntWalk.i64_in _ ah
      have w3_ : IntKind.i64.wrap ((k : Int) + 3) = (k : Int) + 3 := IntWalk.i64_in _ ah
      have z2 : (0 : Int) ≤ (k : Int) + 2 := ah
      have z3 : (0 : Int) ≤ (k : Int) + 3 := ah
      have z4 : (k : Int) + 2 < (s.size : Int) := ah
      have z5 : (k : Int) + 3 < (s.size : Int) := ah
      go_wp2_with (first | (go_at_call 232; refine (pJ _ _ (Nat.le_of_lt_succ (UInt8.toNat_lt _))).mono ?_; rintro e w2 ⟨rfl, rfl⟩) | fail)
      have ho0 := (Same.refl wo).drew.own hown
      have hbd := hb.trans ((Same.refl wo).drew.below w.heap.size)
      go_region_held3 (fun _ => True) (trivial) (first | (go_at_call 232; refine (pJ _ _ (Nat.le_of_lt_succ (UInt8.toNat_lt _))).mono ?_; rintro e w2 ⟨rfl, rfl⟩) | ((refine rV rfl (.tmp 97) (.tmp 111) 22 aM 5 _ 1 1 BJ Tryz.underlying22 rfl aA aA w.heap.size _ _ _ aM ho0 _ 1 _ aM (Same.refl _) aM eZ ah hb.size ?_; intro v' w1 ho1 hg1 ae5)) | fail)
      all_goals
       have hb1 := gN hbd hb.size ho0 hg1
       clear hown ho0
       go_wp2_with fail
       go_roundw
       case rel => exact ⟨k + 4, ah, ah, by go_num, vL.push rfl ho1 hxs ah, hb1⟩
       simp [intOf]; omega
   have q1 : ¬ (k : Int) + 1 < s.size := ah
   obtain ⟨g, cap, rfl⟩ := hsl
   have hcv := run_convert_bytes_arg (P := Tryz.prog) wo 22 5 Tryz.underlying22 Tryz.underlying5 g 0 xs.length cap xs rfl (fun i hi => by
    have := hown.cellAt i ah
    rw [Nat.zero_add, this, List.getElem?_map, gE hi, List.getD, gE hi]
    rfl) 9 Tryz.underlying9
   clear hown
   go_wp2_with fail
   go_ret2
   exact ⟨⟨_, _, rfl, by rw [strOfNums_size]; omega⟩, hb⟩
end
section
open Go Go.RowKit
def nU (w : World) (e : Ending) (w' : World) : Prop := ∃ b : Bool, e = .returned (.bool b) ∧ Below w.heap.size w w'
def isStr : Value → Bool
 | .string _ => true
 | _ => false
theorem GQ {cs : Array Value} (h : cs.toList.all isStr = true) : ∃ l : List ByteArray, cs.toList = l.map .string := by
 generalize cs.toList = vs at h
 induction vs with
 | nil => exact ⟨[], rfl⟩
 | cons v vs ih =>
   simp only [List.all_cons, Bool.and_eq_true] at h
   obtain ⟨l, hl⟩ := ih h.2
   cases v with
   | string s => exact ⟨s :: l, by rw [hl]; rfl⟩
   | _ => cases h.1
theorem OE {w : World} {cs : Array Value} {t : TypeId} {n : Nat} (s : ByteArray) (hs : cs.size = n) (h : cs.toList.all isStr = true) (hn : n ≤ 1000) :
 Calls Tryz.prog 105 #[.slice (some (aj w.heap.size 0)) n n, s] (w.alloc (.cells cs t)) (nU w) := by
 obtain ⟨l, hl⟩ := GQ h
 have hln : l.length = n := by
  exact CS
 subst hln
 have hr : Rds (w.alloc (.cells cs t)) w.heap.size (w.heap.size + 1) 1 (.slice (some (aj w.heap.size 0)) l.length l.length) l.length (l.map .string) := by
  refine ⟨_, _, rfl, nR _, by unfold maxLen; omega, av, l8, fun _ => ⟨_, 0, rfl, nR _, Nat.lt_succ_self _, fun j u hu => ?_⟩⟩
  rw [Nat.zero_add, (Blk.new w t cs).cell j, ← hu, ← hl]
  simp
 exact (De _ l s _ hr).mono fun e w' ⟨he, hw⟩ => ⟨_, he, hw ▸ bA _ _⟩
theorem qw (s : ByteArray) (w : World) : Calls Tryz.prog 205 #[.string s] w (nU w) := by
 exact I4
theorem zT (s : ByteArray) (w : World) (hs : s.size ≤ 100000000) : Calls Tryz.prog 203 #[.string s] w (UY s.size w) := by
 go_in
 go_wp2_with fail
 refine (uM s 34 _ hs aA).mono ?_
 rintro e w1 ⟨⟨t, b, rfl, ht⟩, hb⟩
 go_wp2_with fail
 go_ret2
 exact ⟨⟨t, b, rfl, ht⟩, hb⟩
def Y8 (w : World) (e : Ending) (w' : World) : Prop := (∃ (c : cB) (b : Bool), e = .returned (.tuple #[c.val, .bool b])) ∧ Below w.heap.size w w'
theorem zU (s : ByteArray) (w : World) (hs : s.size ≤ 1048576) : Calls Tryz.prog 204 #[.string s] w (Y8 w) := by
 go_in
 go_wp2_with fail
 refine (uM s 39 _ ah aA).mono ?_
 rintro e w1 ⟨⟨t, b, rfl, ht⟩, hb⟩
 have bx := (Blk.new w 110 (aL 0 0)).below hb av
 have cx := bx.cell
 have fx := bx.frozen
 have hbw : Below w.heap.size w w1 := ((bR w.heap.size w).alloc (nR _) _).trans (hb.mono av)
 cases b
 ·go_wp2_with fail
  refine bodyPost_ret (v := .tuple #[.agg (aL 0 0), .bool false]) ?_ rfl ⟨⟨⟨0#64, 0#64⟩, false, rfl⟩, ?_⟩
  ·simp [results, Tryz.results204, go_sem, cx]
  exact (hbw.setCell (p := ⟨w.heap.size, 0, none⟩) (nR _) _).setCell (p := ⟨w.heap.size, 1, none⟩) (nR _) _
 go_wp2_with fail
 refine (sZ t _ ah).mono ?_
 rintro e w2 ⟨rfl, hb2⟩
 have bx2 := bx.later hb2
 clear cx fx
 have cx := bx2.cell
 have fx := bx2.frozen
 have hbw2 := hbw.trans (hb2.mono hbw.size)
 unfold cB.val
 go_wp2_with fail
 refine bodyPost_ret (v := .tuple #[(bH t).val, .bool (jl t)]) ?_ rfl ⟨⟨bH t, jl t, rfl⟩, ?_⟩
 ·simp [results, Tryz.results204, go_sem, cx, cB.val]
 exact (hbw2.setCell (p := ⟨w.heap.size, 0, none⟩) (nR _) _).setCell (p := ⟨w.heap.size, 1, none⟩) (nR _) _
def Rv (B : Nat) (g : Nat) (w : World) : Prop := ∃ l : List ByteArray, Blk w g 9 (l.map Value.string).toArray ∧ l.length = 62 ∧ (∀ s ∈ l, 1 ≤ s.size ∧ s.size ≤ 8) ∧ B ≤ g
def Vq : Value → Bool
 | .string s => decide (1 ≤ s.size) && decide (s.size ≤ 8)
 | _ => false
theorem Vr {cs : Array Value} (h : cs.toList.all Vq = true) : ∃ l : List ByteArray, cs = (l.map Value.string).toArray ∧ ∀ s ∈ l, 1 ≤ s.size ∧ s.size ≤ 8 := by
 obtain ⟨vs⟩ := cs
 simp only at h
 induction vs with
 | nil => exact ⟨[], rfl, av⟩
 | cons v vs ih =>
   simp only [List.all_cons, Bool.and_eq_true] at h
   obtain ⟨l, hl, hm⟩ := ih h.2
   cases v with
   | string s =>
     have h1 := h.1
     simp only [Vq, Bool.and_eq_true, decide_eq_true_eq] at h1
     refine ⟨s :: l, ?_, fun x hx => ?_⟩
     ·have := congrArg Array.toList hl
      simp at this
      rw [this]; rfl
     rcases mC hx with rfl | hx
     ·exact h1
     exact hm x hx
   | _ => cases h.1
theorem rT (w : World) : Calls Tryz.prog 206 #[] w fun e w' => (∃ g, e = .returned (.slice (some (aj g 0)) 62 62) ∧ Rv w.heap.size g w') ∧ Below w.heap.size w w' := by
 have H1 : Hid (∀ c : Array Value, c.toList.all Vq = true → c.size = 62 → Rv w.heap.size w.heap.size (w.alloc (.cells c 9))) := by
  intro c hc h62
  obtain ⟨l, rfl, hm⟩ := Vr hc
  exact ⟨l, Blk.new w _ _, by simpa using h62, hm, nR _⟩
 go_in
 go_wp2_with fail
 go_ret
 exact ⟨⟨_, rfl, H1.out _ aI aM⟩, bA _ _⟩
end
section
open Go Go.RowKit
theorem zN {w : World} {cs : Array Value} {t : TypeId} {n p : Nat} (s : ByteArray) (hp : p = w.heap.size) (hs : cs.size = n) (h : cs.toList.all isStr = true) (hn : n ≤ 1000) :
 Calls Tryz.prog 105 #[.slice (some (aj p 0)) n n, s] (w.alloc (.cells cs t)) (nU w) := by
 subst hp
 exact OE s hs h hn
theorem nV (k l : Int) (s : ByteArray) (w : World) : Calls Tryz.prog 158 #[.agg (aV k s l)] w (nU w) := by
 have hb0 : Below w.heap.size w (w.alloc (.cells (aV k s l) 171)) := bA _ _
 by_cases h1 : k = 1
 ·exact On
 have c1 : (k == 1) = false := by simp [h1]
 exact Oi
theorem wJ (k l : Int) (s : ByteArray) (w : World) : Calls Tryz.prog 157 #[.agg (aV k s l)] w (nU w) := by
 have hb0 : Below w.heap.size w (w.alloc (.cells (aV k s l) 171)) := bA _ _
 by_cases h1 : k = 1
 ·exact On
 have c1 : (k == 1) = false := by simp [h1]
 by_cases h7 : k = 7
 ·subst h7
  cases s1 : (s.toList == (ByteArray.mk #[41]).toList)
  all_goals cases s2 : (s.toList == (ByteArray.mk #[93]).toList)
  all_goals
   go_in
   go_wp2_with (first | (go_at_call 105; refine (zN _ av aM aI aA).mono ?_; rintro e w1 ⟨b, rfl, hb⟩) | fail)
   all_goals go_ret
   all_goals first | exact ⟨_, rfl, hb0⟩ | exact ⟨_, rfl, hb0.trans (hb.mono hb0.size)⟩
 exact Oi
end
end Go.Proofs.YthbcamfejgghhaaGreatDoor
