/- PermutationsOf of the reference and of the program return the same list in memory of their own. -/
import Derived.Test.YtgkgoofapgabhaaDoorProg
import Derived.Test.YtgkgoofapgabhaaDoorTexts
import Derived.StillTailTactics
namespace Go.Proofs.YtgkgoofapgabhaaDoor
open Go.RowKit

def drop1 (s : ByteArray) (i : Nat) : ByteArray := s.extract 0 i ++ s.extract (i + 1) s.size
def perms : Nat → ByteArray → List ByteArray
  | 0, _ => [⟨#[]⟩]
  | n + 1, s => (List.range (n + 1)).flatMap fun i => (perms n (drop1 s i)).map (fun r => s.extract i (i + 1) ++ r)
def permsTo (n : Nat) (s : ByteArray) (k : Nat) : List ByteArray := (List.range k).flatMap fun i => (perms n (drop1 s i)).map (fun r => s.extract i (i + 1) ++ r)
theorem permsTo_all (n : Nat) (s : ByteArray) : perms (n + 1) s = permsTo n s (n + 1) := rfl
theorem permsTo_succ (n : Nat) (s : ByteArray) (k : Nat) : permsTo n s (k + 1) = permsTo n s k ++ (perms n (drop1 s k)).map (fun r => s.extract k (k + 1) ++ r) := by
  simp [permsTo, List.range_succ]
theorem drop1_size (s : ByteArray) (i : Nat) (h : i < s.size) : (drop1 s i).size = s.size - 1 := by
  unfold drop1; simp [ByteArray.size_append, ByteArray.size_extract]; omega
theorem perms_size (n : Nat) : ∀ (s r : ByteArray), r ∈ perms n s → s.size = n → r.size = n := by
  induction n with
  | zero => intro s r hr _; simp [perms] at hr; subst hr; rfl
  | succ n ih =>
    intro s r hr hs
    rw [perms, List.mem_flatMap] at hr
    obtain ⟨i, hi, hr⟩ := hr
    obtain ⟨q, hq, rfl⟩ := List.mem_map.1 hr
    have hi' := List.mem_range.1 hi
    have := ih (drop1 s i) q hq (by rw [drop1_size s i (by omega)]; omega)
    simp [ByteArray.size_append, ByteArray.size_extract]; omega
theorem permsTo_len' {n : Nat} {s : ByteArray} {B : Nat} (h : ∀ t, (perms n t).length ≤ B) (k : Nat) : (permsTo n s k).length ≤ k * B := by
  induction k with
  | zero => simp [permsTo]
  | succ k ih => rw [permsTo_succ, List.length_append, List.length_map, Nat.add_mul]; have := h (drop1 s k); omega
theorem perms_len (n : Nat) (hn : n ≤ 5) : ∀ s, (perms n s).length ≤ 5 ^ n := by
  induction n with
  | zero => intro s; simp [perms]
  | succ n ih =>
    intro s
    rw [permsTo_all, Nat.pow_succ, Nat.mul_comm]
    exact Nat.le_trans (permsTo_len' (ih (by omega)) (n + 1)) (Nat.mul_le_mul_right _ hn)
theorem pow5 (n : Nat) (h : n ≤ 5) : 5 ^ n ≤ 3125 := by
  match n, h with
  | 0, _ => decide
  | 1, _ => decide
  | 2, _ => decide
  | 3, _ => decide
  | 4, _ => decide
  | 5, _ => decide
theorem perms_small (n : Nat) (hn : n ≤ 5) (s : ByteArray) : (perms n s).length ≤ 3125 := Nat.le_trans (perms_len n hn s) (pow5 n hn)
theorem permsTo_small (n : Nat) (hn : n ≤ 5) (s : ByteArray) (k : Nat) (hk : k ≤ 5) : (permsTo n s k).length ≤ 15625 := by
  have := permsTo_len' (fun t => perms_small n hn t) (s := s) k
  omega
def permutationsOf (s : ByteArray) : List ByteArray := if 5 < s.size then [] else perms s.size s
theorem permutationsOf_len (s : ByteArray) (_h : s.size ≤ 1048576) : (permutationsOf s).length ≤ 1048577 := by
  unfold permutationsOf
  split
  · simp
  · have := perms_small s.size (by omega) s; omega

set_option maxRecDepth 100000 in
set_option maxHeartbeats 1000000 in
theorem spec_perms (n : Nat) (hn : n ≤ 5) : ∀ (s : ByteArray) (w : World), s.size = n →
    Calls Tryd.prog 46 #[.string s] w (OwnTexts (perms n s) w) := by
  induction n with
  | zero =>
    intro s w hs
    have h0 : ((s.size : Int) == 0) = true := by simp [hs]
    have h5 : s.size ≤ 5 := by omega
    clear hs
    go_enter Tryd.func46, Tryd.ntmps46
    go_wp2_with fail
    go_ret
    exact ⟨_, rfl, World.ownsRow_lit w #[.string ⟨#[]⟩] 1 (Nat.le_refl _) (by decide) rfl, (Below.refl _ _).alloc (Nat.le_refl _) _⟩
  | succ n ih =>
    intro s w hs
    have IH := Lib.hid (ih (by omega))
    clear ih
    have h0 : ((s.size : Int) == 0) = false := beq_eq_false_iff_ne.2 (by omega)
    have h5 : s.size ≤ 5 := by omega
    have h5b : decide (5 < (s.size : Int)) = false := decide_eq_false (by omega)
    have h1 : n + 1 ≤ s.size := by omega
    have h2 : s.size ≤ n + 1 := by omega
    have Hs := Lib.hid hs
    clear hs
    go_enter Tryd.func46, Tryd.ntmps46
    go_wp2_with fail
    go_loopw [3, 4] (fun v i wr => ∃ k : Nat, k ≤ s.size ∧ i = .int .i64 k ∧ wr.ownsRow w.heap.size 9 1 v (permsTo n s k).length ((permsTo n s k).map .string) ∧ Below w.heap.size w wr) (fun _ i _ => s.size - (intOf i).toNat)
    case atStart => exact ⟨0, Nat.zero_le _, rfl, World.ownsRow_lit w #[] 0 (Nat.le_refl _) (Nat.zero_le _) rfl, (Below.refl _ _).alloc (Nat.le_refl _) _⟩
    case round =>
      obtain ⟨k, hk, rfl, hown, hb⟩ := hrel
      obtain ⟨wo, rfl⟩ : ∃ wo : World, wo = wr := ⟨_, rfl⟩
      have hlen := permsTo_small n (by omega) s k (by omega)
      by_cases hks : k < s.size
      · have hrl := perms_small n (by omega) (drop1 s k)
        have hd : (drop1 s k).size = n := by rw [drop1_size s k hks]; omega
        have HC := Lib.hid (fun w' => IH.out (drop1 s k) w' hd)
        have Hsz := Lib.hid (fun r hr => perms_size n (drop1 s k) r hr hd)
        clear hd
        go_wp2_with fail
        have e0 : (0 : Int) ≤ (k : Int) := by omega
        have e4 : (k : Int) ≤ (s.size : Int) := by omega
        have e2 : (0 : Int) ≤ (k : Int) + 1 := by omega
        have e5 : (k : Int) + 1 ≤ (s.size : Int) := by omega
        have e3 : ((k : Int) + 1).toNat = k + 1 := by omega
        have e6 : ¬ (9223372036854775807 < k + (s.size - (k + 1))) := by omega
        have e1 : IntKind.i64.wrap ((k : Int) + 1) = (k : Int) + 1 := IntWalk.i64_in _ (by omega)
        go_region_held3 (fun w' => Below w.heap.size w w') (first | exact hb | exact hb.drew | exact hb.drew.trans (hbu.mono hb.size))
          (first | (go_at_call 46; refine (HC.out _).mono ?_; rintro e w1 ⟨u, rfl, hou, hbu⟩))
        rename_i hheld
        have hou' : w1.ownsRow wo.heap.size 9 1 u (perms n (drop1 s k)).length ((perms n (drop1 s k)).map .string) := hou
        have hbu' : Below wo.heap.size wo w1 := (Below.refl _ _).drew.trans hbu
        clear hou hbu e0 e1 e2 e3 e4 e5 e6 HC
        have hr := Rds.of_own hou'
        have hown1 := hown.kept (grown_of_below hbu' none) (by cases u3.ownBlock <;> simp)
        have hap : Apart u3 wo.heap.size w1.heap.size := Apart.of_own hown _
        obtain ⟨A, c, rfl, hc1, hc2, -⟩ := hr.shape
        unfold maxLen at hc2
        clear hou' hbu' hown hb
        go_wp2_with fail
        go_loopw [3, 6] (fun v j wr => ∃ m : Nat, m ≤ (perms n (drop1 s k)).length ∧ j = .int .i64 m ∧ wr.ownsRow w.heap.size 9 1 v ((permsTo n s k).length + m) ((permsTo n s k ++ ((perms n (drop1 s k)).take m).map (fun r => s.extract k (k + 1) ++ r)).map .string) ∧ Below w.heap.size w wr ∧
            w1.heap.size ≤ wr.heap.size ∧ Rds wr wo.heap.size w1.heap.size 1 (.slice A (perms n (drop1 s k)).length c) (perms n (drop1 s k)).length ((perms n (drop1 s k)).map .string) ∧ Apart v wo.heap.size w1.heap.size) (fun _ j _ => (perms n (drop1 s k)).length - (intOf j).toNat)
        case atStart => exact ⟨0, Nat.zero_le _, rfl, by simpa using hown1, hheld, Nat.le_refl _, hr, hap⟩
        case round =>
          obtain ⟨m, hm, rfl, hown, hb, hz, hr, hap⟩ := hrel
          by_cases hml : m < (perms n (drop1 s k)).length
          · obtain ⟨g, off, r, rfl, hg1, hg2, hq, hcell⟩ := hr.atMap hml
            have hrs := Hsz.out r (List.mem_of_getElem? hq)
            have Hq := Lib.hid hq
            clear hq
            have hne : some g ≠ u3.ownBlock := fun e => by have := hap g e.symm; omega
            have hrl5 : r.size ≤ 5 := by omega
            clear hrs
            go_wp2_with fail
            have e0 : (0 : Int) ≤ (k : Int) := by omega
            have e2 : (k : Int) ≤ (k : Int) + 1 := by omega
            have e5 : (k : Int) + 1 ≤ (s.size : Int) := by omega
            have e3 : ((k : Int) + 1).toNat = k + 1 := by omega
            have e7 : (0 : Int) ≤ (m : Int) := by omega
            have e8 : (m : Int) < ((perms n (drop1 s k)).length : Int) := by omega
            have e6 : ¬ (9223372036854775807 < min (k + 1) s.size - k + r.size) := by omega
            have e1 : IntKind.i64.wrap ((k : Int) + 1) = (k : Int) + 1 := IntWalk.i64_in _ (by omega)
            go_region_held3 (fun w' => w'.cell? ⟨g, off + m, none⟩ = some (.string r)) (first | exact hcell | go_keep | exact hgrow.cell hcell hne)
              ((refine step_push rfl (.tmp 36) (.tmp 47) 25 rfl 9 _ 1 16 info_string Tryd.underlying25 rfl (by decide) (by decide) w.heap.size u3 _ _ rfl hown #[.string (s.extract k (k + 1) ++ r)] 1 9 rfl (Same.refl _).drew rfl (by simp [Value.oneCell']) (by omega) hb.size ?_; intro v' w2 hown2 hgrow hat))
            have hb2 := below_push hb hb.size hown hgrow
            have hr2 := hr.apart hap hgrow hz
            have hap2 := hap.push hat hz
            have hz2 : w1.heap.size ≤ w2.heap.size := Nat.le_trans hz hgrow.size
            clear e0 e1 e2 e3 e5 e6 e7 e8 hgrow hat hr hap hb hown hcell
            go_wp2_with fail
            go_roundw
            case rel => exact ⟨m + 1, by omega, by go_num, by rw [take_snoc_of Hq.out]; simpa [Nat.add_assoc] using hown2, hb2, hz2, hr2, hap2⟩
            case measure => simp [intOf]; omega
          · obtain rfl : m = (perms n (drop1 s k)).length := by omega
            rw [List.take_length] at hown
            go_wp2_with fail
            go_roundw
            case rel => exact ⟨k + 1, by omega, by go_num, by rw [permsTo_succ, List.length_append, List.length_map]; exact hown, hb⟩
            case measure => simp [intOf]; omega
      · obtain rfl : k = n + 1 := by omega
        go_wp2_with fail
        go_ret
        exact ⟨_, rfl, hown, hb⟩
set_option maxRecDepth 100000 in
set_option maxHeartbeats 1000000 in
theorem impl_perms (n : Nat) (hn : n ≤ 5) : ∀ (s : ByteArray) (w : World), s.size = n →
    Calls Tryd.prog 53 #[.string s] w (OwnTexts (perms n s) w) := by
  induction n with
  | zero =>
    intro s w hs
    have h0 : s.toList.isEmpty = true := by rw [ByteArray.toList_eq]; have : s.data.toList.length = 0 := hs; rw [List.length_eq_zero_iff] at this; rw [this]; rfl
    have h0b : s.toList = [] := by simpa using h0
    have h5 : s.size ≤ 5 := by omega
    clear hs
    go_enter Tryd.func53, Tryd.ntmps53
    go_wp2_with fail
    go_ret
    exact ⟨_, rfl, World.ownsRow_lit w #[.string ⟨#[]⟩] 1 (Nat.le_refl _) (by decide) rfl, (Below.refl _ _).alloc (Nat.le_refl _) _⟩
  | succ n ih =>
    intro s w hs
    have IH := Lib.hid (ih (by omega))
    clear ih
    have h0 : s.toList.isEmpty = false := by rw [ByteArray.toList_eq]; have : s.data.toList.length = n + 1 := hs; cases hd : s.data.toList <;> simp_all
    have h5 : s.size ≤ 5 := by omega
    have h5b : decide (5 < (s.size : Int)) = false := decide_eq_false (by omega)
    have h1 : n + 1 ≤ s.size := by omega
    have h2 : s.size ≤ n + 1 := by omega
    have Hs := Lib.hid hs
    clear hs
    go_enter Tryd.func53, Tryd.ntmps53
    go_wp2_with fail
    go_loopw [3, 16] (fun v i wr => ∃ k : Nat, k ≤ s.size ∧ i = .int .i64 k ∧ wr.ownsRow w.heap.size 9 1 v (permsTo n s k).length ((permsTo n s k).map .string) ∧ Below w.heap.size w wr) (fun _ i _ => s.size - (intOf i).toNat)
    case atStart => exact ⟨0, Nat.zero_le _, rfl, World.ownsRow_lit w #[] 0 (Nat.le_refl _) (Nat.zero_le _) rfl, (Below.refl _ _).alloc (Nat.le_refl _) _⟩
    case round =>
      obtain ⟨k, hk, rfl, hown, hb⟩ := hrel
      obtain ⟨wo, rfl⟩ : ∃ wo : World, wo = wr := ⟨_, rfl⟩
      have hlen := permsTo_small n (by omega) s k (by omega)
      by_cases hks : k < s.size
      · have hrl := perms_small n (by omega) (drop1 s k)
        have hd : (drop1 s k).size = n := by rw [drop1_size s k hks]; omega
        have HC := Lib.hid (fun w' => IH.out (drop1 s k) w' hd)
        have Hsz := Lib.hid (fun r hr => perms_size n (drop1 s k) r hr hd)
        clear hd
        go_wp2_with fail
        have e0 : (0 : Int) ≤ (k : Int) := by omega
        have e4 : (k : Int) ≤ (s.size : Int) := by omega
        have e2 : (0 : Int) ≤ (k : Int) + 1 := by omega
        have e5 : (k : Int) + 1 ≤ (s.size : Int) := by omega
        have e3 : ((k : Int) + 1).toNat = k + 1 := by omega
        have e6 : ¬ (9223372036854775807 < k + (s.size - (k + 1))) := by omega
        have e1 : IntKind.i64.wrap ((k : Int) + 1) = (k : Int) + 1 := IntWalk.i64_in _ (by omega)
        go_region_held3 (fun w' => Below w.heap.size w w') (first | exact hb | exact hb.drew | exact hb.drew.trans (hbu.mono hb.size))
          (first | (go_at_call 53; refine (HC.out _).mono ?_; rintro e w1 ⟨u, rfl, hou, hbu⟩; obtain ⟨A, c, rfl, hc1, hc2, -⟩ := (Rds.of_own hou).shape))
        rename_i hheld
        have hou' : w1.ownsRow wo.heap.size 9 1 (.slice A (perms n (drop1 s k)).length c) (perms n (drop1 s k)).length ((perms n (drop1 s k)).map .string) := hou
        have hbu' : Below wo.heap.size wo w1 := (Below.refl _ _).drew.trans hbu
        clear hou hbu e0 e1 e2 e3 e4 e5 e6 HC
        have hr := Rds.of_own hou'
        have hown1 := hown.kept (grown_of_below hbu' none) (by cases u3.ownBlock <;> simp)
        have hap : Apart u3 wo.heap.size w1.heap.size := Apart.of_own hown _
        unfold maxLen at hc2
        clear hou' hbu' hown hb
        go_wp2_with fail
        go_loopw [3, 29] (fun v j wr => ∃ m : Nat, m ≤ (perms n (drop1 s k)).length ∧ j = .int .i64 m ∧ wr.ownsRow w.heap.size 9 1 v ((permsTo n s k).length + m) ((permsTo n s k ++ ((perms n (drop1 s k)).take m).map (fun r => s.extract k (k + 1) ++ r)).map .string) ∧ Below w.heap.size w wr ∧
            w1.heap.size ≤ wr.heap.size ∧ Rds wr wo.heap.size w1.heap.size 1 (.slice A (perms n (drop1 s k)).length c) (perms n (drop1 s k)).length ((perms n (drop1 s k)).map .string) ∧ Apart v wo.heap.size w1.heap.size) (fun _ j _ => (perms n (drop1 s k)).length - (intOf j).toNat)
        case atStart => exact ⟨0, Nat.zero_le _, rfl, by simpa using hown1, hheld, Nat.le_refl _, hr, hap⟩
        case round =>
          obtain ⟨m, hm, rfl, hown, hb, hz, hr, hap⟩ := hrel
          by_cases hml : m < (perms n (drop1 s k)).length
          · obtain ⟨g, off, r, rfl, hg1, hg2, hq, hcell⟩ := hr.atMap hml
            have hrs := Hsz.out r (List.mem_of_getElem? hq)
            have Hq := Lib.hid hq
            clear hq
            have hne : some g ≠ u3.ownBlock := fun e => by have := hap g e.symm; omega
            have hrl5 : r.size ≤ 5 := by omega
            clear hrs
            have e6 : ¬ (9223372036854775807 < min (k + 1) s.size - k + r.size) := by omega
            go_wp2_with (first
              | (at_builtin; refine wpList_push rfl (.tmp 33) (.tmp 41) 25 rfl 9 _ 1 16 info_string Tryd.underlying25 rfl (by decide) (by decide) w.heap.size u3 _ _ rfl hown #[.string (s.extract k (k + 1) ++ r)] 1 9 rfl rfl (by simp [Value.oneCell']) (by omega) hb.size ?_))
            intro v' w2 hown2 hgrow hat
            have hb2 := below_push hb hb.size hown hgrow
            have hr2 := hr.apart hap hgrow hz
            have hap2 := hap.push hat hz
            have hz2 : w1.heap.size ≤ w2.heap.size := Nat.le_trans hz hgrow.size
            clear e6 hgrow hat hr hap hb hown hcell
            go_wp2_with fail
            go_roundw
            case rel => exact ⟨m + 1, by omega, by go_num, by rw [take_snoc_of Hq.out]; simpa [Nat.add_assoc] using hown2, hb2, hz2, hr2, hap2⟩
            case measure => simp [intOf]; omega
          · obtain rfl : m = (perms n (drop1 s k)).length := by omega
            rw [List.take_length] at hown
            go_wp2_with fail
            go_roundw
            case rel => exact ⟨k + 1, by omega, by go_num, by rw [permsTo_succ, List.length_append, List.length_map]; exact hown, hb⟩
            case measure => simp [intOf]; omega
      · obtain rfl : k = n + 1 := by omega
        go_wp2_with fail
        go_ret
        exact ⟨_, rfl, hown, hb⟩

set_option maxRecDepth 100000 in
theorem spec_PermutationsOf (s : ByteArray) (w : World) (_hs : s.size ≤ 1048576) :
    Calls Tryd.prog 46 #[.string s] w (OwnTexts (permutationsOf s) w) := by
  by_cases h5 : 5 < s.size
  · rw [permutationsOf, if_pos h5]
    go_enter Tryd.func46, Tryd.ntmps46
    go_wp2_with fail
    go_ret
    exact ⟨_, rfl, World.ownsRow_nil _ _ _ _, Below.refl _ _⟩
  · rw [permutationsOf, if_neg h5]
    exact spec_perms s.size (by omega) s w rfl

set_option maxRecDepth 100000 in
theorem impl_PermutationsOf (s : ByteArray) (w : World) (_hs : s.size ≤ 1048576) :
    Calls Tryd.prog 53 #[.string s] w (OwnTexts (permutationsOf s) w) := by
  by_cases h5 : 5 < s.size
  · rw [permutationsOf, if_pos h5]
    go_enter Tryd.func53, Tryd.ntmps53
    go_wp2_with fail
    go_ret
    exact ⟨_, rfl, World.ownsRow_nil _ _ _ _, Below.refl _ _⟩
  · rw [permutationsOf, if_neg h5]
    exact impl_perms s.size (by omega) s w rfl

end Go.Proofs.YtgkgoofapgabhaaDoor
