/- CountCore of both sides, coreDepth of the program. -/
import Derived.Test.YtjeomamdlmoghaaGreatDoorQ00
import Derived.Test.YtjeomamdlmoghaaGreatDoorQ05
set_option maxRecDepth 100000
set_option maxHeartbeats 8000000
set_option linter.unusedVariables false
set_option linter.unusedSimpArgs false
section
namespace Go.Proofs.YtjeomamdlmoghaaGreatDoor
open Go.RowKit
mutual
def CoreT.nodes : CoreT → Nat
 | .mk _ _ _ _ _ kids => 1 + nodesL kids
def nodesL : List CoreT → Nat
 | [] => 0
 | c :: cs => c.nodes + nodesL cs
end
theorem CoreT.nodes_eq (c : CoreT) : c.nodes = 1 + nodesL c.kids := by cases c; simp only [CoreT.nodes, CoreT.kids]
theorem nodesL_app (a b : List CoreT) : nodesL (a ++ b) = nodesL a + nodesL b := by
 induction a with
 | nil => simp [nodesL]
 | cons c l ih => simp [nodesL, ih]; omega
theorem nodesL_snoc {l : List CoreT} {j : Nat} {c : CoreT} (h : l[j]? = some c) : nodesL (l.take (j + 1)) = nodesL (l.take j) + c.nodes := by
 rw [take_snoc_of h, nodesL_app]; simp [nodesL]
theorem nodesL_take_le (l : List CoreT) (j : Nat) : nodesL (l.take j) ≤ nodesL l := by
 have := nodesL_app (l.take j) (l.drop j)
 rw [List.take_append_drop] at this
 omega
theorem nodesL_of (l : List CoreT) (h : ∀ c ∈ l, c.nodes ≤ c.bulk + 1) : nodesL l ≤ l.length + bulkL l := by
 induction l with
 | nil => simp [nodesL]
 | cons c l ih =>
   have h1 := h c (List.mem_cons_self)
   have h2 := ih fun x hx => h x (List.mem_cons_of_mem _ hx)
   simp only [nodesL, bulkL, List.length_cons]
   omega
theorem nodes_le (c : CoreT) : c.nodes ≤ c.bulk + 1 := CoreT.ind (P := fun c => c.nodes ≤ c.bulk + 1) (fun c h => by
 have := nodesL_of c.kids h
 rw [c.nodes_eq, c.bulk_eq]; omega) c
mutual
def CoreT.depth : CoreT → Nat
 | .mk _ _ _ _ _ kids => depthL kids + 1
def depthL : List CoreT → Nat
 | [] => 0
 | c :: cs => max c.depth (depthL cs)
end
theorem CoreT.depth_eq (c : CoreT) : c.depth = depthL c.kids + 1 := by cases c; simp only [CoreT.depth, CoreT.kids]
theorem depthL_app (a b : List CoreT) : depthL (a ++ b) = max (depthL a) (depthL b) := by
 induction a with
 | nil => simp [depthL]
 | cons c l ih => simp only [depthL, List.cons_append, ih]; omega
theorem depthL_snoc {l : List CoreT} {j : Nat} {c : CoreT} (h : l[j]? = some c) : depthL (l.take (j + 1)) = max (depthL (l.take j)) c.depth := by
 rw [take_snoc_of h, depthL_app]; simp [depthL]
theorem depthL_of (l : List CoreT) (h : ∀ c ∈ l, c.depth ≤ c.nodes) : depthL l ≤ nodesL l := by
 induction l with
 | nil => simp [depthL]
 | cons c l ih =>
   have h1 := h c (List.mem_cons_self)
   have h2 := ih fun x hx => h x (List.mem_cons_of_mem _ hx)
   simp only [nodesL, depthL]
   omega
theorem depth_le (c : CoreT) : c.depth ≤ c.nodes := CoreT.ind (P := fun c => c.depth ≤ c.nodes) (fun c h => by
 have := depthL_of c.kids h
 rw [c.nodes_eq, c.depth_eq]; omega) c
theorem depthL_le (l : List CoreT) : depthL l ≤ nodesL l := depthL_of l fun c _ => depth_le c
def CountOk (F : Nat) (m : CoreT → Nat) (c : CoreT) : Prop := ∀ (x : Value) (w : World) (lo hi : Nat), CRep w lo hi x c → hi ≤ w.heap.size → c.bulk ≤ 1048576 →
 Calls Tryz.prog F #[x] w fun e w' => e = .returned (.int .i64 (m c)) ∧ Below w.heap.size w w'
theorem impl_CountCore_of (c : CoreT) (H : ∀ x ∈ c.kids, CountOk 49 CoreT.nodes x) : CountOk 49 CoreT.nodes c := by
 intro x w lo hi h hhi hbk
 obtain ⟨A, cap, rfl, hk, hc1, hc2⟩ := h.form
 unfold maxLen at hc2
 have HH := Lib.hid H
 have HN := Lib.hid c.nodes_eq
 have hnb := nodes_le c
 rw [c.nodes_eq] at hnb
 have hbb : bulkL c.kids ≤ 1048576 := by rw [c.bulk_eq] at hbk; omega
 clear H h
 go_enter Tryz.func49, Tryz.ntmps49
 go_wp2_with fail
 go_loopw [3, 9] (fun n i wr => ∃ k : Nat, k ≤ c.kids.length ∧ i = .int .i64 k ∧ n = .int .i64 ((1 + nodesL (c.kids.take k) : Nat) : Int) ∧ Below w.heap.size w wr) (fun _ i _ => c.kids.length - (intOf i).toNat)
 case atStart => exact ⟨0, Nat.zero_le _, rfl, by simp [nodesL], (Below.refl _ _).alloc (Nat.le_refl _) _⟩
 case round =>
  obtain ⟨k, hk', rfl, rfl, hb⟩ := hrel
  obtain ⟨wo, rfl⟩ : ∃ wo : World, wo = wr := ⟨_, rfl⟩
  have hz := hb.size
  by_cases hlt : k < c.kids.length
  ·obtain ⟨g, off, kd, B, d, rfl, hg1, hg2, hkd, hmem, hrep, c0, c1, c2, c3, c4, c5⟩ := (hk.below hb hhi).kid hlt
   have hs := HH.out kd hmem
   have hbm := bulk_mem hmem
   have HS := Lib.hid (nodesL_snoc hkd)
   have hle := nodesL_take_le c.kids (k + 1)
   rw [nodesL_snoc hkd] at hle
   clear hkd
   go_wp2_with fail
   refine (hs _ _ _ _ (hrep.alloc (by omega) _) (by simp; omega) (by omega)).mono ?_; rintro e w1 ⟨rfl, hb1⟩
   have hb2 : Below w.heap.size w w1 := (hb.alloc hz _).trans (hb1.mono (by simp; omega))
   clear c0 c1 c2 c3 c4 c5 hrep hb1
   go_wp2_with fail
   go_roundw
   case rel => exact ⟨k + 1, by omega, by go_num, by rw [HS.out]; go_num, hb2⟩
   case measure => simp [intOf]; omega
  ·obtain rfl : k = c.kids.length := by omega
   rw [List.take_length]
   go_wp2_with fail
   go_ret
   exact ⟨ret_int (by rw [HN.out]), hb⟩
theorem impl_CountCore (c : CoreT) : CountOk 49 CoreT.nodes c := CoreT.ind impl_CountCore_of c
theorem impl_coreDepth_of (c : CoreT) (H : ∀ x ∈ c.kids, CountOk 50 CoreT.depth x) : CountOk 50 CoreT.depth c := by
 intro x w lo hi h hhi hbk
 obtain ⟨A, cap, rfl, hk, hc1, hc2⟩ := h.form
 unfold maxLen at hc2
 have HH := Lib.hid H
 have HN := Lib.hid c.depth_eq
 have hnb := nodes_le c
 have hbb : bulkL c.kids ≤ 1048576 := by rw [c.bulk_eq] at hbk; omega
 have hdl := fun k => Nat.le_trans (depthL_le (c.kids.take k)) (nodesL_take_le c.kids k)
 have hnn := c.nodes_eq
 have HD : Hid (∀ k, depthL (c.kids.take k) ≤ 1048577) := fun k => by have := hdl k; omega
 clear H h hdl hnn hnb
 go_enter Tryz.func50, Tryz.ntmps50
 go_wp2_with fail
 go_loopw [3, 9] (fun n i wr => ∃ k : Nat, k ≤ c.kids.length ∧ i = .int .i64 k ∧ n = .int .i64 (depthL (c.kids.take k)) ∧ Below w.heap.size w wr) (fun _ i _ => c.kids.length - (intOf i).toNat)
 case atStart => exact ⟨0, Nat.zero_le _, rfl, by simp [depthL], (Below.refl _ _).alloc (Nat.le_refl _) _⟩
 case round =>
  obtain ⟨k, hk', rfl, rfl, hb⟩ := hrel
  obtain ⟨wo, rfl⟩ : ∃ wo : World, wo = wr := ⟨_, rfl⟩
  have hz := hb.size
  have hd1 := HD.out k
  by_cases hlt : k < c.kids.length
  ·obtain ⟨g, off, kd, B, d, rfl, hg1, hg2, hkd, hmem, hrep, c0, c1, c2, c3, c4, c5⟩ := (hk.below hb hhi).kid hlt
   have hs := HH.out kd hmem
   have hbm := bulk_mem hmem
   have HS := Lib.hid (depthL_snoc hkd)
   clear hkd
   go_wp2_with fail
   refine (hs _ _ _ _ (hrep.alloc (by omega) _) (by simp; omega) (by omega)).mono ?_; rintro e w1 ⟨rfl, hb1⟩
   have hb2 : Below w.heap.size w w1 := (hb.alloc hz _).trans (hb1.mono (by simp; omega))
   clear c0 c1 c2 c3 c4 c5 hrep hb1
   by_cases hm : (depthL (c.kids.take k) : Int) < kd.depth
   ·go_wp2_with fail
    go_roundw
    case rel => exact ⟨k + 1, by omega, by go_num, by rw [HS.out]; first | (rw [Nat.max_eq_right (by omega)]; done) | (congr 1; omega), hb2⟩
    case measure => simp [intOf]; omega
   ·go_wp2_with fail
    go_roundw
    case rel => exact ⟨k + 1, by omega, by go_num, by rw [HS.out]; first | (rw [Nat.max_eq_left (by omega)]; done) | (congr 1; omega), hb2⟩
    case measure => simp [intOf]; omega
  ·obtain rfl : k = c.kids.length := by omega
   rw [List.take_length] at hd1 ⊢
   go_wp2_with fail
   go_ret
   exact ⟨ret_int (by rw [HN.out]; go_num), hb⟩
theorem impl_coreDepth (c : CoreT) : CountOk 50 CoreT.depth c := CoreT.ind impl_coreDepth_of c
theorem spec_CountCore_of (c : CoreT) (H : ∀ x ∈ c.kids, CountOk 39 CoreT.nodes x) : CountOk 39 CoreT.nodes c := by
 intro x w lo hi h hhi hbk
 obtain ⟨A, cap, rfl, hk, hc1, hc2⟩ := h.form
 unfold maxLen at hc2
 have HH := Lib.hid H
 have HN := Lib.hid c.nodes_eq
 have hnb := nodes_le c
 rw [c.nodes_eq] at hnb
 have hbb : bulkL c.kids ≤ 1048576 := by rw [c.bulk_eq] at hbk; omega
 clear H h
 go_enter Tryz.func39, Tryz.ntmps39
 go_wp2_with fail
 go_loopw [3, 4] (fun n i wr => ∃ k : Nat, k ≤ c.kids.length ∧ i = .int .i64 k ∧ n = .int .i64 ((1 + nodesL (c.kids.take k) : Nat) : Int) ∧ Below w.heap.size w wr ∧ Blk wr w.heap.size 45 #[.int .i64 c.kind, .int .i64 c.op, .int .i64 c.number, .int .i64 c.line, .string c.text, .slice A c.kids.length cap]) (fun _ i _ => c.kids.length - (intOf i).toNat)
 case atStart => exact ⟨0, Nat.zero_le _, rfl, by simp [nodesL], (Below.refl _ _).alloc (Nat.le_refl _) _, Blk.new w _ _⟩
 case round =>
  obtain ⟨k, hk', rfl, rfl, hb, ha⟩ := hrel
  obtain ⟨wo, rfl⟩ : ∃ wo : World, wo = wr := ⟨_, rfl⟩
  have hz := hb.size
  have ca := ha.cell 5
  simp only [List.getElem?_toArray, List.getElem?_cons_succ, List.getElem?_cons_zero] at ca
  by_cases hlt : k < c.kids.length
  ·obtain ⟨g, off, kd, B, d, rfl, hg1, hg2, hkd, hmem, hrep, c0, c1, c2, c3, c4, c5⟩ := (hk.below hb hhi).kid hlt
   have hs := HH.out kd hmem
   have hbm := bulk_mem hmem
   have HS := Lib.hid (nodesL_snoc hkd)
   have hle := nodesL_take_le c.kids (k + 1)
   rw [nodesL_snoc hkd] at hle
   clear hkd
   go_wp2_with fail
   refine (hs _ _ _ _ hrep (by omega) (by omega)).mono ?_; rintro e w1 ⟨rfl, hb1⟩
   have hb2 : Below w.heap.size w w1 := hb.trans (hb1.mono hz)
   have ha1 := ha.later hb1
   clear c0 c1 c2 c3 c4 c5 hrep hb1 ca ha
   go_wp2_with fail
   go_roundw
   case rel => exact ⟨k + 1, by omega, by go_num, by rw [HS.out]; go_num, hb2, ha1⟩
   case measure => simp [intOf]; omega
  ·obtain rfl : k = c.kids.length := by omega
   rw [List.take_length]
   go_wp2_with fail
   go_ret
   exact ⟨ret_int (by rw [HN.out]), hb⟩
theorem spec_CountCore (c : CoreT) : CountOk 39 CoreT.nodes c := CoreT.ind spec_CountCore_of c
end Go.Proofs.YtjeomamdlmoghaaGreatDoor
end
