/- NewCset and CsetText of the reference, isCsetText of the program. -/
import Derived.Test.YtekobbeoaalibaaGreatDoorCset
import Derived.Deep.RegionHeld3
namespace Go.Proofs.YtekobbeoaalibaaGreatDoor
open Go.RowKit

def csetTo (s : ByteArray) (k : Nat) : CsetT := (List.range k).foldl (fun c j => c.add (byteAt s j)) ⟨0#64, 0#64⟩
theorem csetTo_succ (s : ByteArray) (k : Nat) : csetTo s (k + 1) = (csetTo s k).add (byteAt s k) := by simp [csetTo, List.range_succ]
theorem csetTo_has (s : ByteArray) (j : Nat) (hj : j ≤ 127) : ∀ k, (∀ i, i < k → byteAt s i ≤ 127) → ((csetTo s k).has j = true ↔ ∃ i, i < k ∧ byteAt s i = j) := by
  intro k
  induction k with
  | zero => intro _; simp [csetTo, CsetT.has]
  | succ k ih =>
    intro h
    rw [csetTo_succ, CsetT.has_add _ _ _ (h k (by omega)) hj, Bool.or_eq_true, ih (fun i hi => h i (by omega)), decide_eq_true_eq]
    constructor
    · rintro (⟨i, hi, e⟩ | e)
      · exact ⟨i, by omega, e⟩
      · exact ⟨k, by omega, e.symm⟩
    · rintro ⟨i, hi, e⟩
      by_cases hk : i = k
      · subst hk; exact .inr e.symm
      · exact .inl ⟨i, by omega, e⟩
def asciiB (s : ByteArray) : Bool := (List.range s.size).all fun j => decide (byteAt s j ≤ 127)
theorem ascii_no {s : ByteArray} {k : Nat} (hk : k < s.size) (h : 127 < byteAt s k) : asciiB s = false := by
  unfold asciiB
  rw [List.all_eq_false]
  exact ⟨k, List.mem_range.2 hk, by simp; omega⟩
theorem ascii_yes {s : ByteArray} (h : ∀ j, j < s.size → byteAt s j ≤ 127) : asciiB s = true := by
  unfold asciiB
  rw [List.all_eq_true]
  exact fun j hj => decide_eq_true (h j (List.mem_range.1 hj))

def newCset (s : ByteArray) : CsetT := if asciiB s then csetTo s s.size else ⟨0#64, 0#64⟩
theorem newCset_no {s : ByteArray} (h : asciiB s = false) : newCset s = ⟨0#64, 0#64⟩ := by simp [newCset, h]
theorem newCset_yes {s : ByteArray} (h : asciiB s = true) : newCset s = csetTo s s.size := by simp [newCset, h]
/-- a struct result and a flag -/
def CsetPair (c : CsetT) (ok : Bool) (w : World) (e : Ending) (w' : World) : Prop := e = .returned (.tuple #[c.val, .bool ok]) ∧ Below w.heap.size w w'
set_option maxRecDepth 100000 in
set_option maxHeartbeats 1000000 in
theorem spec_NewCset (s : ByteArray) (w : World) (hs : s.size ≤ 1048576) :
    Calls Tryz.prog 113 #[.string s] w (CsetPair (newCset s) (asciiB s) w) := by
  go_enter Tryz.func113, Tryz.ntmps113
  go_wp2_with fail
  go_loopw [5] (fun i wr => ∃ k : Nat, k ≤ s.size ∧ i = .int .i64 k ∧ Hid (∀ j, j < k → byteAt s j ≤ 127) ∧ Blk wr w.heap.size 148 #[.int .i64 0, .int .i64 0] ∧ Blk wr (w.heap.size + 1) 148 #[.int .i64 (csetTo s k).lo.toInt, .int .i64 (csetTo s k).hi.toInt] ∧ Below w.heap.size w wr) (fun i _ => s.size - (intOf i).toNat)
  case atStart => exact ⟨0, Nat.zero_le _, rfl, (fun j hj => by omega), (Blk.new w _ _).alloc _, Blk.newAt _ _ _ _ (by simp), ((Below.refl _ _).alloc (Nat.le_refl _) _).alloc (by simp) _⟩
  case round =>
    obtain ⟨k, hk, rfl, hgo, hr, hc, hb⟩ := hrel
    obtain ⟨wo, rfl⟩ : ∃ wo : World, wo = wr := ⟨_, rfl⟩
    have hz := hb.size
    by_cases hlt : k < s.size
    · have HK := Lib.hid (byteAt_eq s k hlt)
      by_cases h7 : 127 < s[k].toNat
      · have HN := Lib.hid (ascii_no hlt (by rw [HK.out]; exact h7))
        have cr := hr.cell
        have fr := hr.frozen
        go_wp2_with fail
        refine bodyPost_ret (v := .tuple #[.agg #[.int .i64 0, .int .i64 0], .bool false]) ?_ rfl ⟨?_, ?_⟩
        · simp [results, Tryz.results113, go_sem, cr]
        · rw [newCset_no HN.out, HN.out]; rfl
        · exact (hb.setCell (p := ⟨w.heap.size, 0, none⟩) (Nat.le_refl _) _).setCell (p := ⟨w.heap.size, 1, none⟩) (Nat.le_refl _) _
      · have hb7 : s[k].toNat ≤ 127 := by omega
        have HG : Hid (∀ j, j < k + 1 → byteAt s j ≤ 127) := by
          intro j hj
          by_cases e : j = k
          · rw [e, HK.out]; exact hb7
          · exact hgo.out j (by omega)
        have HS := Lib.hid (csetTo_succ s k)
        have cc := hc.cell
        have e0 : (0 : Int) ≤ (k : Int) := by omega
        have e8 : (k : Int) < (s.size : Int) := by omega
        clear hgo
        go_wp2_with fail
        go_region_with (first
          | (go_at_call 134; refine (spec_l2Add (csetTo s k) s[k].toNat _ hb7).mono ?_; rintro e w1 ⟨rfl, hb1⟩; unfold CsetT.val; have cc1 := (hc.drew.later hb1).cell; have fc1 := (hc.drew.later hb1).frozen))
        all_goals
          have hr1 := hr.drew.later hb1
          have hc1 := hc.drew.later hb1
          have hb2 : Below w.heap.size w w1 := hb.drew.trans (hb1.mono hz)
          clear cc cc1 fc1
          go_wp2_with fail
          go_roundw
          case rel =>
            refine ⟨k + 1, by omega, by go_num, HG, (hr1.far (p := ⟨w.heap.size + 1, 0, none⟩) (by simp) _).far (p := ⟨w.heap.size + 1, 1, none⟩) (by simp) _, ?_, (hb2.setCell (p := ⟨w.heap.size + 1, 0, none⟩) (by simp) _).setCell (p := ⟨w.heap.size + 1, 1, none⟩) (by simp) _⟩
            rw [HS.out, HK.out]
            exact (hc1.set_ 0 _).set_ 1 _
          case measure => simp [intOf]; omega
    · obtain rfl : k = s.size := by omega
      have HY := Lib.hid (ascii_yes hgo.out)
      have cc := hc.cell
      have cr := hr.cell
      have fr := hr.frozen
      clear hgo
      go_wp2_with fail
      refine bodyPost_ret (v := .tuple #[(csetTo s s.size).val, .bool true]) ?_ rfl ⟨?_, ?_⟩
      · simp [results, Tryz.results113, go_sem, cr, CsetT.val]
      · rw [newCset_yes HY.out, HY.out]
      · exact (hb.setCell (p := ⟨w.heap.size, 0, none⟩) (Nat.le_refl _) _).setCell (p := ⟨w.heap.size, 1, none⟩) (Nat.le_refl _) _
end Go.Proofs.YtekobbeoaalibaaGreatDoor
