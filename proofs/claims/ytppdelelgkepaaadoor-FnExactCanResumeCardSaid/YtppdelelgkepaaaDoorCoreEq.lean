/- eqCore, eqCoreS of the laws at two values that read as one tree: true. -/
import Derived.Test.YtppdelelgkepaaaDoorCore
import Derived.Deep.RegionHeld3
namespace Go.Proofs.YtppdelelgkepaaaDoor
open Go.RowKit

def EqOk (c : CoreT) : Prop := ∀ (x y : Value) (w : World) (lo hi lo' hi' : Nat), CRep w lo hi x c → CRep w lo' hi' y c → hi ≤ w.heap.size → hi' ≤ w.heap.size →
  Calls Tryd.prog 9 #[x, y] w fun e w' => e = .returned (.bool true) ∧ Below w.heap.size w w'

set_option maxRecDepth 100000 in
set_option maxHeartbeats 1000000 in
theorem eqCoreS_of (l : List CoreT) (H : ∀ c ∈ l, EqOk c) (v u : Value) (w : World) (lo hi lo' hi' : Nat) (h : KRep w lo hi v l) (h' : KRep w lo' hi' u l) (hhi : hi ≤ w.heap.size) (hhi' : hi' ≤ w.heap.size) :
    Calls Tryd.prog 18 #[v, u] w fun e w' => e = .returned (.bool true) ∧ Below w.heap.size w w' := by
  obtain ⟨A, c, rfl, hc1, hc2⟩ := h.shape
  obtain ⟨A', c', rfl, hc1', hc2'⟩ := h'.shape
  unfold maxLen at hc2 hc2'
  have HH := Lib.hid H
  have hne : ((l.length : Int) != (l.length : Int)) = false := by simp
  clear H
  go_enter Tryd.func18, Tryd.ntmps18
  go_wp2_with fail
  go_loopw [5] (fun i wr => ∃ k : Nat, k ≤ l.length ∧ i = .int .i64 k ∧ Below w.heap.size w wr) (fun i _ => l.length - (intOf i).toNat)
  case atStart => exact ⟨0, Nat.zero_le _, rfl, Below.refl _ _⟩
  case round =>
    obtain ⟨k, hk, rfl, hb⟩ := hrel
    obtain ⟨wo, rfl⟩ : ∃ wo : World, wo = wr := ⟨_, rfl⟩
    have hz := hb.size
    by_cases hlt : k < l.length
    · obtain ⟨g, off, kd, B, d, rfl, hg1, hg2, hkd, hmem, hrep, c0, c1, c2, c3, c4, c5⟩ := (h.below hb hhi).kid hlt
      obtain ⟨g', off', kd', B', d', rfl, hg1', hg2', hkd', hmem', hrep', c0', c1', c2', c3', c4', c5'⟩ := (h'.below hb hhi').kid hlt
      obtain rfl : kd' = kd := Option.some.inj (hkd'.symm.trans hkd)
      have hs := HH.out kd' hmem
      have e0 : (0 : Int) ≤ (k : Int) := by omega
      have e8 : (k : Int) < (l.length : Int) := by omega
      have y1 : hi ≤ wo.drew.heap.size := Nat.le_trans hhi hz
      have y2 : hi' ≤ wo.drew.heap.size := Nat.le_trans hhi' hz
      clear hkd hkd'
      go_wp2_with fail
      go_region_held3 (fun w' => (w'.cell? ⟨g, off + k * 6, none⟩ = some (.int .i64 kd'.kind) ∧ w'.cell? ⟨g, off + k * 6 + 1, none⟩ = some (.int .i64 kd'.op) ∧ w'.cell? ⟨g, off + k * 6 + 2, none⟩ = some (.int .i64 kd'.number) ∧ w'.cell? ⟨g, off + k * 6 + 3, none⟩ = some (.int .i64 kd'.line) ∧ w'.cell? ⟨g, off + k * 6 + 4, none⟩ = some (.string kd'.text) ∧ w'.cell? ⟨g, off + k * 6 + 5, none⟩ = some (.slice B kd'.kids.length d)) ∧ (w'.cell? ⟨g', off' + k * 6, none⟩ = some (.int .i64 kd'.kind) ∧ w'.cell? ⟨g', off' + k * 6 + 1, none⟩ = some (.int .i64 kd'.op) ∧ w'.cell? ⟨g', off' + k * 6 + 2, none⟩ = some (.int .i64 kd'.number) ∧ w'.cell? ⟨g', off' + k * 6 + 3, none⟩ = some (.int .i64 kd'.line) ∧ w'.cell? ⟨g', off' + k * 6 + 4, none⟩ = some (.string kd'.text) ∧ w'.cell? ⟨g', off' + k * 6 + 5, none⟩ = some (.slice B' kd'.kids.length d')))
        (first | exact ⟨⟨c0, c1, c2, c3, c4, c5⟩, c0', c1', c2', c3', c4', c5'⟩ | exact ⟨⟨(hbA.cell (Nat.lt_of_lt_of_le hg2 y1)).trans c0, (hbA.cell (Nat.lt_of_lt_of_le hg2 y1)).trans c1, (hbA.cell (Nat.lt_of_lt_of_le hg2 y1)).trans c2, (hbA.cell (Nat.lt_of_lt_of_le hg2 y1)).trans c3, (hbA.cell (Nat.lt_of_lt_of_le hg2 y1)).trans c4, (hbA.cell (Nat.lt_of_lt_of_le hg2 y1)).trans c5⟩, (hbA.cell (Nat.lt_of_lt_of_le hg2' y2)).trans c0', (hbA.cell (Nat.lt_of_lt_of_le hg2' y2)).trans c1', (hbA.cell (Nat.lt_of_lt_of_le hg2' y2)).trans c2', (hbA.cell (Nat.lt_of_lt_of_le hg2' y2)).trans c3', (hbA.cell (Nat.lt_of_lt_of_le hg2' y2)).trans c4', (hbA.cell (Nat.lt_of_lt_of_le hg2' y2)).trans c5'⟩)
        ((go_at_call 9; refine (hs _ _ _ _ _ _ _ (hrep.same (Same.refl _).drew) (hrep'.same (Same.refl _).drew) y1 y2).mono ?_; rintro e wA ⟨rfl, hbA⟩))
      have hb2 : Below w.heap.size w wA := hb.drew.trans (hbA.mono hz)
      clear c0 c1 c2 c3 c4 c5 c0' c1' c2' c3' c4' c5' hrep hrep'
      go_wp2_with fail
      go_roundw
      case rel => exact ⟨k + 1, by omega, by go_num, hb2⟩
      case measure => simp [intOf]; omega
    · obtain rfl : k = l.length := by omega
      go_wp2_with fail
      go_ret
      exact ⟨rfl, hb⟩

set_option maxRecDepth 100000 in
set_option maxHeartbeats 1000000 in
theorem eqCore_of (c : CoreT) (H : ∀ x ∈ c.kids, EqOk x) : EqOk c := by
  intro x y w lo hi lo' hi' h h' hhi hhi'
  obtain ⟨A, cap, rfl, hk, -, -⟩ := h.form
  obtain ⟨A', cap', rfl, hk', -, -⟩ := h'.form
  have HK := Lib.hid (eqCoreS_of c.kids H)
  have b0 : (c.kind != c.kind) = false := by simp
  have b1 : (c.op != c.op) = false := by simp
  have b2 : (c.number != c.number) = false := by simp
  have b3 : (c.line != c.line) = false := by simp
  have b4 := str_eq c.text
  clear H h h'
  go_enter Tryd.func9, Tryd.ntmps9
  go_wp2_with fail
  refine (HK.out _ _ _ _ _ _ _ ((hk.alloc hhi _).alloc (by simp; omega) _) ((hk'.alloc hhi' _).alloc (by simp; omega) _) (by simp; omega) (by simp; omega)).mono ?_; rintro e w1 ⟨rfl, hb1⟩
  go_wp2_with fail
  go_ret
  exact ⟨rfl, (((Below.refl _ _).alloc (Nat.le_refl _) _).alloc (by simp) _).trans (hb1.mono (by simp; omega))⟩
theorem eqCore_any (c : CoreT) : EqOk c := CoreT.ind eqCore_of c
end Go.Proofs.YtppdelelgkepaaaDoor
