/- toCore, toCoreS of the laws. -/
import Derived.Test.YtppdelelgkepaaaDoorCore
namespace Go.Proofs.YtppdelelgkepaaaDoor
open Go.RowKit

theorem info_core : (Tryd.prog.info? 29).map (fun i => (i.zero, i.size, i.bytes)) = some (some (.agg #[.int .i64 0, .int .i64 0, .int .i64 0, .int .i64 0, .string ⟨#[]⟩, .slice none 0 0]), 6, 72) := by kernel_rfl
/-- the call hands back the tree c, in memory of its own -/
def OwnCore (c : CoreT) (w : World) (e : Ending) (w' : World) : Prop := ∃ x, e = .returned x ∧ CRep w' w.heap.size w'.heap.size x c ∧ Below w.heap.size w w'
def OwnCores (l : List CoreT) (w : World) (e : Ending) (w' : World) : Prop := ∃ v, e = .returned v ∧ KRep w' w.heap.size w'.heap.size v l ∧ Below w.heap.size w w'
def ToOk (c : CoreT) : Prop := ∀ (x : Value) (w : World) (lo hi : Nat), CRep w lo hi x c → hi ≤ w.heap.size → c.bulk ≤ 1048576 → Calls Tryd.prog 7 #[x] w (OwnCore c w)
theorem bulk_mem {l : List CoreT} {c : CoreT} (h : c ∈ l) : c.bulk ≤ bulkL l := by
  induction l with
  | nil => cases h
  | cons a l ih =>
    simp only [bulkL]
    rcases List.mem_cons.1 h with rfl | h
    · omega
    · have := ih h; omega
theorem bulk_kid {c x : CoreT} (h : x ∈ c.kids) : x.bulk ≤ c.bulk := by
  have := bulk_mem h
  rw [c.bulk_eq]; omega

set_option maxRecDepth 100000 in
set_option maxHeartbeats 1000000 in
theorem toCoreS_of (l : List CoreT) (H : ∀ c ∈ l, ToOk c) (v : Value) (w : World) (lo hi : Nat) (h : KRep w lo hi v l) (hhi : hi ≤ w.heap.size) (hl : l.length + bulkL l ≤ 1048576) :
    Calls Tryd.prog 15 #[v] w (OwnCores l w) := by
  obtain ⟨i0, hi0, hz0, hz1, hz2⟩ := info_parts info_core
  obtain ⟨A, c, rfl, hc1, hc2⟩ := h.shape
  unfold maxLen at hc2
  have HH := Lib.hid H
  clear H
  go_enter Tryd.func15, Tryd.ntmps15
  go_wp2_with (first | (at_make; refine wpList_make_full w rfl (.tmp 6) (.tmp 6) 27 rfl w.heap.size 29 i0 _ 6 Tryd.underlying27 hi0 hz0 hz1 .i64 .i64 _ _ l.length rfl rfl rfl rfl (by rw [hz2]; omega) (by unfold maxLen; omega) (Nat.le_refl _) ?_))
  intro w1 hown hg
  have hb := below_of_grown hg (Nat.le_refl w.heap.size) (fun g hg => by cases hg)
  have hz : w.heap.size + 1 ≤ w1.heap.size := (hown.lt _ rfl).2
  obtain ⟨Z, hown⟩ : ∃ Z, w1.ownsRow w.heap.size 29 6 (.slice (some ⟨w.heap.size, 0, none⟩) l.length l.length) l.length Z := ⟨_, hown⟩
  have HZ := Lib.hid hown.1
  clear hg
  go_wp2_with fail
  go_loopw [4] (fun i wr => ∃ (k : Nat) (vs : List Value), k ≤ l.length ∧ i = .int .i64 k ∧ wr.ownsRow w.heap.size 29 6 (.slice (some ⟨w.heap.size, 0, none⟩) l.length l.length) l.length (vs ++ Z.drop (k * 6)) ∧ RepL wr (w.heap.size + 1) wr.heap.size (coreDats (l.take k)) vs ∧ Below w.heap.size w wr ∧ w.heap.size + 1 ≤ wr.heap.size) (fun i _ => l.length - (intOf i).toNat)
  case atStart => exact ⟨0, [], Nat.zero_le _, rfl, by simpa using hown, .nil_, hb, hz⟩
  case round =>
    clear hown hb hz
    obtain ⟨k, vs, hk, rfl, hown, hrep, hb, hz⟩ := hrel
    obtain ⟨wo, rfl⟩ : ∃ wo : World, wo = wr := ⟨_, rfl⟩
    have hvs : vs.length = k * 6 := by rw [hrep.len, coreDats_len, List.length_take]; omega
    have HV := Lib.hid hvs
    clear hvs
    by_cases hlt : k < l.length
    · obtain ⟨g, off, kd, B, d, rfl, hg1, hg2, hkd, hmem, hkrep, c0, c1, c2, c3, c4, c5⟩ := (h.below hb hhi).kid hlt
      have hs := HH.out kd hmem
      have hbk := bulk_mem hmem
      have HD := Lib.hid (take_snoc_of hkd)
      clear hkd
      go_wp2_with fail
      refine (hs _ _ _ _ hkrep (by omega) (by omega)).mono ?_; rintro e w1 ⟨x, rfl, hx, hb1⟩
      obtain ⟨B', d', rfl, hkx, -, -⟩ := hx.form
      have z1 := hb1.size
      have hown1 := own_later hown hb1
      have hrep1 := (hrep.below hb1 (Nat.le_refl _)).wide (Nat.le_refl _) z1
      have hb2 := hb.trans (hb1.mono (by omega))
      have hxr := hx.wide (lo' := w.heap.size + 1) (hi' := w1.heap.size) (by omega) (Nat.le_refl _)
      clear hown hrep hx hb1 hkx hb c0 c1 c2 c3 c4 c5 hkrep
      obtain ⟨⟨q0, d0⟩, f0⟩ := own_at hown1 (k * 6) (by omega)
      obtain ⟨⟨q1, d1⟩, f1⟩ := own_at hown1 (k * 6 + 1) (by omega)
      obtain ⟨⟨q2, d2⟩, f2⟩ := own_at hown1 (k * 6 + 2) (by omega)
      obtain ⟨⟨q3, d3⟩, f3⟩ := own_at hown1 (k * 6 + 3) (by omega)
      obtain ⟨⟨q4, d4⟩, f4⟩ := own_at hown1 (k * 6 + 4) (by omega)
      obtain ⟨⟨q5, d5⟩, f5⟩ := own_at hown1 (k * 6 + 5) (by omega)
      have own2 := own_putAll [.int .i64 kd.kind, .int .i64 kd.op, .int .i64 kd.number, .int .i64 kd.line, .string kd.text, .slice B' kd.kids.length d'] _ _ (k * 6) hown1
      rw [setAll_fill _ _ _ HV.out (by rw [HZ.out]; simp; omega)] at own2
      obtain ⟨cs, hcs, hxr⟩ := hxr
      obtain rfl : cs = [_, _, _, _, _, _] := (congrArg Array.toList (Value.agg.inj hcs)).symm
      have rep2 := RepL.putAll (g := w.heap.size) (.inl (Nat.lt_succ_self _)) [.int .i64 kd.kind, .int .i64 kd.op, .int .i64 kd.number, .int .i64 kd.line, .string kd.text, .slice B' kd.kids.length d'] _ (k * 6) (hrep1.app hxr)
      have bel2 := below_putAll (Nat.le_refl w.heap.size) [.int .i64 kd.kind, .int .i64 kd.op, .int .i64 kd.number, .int .i64 kd.line, .string kd.text, .slice B' kd.kids.length d'] _ _ (k * 6) hb2
      have siz2 := putAll_size w.heap.size [.int .i64 kd.kind, .int .i64 kd.op, .int .i64 kd.number, .int .i64 kd.line, .string kd.text, .slice B' kd.kids.length d'] w1 (k * 6)
      simp only [putAll, Nat.add_assoc, Nat.reduceAdd, List.length_cons, List.length_nil] at own2 rep2 bel2 siz2
      have O2 := Lib.hid own2
      have R2 := Lib.hid rep2
      have S2 := Lib.hid siz2
      clear own2 rep2 hown1 hrep1 siz2 hcs hxr
      go_wp2_with fail
      go_roundw
      case rel =>
        refine ⟨k + 1, vs ++ [.int .i64 kd.kind, .int .i64 kd.op, .int .i64 kd.number, .int .i64 kd.line, .string kd.text, .slice B' kd.kids.length d'], by omega, by go_num, ?_, ?_, bel2, by rw [S2.out]; omega⟩
        · rw [Nat.succ_mul]; exact O2.out
        · rw [HD.out, coreDats_app, S2.out]; simpa [coreDats] using R2.out
      case measure => simp [intOf]; omega
    · obtain rfl : k = l.length := by omega
      rw [List.take_length] at hrep
      go_wp2_with fail
      go_ret
      rw [List.drop_eq_nil_of_le (by rw [HZ.out]; exact Nat.le_refl _), List.append_nil] at hown
      exact ⟨_, rfl, Rep.mkRow ((Rds.of_own hown)) (hrep.wide (by omega) (Nat.le_refl _)), hb⟩

set_option maxRecDepth 100000 in
set_option maxHeartbeats 1000000 in
theorem toCore_of (c : CoreT) (H : ∀ x ∈ c.kids, ToOk x) : ToOk c := by
  intro x w lo hi h hhi hbk
  obtain ⟨A, cap, rfl, hk, -, -⟩ := h.form
  have HK := Lib.hid (toCoreS_of c.kids H)
  have hbd : c.kids.length + bulkL c.kids ≤ 1048576 := by rw [c.bulk_eq] at hbk; omega
  clear H hbk h
  go_enter Tryd.func7, Tryd.ntmps7
  go_wp2_with fail
  refine (HK.out _ _ _ _ (((hk.alloc hhi _).alloc (by simp; omega) _).alloc (by simp; omega) _) (by simp; omega) hbd).mono ?_; rintro e w1 ⟨v1, rfl, hk1, hb1⟩
  obtain ⟨A1, c1, rfl, -, -⟩ := hk1.shape
  have hz1 : w.heap.size + 3 ≤ w1.heap.size := by have := hb1.size; simp at this; omega
  have hw1 : Below w.heap.size w w1 := ((((Below.refl _ _).alloc (Nat.le_refl _) _).alloc (by simp) _).alloc (by simp; omega) _).trans (hb1.mono (by simp; omega))
  have hr1 : KRep w1 (w.heap.size + 3) w1.heap.size (.slice A1 c.kids.length c1) c.kids := hk1.wide (by simp) (Nat.le_refl _)
  have r1 : Blk w1 (w.heap.size + 1) 29 #[.int .i64 0, .int .i64 0, .int .i64 0, .int .i64 0, .string ⟨#[]⟩, .slice none 0 0] := ((Blk.newAt _ _ _ _ (by simp)).alloc _).later hb1
  have o1 : Blk w1 (w.heap.size + 1 + 1) 29 #[.int .i64 c.kind, .int .i64 c.op, .int .i64 c.number, .int .i64 c.line, .string c.text, .slice none 0 0] := (Blk.newAt _ _ _ _ (by simp)).later hb1
  clear hk1 hb1
  have co1 := o1.cell
  have fo1 := o1.frozen
  have cr1 := r1.cell
  have fr1 := r1.frozen
  go_wp2_with fail
  refine bodyPost_ret (v := .agg #[.int .i64 c.kind, .int .i64 c.op, .int .i64 c.number, .int .i64 c.line, .string c.text, .slice A1 c.kids.length c1]) ?_ rfl ⟨_, rfl, CRep.mk_ ?_, ?_⟩
  · simp [results, Tryd.results7, go_sem, cr1]
  · refine KRep.wide (lo := w.heap.size + 3) (hi := w1.heap.size) ?_ (by omega) (by simp [World.setCell])
    unfold KRep
    iterate 6 refine Rep.setFar ?_ (.inl (by simp)) _
    exact Rep.setFar hr1 (.inl (by simp)) _
  · iterate 6 refine Below.setCell ?_ (by simp) _
    exact Below.setCell hw1 (by simp; omega) _
theorem toCore_any (c : CoreT) : ToOk c := CoreT.ind toCore_of c
end Go.Proofs.YtppdelelgkepaaaDoor
