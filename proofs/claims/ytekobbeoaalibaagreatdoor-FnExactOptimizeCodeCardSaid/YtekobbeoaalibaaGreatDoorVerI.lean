/- The program's verifier: give, need, cutEnd, isRoutineShape, slotsOf. -/
import Derived.Test.YtekobbeoaalibaaGreatDoorProg
import Derived.Test.YtekobbeoaalibaaGreatDoorVerMem
import Derived.Test.YtekobbeoaalibaaGreatDoorShelf
import Derived.Deep.DeepCutAuto
import Derived.Deep.CutBlock
namespace Go.Proofs.YtekobbeoaalibaaGreatDoor
open Go.RowKit
set_option linter.unusedVariables false

theorem info_wk : (Tryz.prog.info? 3).map (fun i => (i.zero, i.size, i.bytes)) = some (some (.int .i64 0), 1, 8) := by kernel_rfl
section
variable {w0 wr : World} {n b ni : Nat} {v0 v1 v2 v3 : Value} {Ai : Option Addr} {E : Boxes} {q : St × Bool} {sv tv : Value}
set_option maxRecDepth 100000 in
theorem impl_need (h : VB w0 wr n b v0 v1 v2 v3 Ai ni E q sv tv) (ok : Bool) :
    Calls Tryz.prog 92 #[.pointer (some ⟨b, 0, none⟩), .bool ok] wr fun e w' => e = .returned (.tuple #[]) ∧ VPost w0 n b v0 v1 v2 v3 Ai ni E (q.1, q.2 || !ok) w' := by
  have ca := h.box.cell
  have la := h.box.lt
  have cf := h.box.frozen
  cases ok with
  | true =>
    go_enter Tryz.func92, Tryz.ntmps92
    go_wp2_with fail
    go_end0
    exact ⟨rfl, sv, tv, by simpa using h⟩
  | false =>
    go_enter Tryz.func92, Tryz.ntmps92
    go_wp2_with fail
    go_end0
    exact ⟨rfl, sv, tv, by simpa using h.bad⟩
set_option maxRecDepth 100000 in
theorem impl_give (h : VB w0 wr n b v0 v1 v2 v3 Ai ni E q sv tv) (hI : Inv n q.1) (hn : 0 < n) (hn2 : n ≤ 60000) (p : Int) (s : ByteArray) (hs : 0 < s.size) :
    Calls Tryz.prog 51 #[.pointer (some ⟨b, 0, none⟩), .int .i64 p, .string s] wr fun e w' => e = .returned (.tuple #[]) ∧ VPost w0 n b v0 v1 v2 v3 Ai ni E (giveP q p s) w' := by
  have hlen := h.rows.len
  have hroom := hI.room
  have HL := Lib.hid hlen
  obtain ⟨g, cap, rfl, hg1, hg2, hc1, hc2⟩ := h.rows.form hn
  unfold maxLen at hc2
  have ca := h.box.cell
  have la := h.box.lt
  have cf := h.box.frozen
  have hs0 : ¬ s.size = 0 := by omega
  by_cases hp0 : p < 0
  · have HP : Hid (giveP q p s = (q.1, true)) := by
      show _ = _
      unfold giveP reach
      rw [if_neg hs0, if_pos (.inl hp0)]
    clear hlen
    go_enter Tryz.func51, Tryz.ntmps51
    go_wp2_with fail
    go_end0
    exact ⟨rfl, _, tv, by rw [HP.out]; exact h.bad⟩
  by_cases hp1 : (n : Int) ≤ p
  · have HP : Hid (giveP q p s = (q.1, true)) := by
      show _ = _
      unfold giveP reach
      rw [if_neg hs0, if_pos (.inr (by omega))]
    clear hlen
    go_enter Tryz.func51, Tryz.ntmps51
    go_wp2_with fail
    go_end0
    exact ⟨rfl, _, tv, by rw [HP.out]; exact h.bad⟩
  obtain ⟨k, rfl⟩ : ∃ k : Nat, p = k := ⟨p.toNat, by omega⟩
  have hk : k < n := by omega
  have q0 := h.rows.cell hk
  have qf := h.rows.frozen k
  by_cases he : (q.1.at_ k).size = 0
  · have HP : Hid (giveP q (k : Int) s = (⟨q.1.sh.set k s, q.1.wk ++ [k]⟩, q.2)) := by
      show _ = _
      unfold giveP reach
      rw [if_neg hs0, if_neg (by omega), Int.toNat_natCast, if_pos he]
    have i1 := eEmpty he
    clear hlen he
    go_enter Tryz.func51, Tryz.ntmps51
    go_upto_region 4 with (fail)
    have h2 := h.setSh s k
    generalize wr.setCell ⟨g, k, none⟩ (.string s) = w2 at h2 ⊢
    clear ca la cf q0 qf i1
    have ca := h2.box.cell
    have la := h2.box.lt
    have cf := h2.box.frozen
    go_wp2_with (first | (at_builtin; refine wpList_push rfl (.tmp 42) (.tmp 44) 72 rfl 3 _ 1 8 info_wk Tryz.underlying72 rfl (by decide) (by decide) w0.heap.size _ _ _ rfl h2.rows.tdo #[.int .i64 (k : Int)] 1 _ rfl rfl (by simp [Value.oneCell']) (by simp; omega) h2.rows.bel.size ?_))
    rintro tv' w3 hown hgrow hat
    have b3 := h2.box.grown hgrow (Ne.symm h2.f2)
    have h4 := h2.push hown hgrow hat
    obtain ⟨g', cap', rfl, -⟩ := hown.form (by omega)
    clear ca la cf
    have ca := b3.cell
    have la := b3.lt
    have cf := b3.frozen
    clear hown hgrow hat b3
    go_wp2_with fail
    go_end0
    exact ⟨rfl, _, _, by rw [HP.out]; exact h4⟩
  · by_cases hq : q.1.at_ k = s
    · have HP : Hid (giveP q (k : Int) s = q) := by
        show _ = _
        unfold giveP reach
        rw [if_neg hs0, if_neg (by omega), Int.toNat_natCast, if_neg he, if_pos hq]
      have i1 := eFull he
      have hb := str_eq s
      rw [hq] at q0 i1
      clear hlen he hq
      go_enter Tryz.func51, Tryz.ntmps51
      go_wp2_with fail
      go_end0
      exact ⟨rfl, _, tv, by rw [HP.out]; exact h⟩
    · have HP : Hid (giveP q (k : Int) s = (q.1, true)) := by
        show _ = _
        unfold giveP reach
        rw [if_neg hs0, if_neg (by omega), Int.toNat_natCast, if_neg he, if_neg hq]
      have i1 := eFull he
      have hb := str_ne hq
      clear hlen he hq
      go_enter Tryz.func51, Tryz.ntmps51
      go_wp2_with fail
      go_end0
      exact ⟨rfl, _, tv, by rw [HP.out]; exact h.bad⟩
set_option maxRecDepth 100000 in
theorem impl_cutEnd (h : VB w0 wr n b v0 v1 v2 v3 Ai ni E q sv tv) (s t : ByteArray) (hs : 0 < s.size) (hs2 : s.size ≤ 1048576) :
    Calls Tryz.prog 94 #[.pointer (some ⟨b, 0, none⟩), .string s, .string t] wr fun e w' => e = .returned (.string (cutE s t)) ∧ VPost w0 n b v0 v1 v2 v3 Ai ni E (q.1, q.2 || !endsB s t) w' := by
  have ca := h.box.cell
  have la := h.box.lt
  have cf := h.box.frozen
  have HE := Lib.hid (ends_tail (t := t) hs)
  cases he : endsB s t with
  | true =>
    have hz := ends_size he
    have HC : Hid (cutE s t = cutN s t.size) := by show _ = _; rw [cutE, if_pos he]
    have HT := Lib.hid he
    clear he
    go_enter Tryz.func94, Tryz.ntmps94
    go_wp2_with fail
    refine (Tryz.strings_HasSuffix _ _ _ (by simp; omega)).mono ?_; rw [HE.out, HT.out]; rintro e w1 ⟨rfl, rfl⟩
    go_wp2_with fail
    go_ret
    exact ⟨ret_string HC.out.symm, sv, tv, by simpa using h⟩
  | false =>
    have HC : Hid (cutE s t = s) := by show _ = _; rw [cutE, he]; rfl
    have HT := Lib.hid he
    clear he
    go_enter Tryz.func94, Tryz.ntmps94
    go_wp2_with fail
    refine (Tryz.strings_HasSuffix _ _ _ (by simp; omega)).mono ?_; rw [HE.out, HT.out]; rintro e w1 ⟨rfl, rfl⟩
    go_wp2_with fail
    go_ret
    exact ⟨ret_string HC.out.symm, sv, tv, by simpa using h.bad⟩
end
theorem head_at {s : ByteArray} (h : 0 < s.size) : s[0].toNat = headN s := (byteAt_eq s 0 h).symm
set_option maxRecDepth 100000 in
theorem impl_isRoutineShape (s : ByteArray) (w : World) (hg : goodB s = true) :
    Calls Tryz.prog 97 #[.string s] w fun e w' => e = .returned (.bool (routB s)) ∧ w = w' := by
  have hz := good_size hg
  have HH := Lib.hid (head_at hz)
  clear hg
  go_enter Tryz.func97, Tryz.ntmps97
  go_wp2_with fail
  go_ret
  exact ⟨ret_bool (by rw [routB, ← HH.out]; rw [Bool.eq_iff_iff]; simp; omega), rfl⟩
set_option maxRecDepth 100000 in
theorem impl_slotsOf (s : ByteArray) (w : World) (hg : goodB s = true) :
    Calls Tryz.prog 93 #[.string s] w fun e w' => e = .returned (.int .i64 (slotsN s)) ∧ w = w' := by
  have hz := good_size hg
  have HC := Lib.hid (fun w => impl_isRoutineShape s w hg)
  have hh := head_at hz
  have hb : (65 ≤ s[0].toNat ∧ s[0].toNat ≤ 89) ∨ (97 ≤ s[0].toNat ∧ s[0].toNat ≤ 121) := by rw [hh]; unfold goodB at hg; simp at hg; omega
  have HS : Hid (slotsN s = if s[0].toNat ≤ 90 then s[0].toNat - 65 else s[0].toNat - 97) := by show _ = _; rw [slotsN, hh]
  have HR : Hid (routB s = decide (s[0].toNat ≤ 90)) := by show _ = _; rw [routB, hh]
  clear hg hh
  rcases hb with ⟨h1, h2⟩ | ⟨h1, h2⟩
  · go_enter Tryz.func93, Tryz.ntmps93
    go_wp2_with fail
    refine (HC.out _).mono ?_; rw [HR.out, decide_eq_true (by omega)]; rintro e w1 ⟨rfl, rfl⟩
    go_wp2_with fail
    go_ret
    exact ⟨ret_int (by rw [HS.out, if_pos (by omega)]; omega), rfl⟩
  · go_enter Tryz.func93, Tryz.ntmps93
    go_wp2_with fail
    refine (HC.out _).mono ?_; rw [HR.out, decide_eq_false (by omega)]; rintro e w1 ⟨rfl, rfl⟩
    go_wp2_with fail
    go_ret
    exact ⟨ret_int (by rw [HS.out, if_neg (by omega)]; omega), rfl⟩
end Go.Proofs.YtekobbeoaalibaaGreatDoor
