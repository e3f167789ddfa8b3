/- The reference's verifier: l30Ends, l30Mark, l30Slots, l30Reach. -/
import Derived.Test.YtekobbeoaalibaaGreatDoorProg
import Derived.Test.YtekobbeoaalibaaGreatDoorVerMem
import Derived.Deep.DeepCutAuto
import Derived.Deep.CutBlock
namespace Go.Proofs.YtekobbeoaalibaaGreatDoor
open Go.RowKit
set_option linter.unusedVariables false

theorem info_wkS : (Tryz.prog.info? 3).map (fun i => (i.zero, i.size, i.bytes)) = some (some (.int .i64 0), 1, 8) := by kernel_rfl
set_option maxRecDepth 100000 in
theorem spec_l30Ends (s t : ByteArray) (w : World) (hs : s.size ≤ 1048576) (ht : t.size ≤ 1048576) :
    Calls Tryz.prog 85 #[.string s, .string t] w fun e w' => e = .returned (.bool (endsB s t)) ∧ w = w' := by
  by_cases hl : t.size < s.size
  · have HE := Lib.hid (ends_drop hl)
    go_enter Tryz.func85, Tryz.ntmps85
    go_wp2_with fail
    go_ret
    exact ⟨ret_bool (by rw [← HE.out]), rfl⟩
  · have HE : Hid (endsB s t = false) := by show _ = _; unfold endsB; rw [decide_eq_false hl]; rfl
    have hd : decide (t.size < s.size) = false := decide_eq_false hl
    go_enter Tryz.func85, Tryz.ntmps85
    go_wp2_with fail
    go_ret
    exact ⟨ret_bool HE.out.symm, rfl⟩
theorem ret_ib {k : IntKind} {a b : Int} {p q : Bool} (h : a = b) (h' : p = q) : Ending.returned (.tuple #[.int k a, .bool p]) = .returned (.tuple #[.int k b, .bool q]) := by rw [h, h']
theorem head_atS {s : ByteArray} (h : 0 < s.size) : s[0].toNat = headN s := (byteAt_eq s 0 h).symm
set_option maxRecDepth 100000 in
theorem spec_l30Slots (s : ByteArray) (w : World) (hg : goodB s = true) :
    Calls Tryz.prog 84 #[.string s] w fun e w' => e = .returned (.tuple #[.int .i64 (slotsN s), .bool (routB s)]) ∧ w = w' := by
  have hz := good_size hg
  have hh := head_atS hz
  have hb : (65 ≤ s[0].toNat ∧ s[0].toNat ≤ 89) ∨ (97 ≤ s[0].toNat ∧ s[0].toNat ≤ 121) := by rw [hh]; unfold goodB at hg; simp at hg; omega
  have HS : Hid (slotsN s = if s[0].toNat ≤ 90 then s[0].toNat - 65 else s[0].toNat - 97) := by show _ = _; rw [slotsN, hh]
  have HR : Hid (routB s = decide (s[0].toNat ≤ 90)) := by show _ = _; rw [routB, hh]
  clear hg hh
  rcases hb with ⟨h1, h2⟩ | ⟨h1, h2⟩
  · have HS1 : Hid ((s[0].toNat : Int) - 65 = (slotsN s : Int)) := by show _ = _; rw [HS.out, if_pos (by omega)]; omega
    have HR1 : Hid (routB s = true) := by show _ = _; rw [HR.out, decide_eq_true (by omega)]
    clear HS HR
    go_enter Tryz.func84, Tryz.ntmps84
    go_wp2_with fail
    go_ret2
    exact ⟨ret_ib HS1.out HR1.out.symm, rfl⟩
  · have HS1 : Hid ((s[0].toNat : Int) - 97 = (slotsN s : Int)) := by show _ = _; rw [HS.out, if_neg (by omega)]; omega
    have HR1 : Hid (routB s = false) := by show _ = _; rw [HR.out, decide_eq_false (by omega)]
    clear HS HR
    go_enter Tryz.func84, Tryz.ntmps84
    go_wp2_with fail
    go_ret2
    exact ⟨ret_ib HS1.out HR1.out.symm, rfl⟩
/-- the place of the last mark, or -1 -/
def markP (s : ByteArray) : Int := if markI s < 0 then -1 else markI s + 1
theorem tail_byte {s : ByteArray} {k : Nat} (hk : k + 1 < s.size) : ((s.extract 1 s.size).data[k]!).toNat = byteAt s (k + 1) := by
  have h0 : k + 1 < s.data.toList.length := by rw [← Lib.size_eq]; exact hk
  have h1 : (s.extract 1 s.size).data[k]? = some s.data.toList[k + 1] := by
    rw [← Array.getElem?_toList, Lib.extract_data, List.getElem?_take, if_pos (by omega), List.getElem?_drop, Nat.add_comm 1 k, List.getElem?_eq_getElem h0]
  rw [getElem!_def, h1, byteAt, List.getD, List.getElem?_eq_getElem h0]
  rfl
theorem mark_hit {s : ByteArray} {k : Nat} (hk : k + 1 < s.size) (hr : markI s = Lib.lastIdx (s.extract 1 s.size) 109 (k + 1)) (hb : byteAt s (k + 1) = 109) : markP s = (k : Int) + 1 := by
  have h := Lib.lastIdx_hit (s.extract 1 s.size) 109 k (by rw [tail_byte hk, hb]; rfl)
  unfold markP
  rw [hr, h, if_neg (by omega)]
theorem mark_miss {s : ByteArray} {k : Nat} (hk : k + 1 < s.size) (hr : markI s = Lib.lastIdx (s.extract 1 s.size) 109 (k + 1)) (hb : byteAt s (k + 1) ≠ 109) : markI s = Lib.lastIdx (s.extract 1 s.size) 109 k := by
  rw [hr]
  exact Lib.lastIdx_miss (s.extract 1 s.size) 109 k (by rw [tail_byte hk]; omega)
theorem mark_end {s : ByteArray} (hr : markI s = Lib.lastIdx (s.extract 1 s.size) 109 0) : markP s = -1 := by unfold markP; rw [hr]; rfl
set_option maxRecDepth 100000 in
set_option maxHeartbeats 1000000 in
theorem spec_l30Mark (s : ByteArray) (w : World) (hz : 0 < s.size) (hs : s.size ≤ 1048576) :
    Calls Tryz.prog 86 #[.string s] w fun e w' => e = .returned (.int .i64 (markP s)) ∧ w = w' := by
  have HM : Hid (markI s = Lib.lastIdx (s.extract 1 s.size) 109 (s.size - 1)) := by show _ = _; unfold markI Lib.lastIndexByte; rw [show (s.extract 1 s.size).size = s.size - 1 by simp]
  go_enter Tryz.func86, Tryz.ntmps86
  go_wp2_with fail
  go_loop [3] (fun i => ∃ k : Nat, k < s.size ∧ i = .int .i64 k ∧ Hid (markI s = Lib.lastIdx (s.extract 1 s.size) 109 k)) (fun i => (intOf i).toNat)
  case atStart => exact ⟨s.size - 1, by omega, by congr 1; omega, HM⟩
  case round =>
    obtain ⟨k, hk, rfl, hr⟩ := hrel
    by_cases h0 : 0 < k
    · obtain ⟨j, rfl⟩ : ∃ j, k = j + 1 := ⟨k - 1, by omega⟩
      have hby := byteAt_eq s (j + 1) hk
      by_cases hb : byteAt s (j + 1) = 109
      · have HP := Lib.hid (mark_hit hk hr.out hb)
        have hb2 : ((s[j + 1].toNat : Int) == 109) = true := by rw [← hby, hb]; rfl
        clear hr hb hby HM
        go_wp2_with fail
        go_ret
        exact ⟨ret_int (by rw [HP.out]), rfl⟩
      · have HP := Lib.hid (mark_miss hk hr.out hb)
        have hb2 : ((s[j + 1].toNat : Int) == 109) = false := by rw [← hby]; simp; omega
        clear hr hb hby HM
        go_wp2_with fail
        go_round
        case rel => exact ⟨j, by omega, rfl, HP⟩
        case measure => simp [intOf]
    · obtain rfl : k = 0 := by omega
      have HP := Lib.hid (mark_end hr.out)
      clear hr HM
      go_wp2_with fail
      go_ret
      exact ⟨ret_int HP.out.symm, rfl⟩
/-- the two rows, and other boxes that stay as they are -/
structure RE (w0 wr : World) (n : Nat) (E : Boxes) (st : St) (sv tv : Value) : Prop where
  rows : Rows w0 wr n st sv tv
  ex : ∀ x ∈ E, Blk wr x.1 x.2.1 x.2.2 ∧ sv.ownBlock ≠ some x.1 ∧ tv.ownBlock ≠ some x.1
section
variable {w0 wr w2 : World} {n g cap : Nat} {E : Boxes} {st : St} {sv tv : Value}
theorem RE.later (h : RE w0 wr n E st sv tv) (hb : Below wr.heap.size wr w2) : RE w0 w2 n E st sv tv := ⟨h.rows.later hb, fun x hx => ⟨(h.ex x hx).1.later hb, (h.ex x hx).2⟩⟩
theorem RE.alloc (h : RE w0 wr n E st sv tv) (o : Obj) : RE w0 (wr.alloc o) n E st sv tv := h.later ((Below.refl _ _).alloc (Nat.le_refl _) o)
theorem RE.same (h : RE w0 wr n E st sv tv) (hs : Same wr w2) : RE w0 w2 n E st sv tv := h.later (hs.below _)
theorem RE.less (h : RE w0 wr n E st sv tv) : RE w0 wr n [] st sv tv := ⟨h.rows, fun x hx => by cases hx⟩
theorem RE.more (h : RE w0 wr n E st sv tv) (cs : Array Value) (t : TypeId) : RE w0 (wr.alloc (.cells cs t)) n ((wr.heap.size, t, cs) :: E) st sv tv := by
  have h' := h.alloc (.cells cs t)
  refine ⟨h'.rows, fun x hx => ?_⟩
  rcases List.mem_cons.1 hx with rfl | hx
  · refine ⟨Blk.new wr t cs, fun e => ?_, fun e => ?_⟩
    · have := (h.rows.sho.lt _ e).2; simp at this
    · have := (h.rows.tdo.lt _ e).2; simp at this
  · exact h'.ex x hx
theorem RE.one {k : Nat} {t : TypeId} {cs : Array Value} (h : RE w0 wr n ((k, t, cs) :: E) st sv tv) : Blk wr k t cs := (h.ex _ List.mem_cons_self).1
theorem RE.setSh (h : RE w0 wr n E st (.slice (some ⟨g, 0, none⟩) n cap) tv) (s : ByteArray) (p : Nat) : RE w0 (wr.setCell ⟨g, p, none⟩ (.string s)) n E ⟨st.sh.set p s, st.wk⟩ (.slice (some ⟨g, 0, none⟩) n cap) tv :=
  ⟨h.rows.setSh s p, fun x hx => ⟨(h.ex x hx).1.far (fun e => (h.ex x hx).2.1 (by rw [e]; rfl)) _, (h.ex x hx).2⟩⟩
theorem RE.push {tv' : Value} {i : Nat} (h : RE w0 wr n E st sv tv) (ho : w2.ownsRow w0.heap.size 3 1 tv' (st.wk.length + 1) (wkVals st.wk ++ [.int .i64 (i : Int)])) (hg : wr.grownBy w2 tv.ownBlock) (hat : tv'.ownBlock = tv.ownBlock ∨ tv'.ownBlock = some (wr.heap.size + 1)) :
    RE w0 w2 n E ⟨st.sh, st.wk ++ [i]⟩ sv tv' :=
  ⟨h.rows.push ho hg hat, fun x hx => by
    obtain ⟨x1, x2, x3⟩ := h.ex x hx
    refine ⟨x1.grown hg (Ne.symm x3), x2, fun e => ?_⟩
    rcases hat with h1 | h1
    · rw [h1] at e; exact x3 e
    · rw [h1] at e; injection e with e; have := x1.lt; omega⟩
end
/-- what l30Reach leaves -/
def ReachPost (w0 : World) (n : Nat) (E : Boxes) (st : St) (sv : Value) (r : Option St) (e : Ending) (w' : World) : Prop :=
  ∃ tv, e = .returned (.tuple #[tv, .bool r.isSome]) ∧ RE w0 w' n E (r.getD st) sv tv
section
variable {w0 wr : World} {n : Nat} {E : Boxes} {st : St} {sv tv : Value}
set_option maxRecDepth 100000 in
set_option maxHeartbeats 1000000 in
theorem spec_l30Reach (h : RE w0 wr n E st sv tv) (hI : Inv n st) (hn : 0 < n) (hn2 : n ≤ 60000) (p : Int) (s : ByteArray) (hp : 0 < s.size → 0 ≤ p) :
    Calls Tryz.prog 47 #[sv, tv, .int .i64 p, .string s] wr (ReachPost w0 n E st sv (reach st p s)) := by
  have hroom := hI.room
  obtain ⟨g, cap, rfl, hg1, hg2, hc1, hc2⟩ := h.rows.form hn
  unfold maxLen at hc2
  have hl := h.rows.len
  have HL := Lib.hid hl
  by_cases hs0 : s.size = 0
  · have HP : Hid (reach st p s = some st) := by show _ = _; unfold reach; rw [if_pos hs0]
    have i1 := eEmpty hs0
    clear hl hs0
    go_enter Tryz.func47, Tryz.ntmps47
    go_wp2_with fail
    go_ret2
    rw [HP.out]
    exact ⟨tv, rfl, h⟩
  have i1 := eFull hs0
  have hp0 := hp (by omega)
  obtain ⟨k, rfl⟩ : ∃ k : Nat, p = k := ⟨p.toNat, by omega⟩
  clear hp
  by_cases hk : k < n
  · have q0 := h.rows.cell hk
    have qf := h.rows.frozen k
    have hd : decide (n ≤ k) = false := decide_eq_false (by omega)
    by_cases he : (st.at_ k).size = 0
    · have HP : Hid (reach st (k : Int) s = some ⟨st.sh.set k s, st.wk ++ [k]⟩) := by
        show _ = _
        unfold reach
        rw [if_neg hs0, if_neg (by omega), Int.toNat_natCast, if_pos he]
      have j1 := eEmpty he
      clear hl he hs0
      go_enter Tryz.func47, Tryz.ntmps47
      go_upto_region 7 with (fail)
      have h2 := h.setSh s k
      generalize wr.setCell ⟨g, k, none⟩ (.string s) = w2 at h2 ⊢
      clear q0 qf j1
      go_wp2_with (first | (at_builtin; refine wpList_push rfl (.tmp 42) (.tmp 44) 72 rfl 3 _ 1 8 info_wkS Tryz.underlying72 rfl (by decide) (by decide) w0.heap.size _ _ _ rfl h2.rows.tdo #[.int .i64 (k : Int)] 1 _ rfl rfl (by simp [Value.oneCell']) (by simp; omega) h2.rows.bel.size ?_))
      rintro tv' w3 hown hgrow hat
      have h4 := h2.push hown hgrow hat
      go_wp2_with fail
      go_ret2
      rw [HP.out]
      exact ⟨tv', rfl, h4⟩
    · have j1 := eFull he
      by_cases hq : st.at_ k = s
      · have HP : Hid (reach st (k : Int) s = some st) := by
          show _ = _
          unfold reach
          rw [if_neg hs0, if_neg (by omega), Int.toNat_natCast, if_neg he, if_pos hq]
        have hb := str_eq s
        rw [hq] at q0 j1
        clear hl he hs0 hq
        go_enter Tryz.func47, Tryz.ntmps47
        go_wp2_with fail
        go_ret2
        rw [HP.out]
        exact ⟨tv, rfl, h⟩
      · have HP : Hid (reach st (k : Int) s = none) := by
          show _ = _
          unfold reach
          rw [if_neg hs0, if_neg (by omega), Int.toNat_natCast, if_neg he, if_neg hq]
        have hb := str_ne hq
        clear hl he hs0 hq
        go_enter Tryz.func47, Tryz.ntmps47
        go_wp2_with fail
        go_ret2
        rw [HP.out]
        exact ⟨tv, rfl, h⟩
  · have HP : Hid (reach st (k : Int) s = none) := by
      show _ = _
      unfold reach
      rw [if_neg hs0, if_pos (.inr (by omega))]
    clear hl hs0
    go_enter Tryz.func47, Tryz.ntmps47
    go_wp2_with fail
    go_ret2
    rw [HP.out]
    exact ⟨tv, rfl, h⟩
end
end Go.Proofs.YtekobbeoaalibaaGreatDoor
