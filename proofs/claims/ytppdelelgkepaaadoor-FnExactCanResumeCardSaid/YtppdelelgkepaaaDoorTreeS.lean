/- l33Core of the reference: the program that it makes up; which trees are taken. -/
import Derived.Test.YtppdelelgkepaaaDoorValS
import Derived.Test.YtppdelelgkepaaaDoorCanF
import Derived.OneCell
namespace Go.Proofs.YtppdelelgkepaaaDoor
open Go.RowKit

theorem info_routine : (Tryd.prog.info? 39).map (fun i => (i.zero, i.size, i.bytes)) = some (some (.agg #[.string ⟨#[]⟩, .int .i64 0, .slice none 0 0, .int .i64 0, .int .i64 0, .int .i64 0, .int .i64 0, .string ⟨#[]⟩, .slice none 0 0]), 9, 120) := by kernel_rfl
theorem info_record : (Tryd.prog.info? 45).map (fun i => (i.zero, i.size, i.bytes)) = some (some (.agg #[.string ⟨#[]⟩, .slice none 0 0, .int .i64 0]), 3, 48) := by kernel_rfl
theorem info_str : (Tryd.prog.info? 9).map (fun i => (i.zero, i.size, i.bytes)) = some (some (.string ⟨#[]⟩), 1, 16) := by kernel_rfl
noncomputable def coreOk (c : CoreT) : Bool := validS ⟨24, 12, 13, 8⟩ c true false 1 && decide (c.nodes ≤ 40000)

/-- the two rows lie in blocks of their own -/
def Two (v u : Value) : Prop := ∀ k, v.ownBlock = some k → u.ownBlock ≠ some k
theorem Two.symm {v u : Value} (h : Two v u) : Two u v := fun k hk e => h k e hk
theorem Two.ne {v u : Value} (h : Two v u) : v.ownBlock = none ∨ v.ownBlock ≠ u.ownBlock := by
  cases e : v.ownBlock with
  | none => exact .inl rfl
  | some k => exact .inr fun e2 => h k e e2.symm
theorem Two.fresh {v v' u : Value} {n : Nat} (h : Two v u) (hat : v'.ownBlock = v.ownBlock ∨ v'.ownBlock = some (n + 1)) (hu : ∀ k, u.ownBlock = some k → k < n) : Two v' u := by
  intro k hk e
  rcases hat with h1 | h1
  · rw [h1] at hk; exact h k hk e
  · rw [h1] at hk; injection hk with hk; have := hu k e; omega
/-- v's block is neither of the two boxes -/
def Off (b : Nat) (v : Value) : Prop := v.ownBlock ≠ some b ∧ v.ownBlock ≠ some (b + 1 + 1)
theorem Off.fresh {b n : Nat} {v v' : Value} (h : Off b v) (hat : v'.ownBlock = v.ownBlock ∨ v'.ownBlock = some (n + 1)) (hn : b + 2 < n + 1) : Off b v' := by
  rcases hat with e | e
  · unfold Off; rw [e]; exact h
  · unfold Off; rw [e]; exact ⟨fun x => by injection x with x; omega, fun x => by injection x with x; omega⟩
/-- the program as far as it is made: n1 routines, n2 records, n3 globals -/
structure Prg (w wr : World) (cc : Array Value) (n1 n2 n3 : Nat) (v1 v2 v3 : Value) : Prop where
  o1 : ∃ xs, wr.ownsRow w.heap.size 39 9 v1 n1 xs
  o2 : ∃ xs, wr.ownsRow w.heap.size 45 3 v2 n2 xs
  o3 : ∃ xs, wr.ownsRow w.heap.size 9 1 v3 n3 xs
  box : Blk wr (w.heap.size + 1 + 1) 43 #[v1, v2, v3, .int .i64 0]
  core : Blk wr w.heap.size 29 cc
  bel : Below w.heap.size w wr
  f1 : Off w.heap.size v1
  f2 : Off w.heap.size v2
  f3 : Off w.heap.size v3
  t12 : Two v1 v2
  t13 : Two v1 v3
  t23 : Two v2 v3
section
variable {w wo w2 : World} {cc : Array Value} {n1 n2 n3 : Nat} {v1 v2 v3 v' : Value} {ys : List Value}
theorem Prg.push1 (h : Prg w wo cc n1 n2 n3 v1 v2 v3) (ho : w2.ownsRow w.heap.size 39 9 v' (n1 + 1) ys) (hg : wo.grownBy w2 v1.ownBlock) (hat : v'.ownBlock = v1.ownBlock ∨ v'.ownBlock = some (wo.heap.size + 1)) : Prg w (w2.setCell ⟨w.heap.size + 1 + 1, 0, none⟩ v') cc (n1 + 1) n2 n3 v' v2 v3 := by
  obtain ⟨x1, o1⟩ := h.o1
  obtain ⟨x2, o2⟩ := h.o2
  obtain ⟨x3, o3⟩ := h.o3
  have hlt := h.box.lt
  have l2 := fun k hk => (o2.lt k hk).2
  have l3 := fun k hk => (o3.lt k hk).2
  have f' := h.f1.fresh hat (by omega)
  exact ⟨⟨_, ownsRow_setCell_other ho f'.2 _⟩, ⟨_, ownsRow_setCell_other (o2.kept hg h.t12.symm.ne) h.f2.2 _⟩, ⟨_, ownsRow_setCell_other (o3.kept hg h.t13.symm.ne) h.f3.2 _⟩,
    (h.box.grown hg (Ne.symm h.f1.2)).set_ 0 v', (h.core.grown hg (Ne.symm h.f1.1)).far (by simp; omega) _, (below_push h.bel h.bel.size o1 hg).setCell (by simp; omega) _, f', h.f2, h.f3, h.t12.fresh hat l2, h.t13.fresh hat l3, h.t23⟩
theorem Prg.push2 (h : Prg w wo cc n1 n2 n3 v1 v2 v3) (ho : w2.ownsRow w.heap.size 45 3 v' (n2 + 1) ys) (hg : wo.grownBy w2 v2.ownBlock) (hat : v'.ownBlock = v2.ownBlock ∨ v'.ownBlock = some (wo.heap.size + 1)) : Prg w (w2.setCell ⟨w.heap.size + 1 + 1, 1, none⟩ v') cc n1 (n2 + 1) n3 v1 v' v3 := by
  obtain ⟨x1, o1⟩ := h.o1
  obtain ⟨x2, o2⟩ := h.o2
  obtain ⟨x3, o3⟩ := h.o3
  have hlt := h.box.lt
  have l1 := fun k hk => (o1.lt k hk).2
  have l3 := fun k hk => (o3.lt k hk).2
  have f' := h.f2.fresh hat (by omega)
  exact ⟨⟨_, ownsRow_setCell_other (o1.kept hg h.t12.ne) h.f1.2 _⟩, ⟨_, ownsRow_setCell_other ho f'.2 _⟩, ⟨_, ownsRow_setCell_other (o3.kept hg h.t23.symm.ne) h.f3.2 _⟩,
    (h.box.grown hg (Ne.symm h.f2.2)).set_ 1 v', (h.core.grown hg (Ne.symm h.f2.1)).far (by simp; omega) _, (below_push h.bel h.bel.size o2 hg).setCell (by simp; omega) _, h.f1, f', h.f3, (h.t12.symm.fresh hat l1).symm, h.t13, h.t23.fresh hat l3⟩
theorem Prg.push3 (h : Prg w wo cc n1 n2 n3 v1 v2 v3) (ho : w2.ownsRow w.heap.size 9 1 v' (n3 + 1) ys) (hg : wo.grownBy w2 v3.ownBlock) (hat : v'.ownBlock = v3.ownBlock ∨ v'.ownBlock = some (wo.heap.size + 1)) : Prg w (w2.setCell ⟨w.heap.size + 1 + 1, 2, none⟩ v') cc n1 n2 (n3 + 1) v1 v2 v' := by
  obtain ⟨x1, o1⟩ := h.o1
  obtain ⟨x2, o2⟩ := h.o2
  obtain ⟨x3, o3⟩ := h.o3
  have hlt := h.box.lt
  have l1 := fun k hk => (o1.lt k hk).2
  have l2 := fun k hk => (o2.lt k hk).2
  have f' := h.f3.fresh hat (by omega)
  exact ⟨⟨_, ownsRow_setCell_other (o1.kept hg h.t13.ne) h.f1.2 _⟩, ⟨_, ownsRow_setCell_other (o2.kept hg h.t23.ne) h.f2.2 _⟩, ⟨_, ownsRow_setCell_other ho f'.2 _⟩,
    (h.box.grown hg (Ne.symm h.f3.2)).set_ 2 v', (h.core.grown hg (Ne.symm h.f3.1)).far (by simp; omega) _, (below_push h.bel h.bel.size o3 hg).setCell (by simp; omega) _, h.f1, h.f2, f', h.t12, (h.t13.symm.fresh hat l1).symm, (h.t23.symm.fresh hat l2).symm⟩
end
theorem own_shape {w : World} {base : Nat} {e : TypeId} {size n : Nat} {v : Value} {xs : List Value} (h : w.ownsRow base e size v n xs) : ∃ A c, v = .slice A n c := by
  obtain ⟨A, c, hv, -⟩ := (Rds.of_own h).shape; exact ⟨A, c, hv⟩

set_option maxRecDepth 100000 in
set_option maxHeartbeats 1000000 in
theorem spec_l33Core (c : CoreT) (x : Value) (w : World) (lo hi : Nat) (h : CRep w lo hi x c) (hhi : hi ≤ w.heap.size) (hbk : c.bulk ≤ 1048576) :
    Calls Tryd.prog 13 #[x] w fun e w' => e = .returned (.bool (coreOk c)) ∧ Below w.heap.size w w' := by
  obtain ⟨A, cap, rfl, hk, hc1, hc2⟩ := h.form
  have HC := Lib.hid (spec_CountCore c)
  have HV : Hid (∀ (A1 A2 A3 : Option Addr) (c1 c2 c3 : Nat) (y : Value) (W : World), CRep W lo hi y c → hi ≤ W.heap.size →
      Calls Tryd.prog 20 #[.agg #[.slice A1 13 c1, .slice A2 8 c2, .slice A3 12 c3, .int .i64 0], .int .i64 24, y, .bool true, .bool false, .int .i64 1] W fun e w' => e = .returned (.bool (validS ⟨24, 12, 13, 8⟩ c true false 1)) ∧ Below W.heap.size W w') :=
    fun A1 A2 A3 c1 c2 c3 y W hr hz => spec_l10Valid ⟨24, 12, 13, 8⟩ (by decide) (by decide) (by decide) (by decide) c A1 A2 A3 c1 c2 c3 0 y true false 1 W lo hi hr hz hbk (by decide) (by decide)
  go_enter Tryd.func13, Tryd.ntmps13
  go_wp2_with fail
  go_loopw [4] (fun i wr => ∃ k : Nat, k ≤ 12 ∧ i = .int .i64 k ∧ ∃ A1 A2 A3 c1 c2 c3, Prg w wr #[.int .i64 c.kind, .int .i64 c.op, .int .i64 c.number, .int .i64 c.line, .string c.text, .slice A c.kids.length cap] (k + 1) 0 k (.slice A1 (k + 1) c1) (.slice A2 0 c2) (.slice A3 k c3)) (fun i _ => 12 - (intOf i).toNat)
  case atStart =>
    refine ⟨0, Nat.zero_le _, rfl, some ⟨w.heap.size + 1, 0, none⟩, none, none, 1, 0, 0, ?_⟩
    have h0 := World.ownsRow_lit (w.alloc (.cells #[.int .i64 c.kind, .int .i64 c.op, .int .i64 c.number, .int .i64 c.line, .string c.text, .slice A c.kids.length cap] 29)) #[.string ⟨#[109, 97, 105, 110]⟩, .int .i64 0, .slice none 0 0, .int .i64 0, .int .i64 0, .int .i64 0, .int .i64 0, .string ⟨#[]⟩, .slice none 0 0] 1 (e := 39) (size := 9) (Nat.le_refl _) (by decide) rfl
    have h1 := own_base' h0 (base' := w.heap.size) (by simp)
    have hs : (w.alloc (.cells #[.int .i64 c.kind, .int .i64 c.op, .int .i64 c.number, .int .i64 c.line, .string c.text, .slice A c.kids.length cap] 29)).heap.size = w.heap.size + 1 := by simp
    rw [hs] at h1
    exact ⟨⟨_, h1.alloc _⟩, ⟨[], World.ownsRow_nil _ _ _ _⟩, ⟨[], World.ownsRow_nil _ _ _ _⟩, Blk.newAt _ _ _ _ (by simp), ((Blk.new w _ _).alloc _).alloc _, (((Below.refl _ _).alloc (Nat.le_refl _) _).alloc (by simp) _).alloc (by simp; omega) _,
      ⟨by simp [Value.ownBlock], by simp [Value.ownBlock]⟩, ⟨by simp [Value.ownBlock], by simp [Value.ownBlock]⟩, ⟨by simp [Value.ownBlock], by simp [Value.ownBlock]⟩, (fun k _ => by simp [Value.ownBlock]), (fun k _ => by simp [Value.ownBlock]), (fun k _ => by simp [Value.ownBlock])⟩
  case round =>
    obtain ⟨k, hk', rfl, A1, A2, A3, c1, c2, c3, hp⟩ := hrel
    obtain ⟨wo, rfl⟩ : ∃ wo : World, wo = wr := ⟨_, rfl⟩
    by_cases hlt : k < 12
    · obtain ⟨x1, o1⟩ := hp.o1
      have cb := hp.box.cell
      have hz := hp.box.lt
      go_wp2_with (first | (at_builtin; refine wpList_push rfl (.tmp 14) (.tmp 16) 40 rfl 39 _ 9 120 info_routine Tryd.underlying40 rfl (by decide) (by decide) w.heap.size (.slice A1 (k + 1) c1) _ _ rfl o1 #[.string ⟨#[109, 97, 105, 110]⟩, .int .i64 0, .slice none 0 0, .int .i64 0, .int .i64 0, .int .i64 0, .int .i64 0, .string ⟨#[]⟩, .slice none 0 0] 1 _ rfl rfl (by simp [Value.oneCell']) (by omega) hp.bel.size ?_))
      rintro v1 w2 ho2 hg2 hat2
      obtain ⟨B1, d1, rfl⟩ := own_shape ho2
      have hp2 := hp.push1 ho2 hg2 hat2
      have hx := hp.box.grown hg2 (Ne.symm hp.f1.2)
      clear cb hz
      have cb := hx.cell
      have fb := hx.frozen
      have hz := hx.lt
      go_upto_region 6 with fail
      generalize hW : w2.setCell ⟨w.heap.size + 1 + 1, 0, none⟩ (.slice B1 (k + 1 + 1) d1) = W2 at *
      clear hW hx cb fb hz ho2 hg2 hat2 o1 hp
      obtain ⟨x3, o3⟩ := hp2.o3
      have hb2 := hp2.bel.size
      have cb := hp2.box.cell
      have hz := hp2.box.lt
      go_wp2_with (first | (at_builtin; refine wpList_push rfl (.tmp 20) (.tmp 21) 37 rfl 9 _ 1 16 info_str Tryd.underlying37 rfl (by decide) (by decide) w.heap.size (.slice A3 k c3) _ _ rfl o3 #[.string ⟨#[120]⟩] 1 _ rfl rfl (by simp [Value.oneCell']) (by omega) hb2 ?_))
      rintro v3 w3 ho3 hg3 hat3
      obtain ⟨B3, d3, rfl⟩ := own_shape ho3
      have hp3 := hp2.push3 ho3 hg3 hat3
      have hx3 := hp2.box.grown hg3 (Ne.symm hp2.f3.2)
      clear cb hz
      have cb := hx3.cell
      have fb := hx3.frozen
      have hz := hx3.lt
      go_wp2_with fail
      go_roundw
      case rel => exact ⟨k + 1, by omega, by go_num, _, _, _, _, _, _, hp3⟩
      case measure => simp [intOf]; omega
    · obtain rfl : k = 12 := by omega
      go_wp2_with fail
      go_loopw [5] (fun i wr => ∃ k : Nat, k ≤ 8 ∧ i = .int .i64 k ∧ ∃ A1 A2 A3 c1 c2 c3, Prg w wr #[.int .i64 c.kind, .int .i64 c.op, .int .i64 c.number, .int .i64 c.line, .string c.text, .slice A c.kids.length cap] 13 k 12 (.slice A1 13 c1) (.slice A2 k c2) (.slice A3 12 c3)) (fun i _ => 8 - (intOf i).toNat)
      case atStart => exact ⟨0, Nat.zero_le _, rfl, _, _, _, _, _, _, hp⟩
      case round =>
        clear hp hk' hlt
        obtain ⟨k, hk', rfl, A1, A2, A3, c1, c2, c3, hp⟩ := hrel
        obtain ⟨wo, rfl⟩ : ∃ wo : World, wo = wr := ⟨_, rfl⟩
        by_cases hlt : k < 8
        · obtain ⟨x2, o2⟩ := hp.o2
          have cb := hp.box.cell
          have hz := hp.box.lt
          go_wp2_with (first | (at_builtin; refine wpList_push rfl (.tmp 29) (.tmp 31) 41 rfl 45 _ 3 48 info_record Tryd.underlying41 rfl (by decide) (by decide) w.heap.size (.slice A2 k c2) _ _ rfl o2 #[.string ⟨#[120]⟩, .slice none 0 0, .int .i64 0] 1 _ rfl rfl (by simp [Value.oneCell']) (by omega) hp.bel.size ?_))
          rintro v2 w2 ho2 hg2 hat2
          obtain ⟨B2, d2, rfl⟩ := own_shape ho2
          have hp2 := hp.push2 ho2 hg2 hat2
          have hx := hp.box.grown hg2 (Ne.symm hp.f2.2)
          clear cb hz
          have cb := hx.cell
          have fb := hx.frozen
          have hz := hx.lt
          go_wp2_with fail
          go_roundw
          case rel =>
            repeat apply Exists.intro
            refine ⟨?_, ?_⟩
            rotate_left
            · rfl
            · exact ⟨k + 1, by omega, by go_num, _, _, _, _, _, _, hp2⟩
          case measure => simp [intOf]; omega
        · obtain rfl : k = 8 := by omega
          have cb := hp.box.cell
          have hz := hp.box.lt
          have cc := hp.core.cell
          have hz0 := hp.bel.size
          obtain ⟨r, hr⟩ : ∃ r, validS ⟨24, 12, 13, 8⟩ c true false 1 = r := ⟨_, rfl⟩
          have HR := Lib.hid hr
          clear hr
          go_wp2_with fail
          refine (HV.out A1 A2 A3 c1 c2 c3 _ _ (h.below hp.bel hhi) (Nat.le_trans hhi hz0)).mono ?_
          rw [HR.out]
          rintro e w1 ⟨rfl, hb1⟩
          have a1 := hp.core.later hb1
          have hw1 : Below w.heap.size w w1 := hp.bel.trans (hb1.mono hz0)
          clear cb cc
          have cc := a1.cell
          have la := a1.lt
          cases r with
          | false =>
            have HT : Hid (coreOk c = false) := by show _ = _; rw [coreOk, HR.out]; rfl
            go_wp2_with fail
            go_ret
            exact ⟨ret_bool HT.out.symm, hw1⟩
          | true =>
            have HT : Hid (coreOk c = decide (c.nodes ≤ 40000)) := by show _ = _; rw [coreOk, HR.out]; rfl
            go_wp2_with fail
            refine (HC.out _ _ lo hi (h.below hw1 hhi) (Nat.le_trans hhi hw1.size) hbk).mono ?_; rintro e w2 ⟨rfl, hb2⟩
            go_wp2_with fail
            go_ret
            exact ⟨ret_bool (by rw [HT.out, Bool.eq_iff_iff]; simp <;> omega), hw1.trans (hb2.mono hw1.size)⟩
end Go.Proofs.YtppdelelgkepaaaDoor
