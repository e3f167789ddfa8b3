/- copyRecords of the program, l13Records of the reference: a copy of a row of record types. A row that takes up some of the elements of another row of the call's own (a plain copy of their cells). Plain lemmas, no program. A region that draws its order and ends in a store (number k): what S holds is shown behind every operation but that one. Plain lemmas, no program. FoldProgram: what both sides' walks need. Plain lemmas. OperatorArity of the program. -/
import Derived.Test.YtjeomamdlmoghaaGreatDoorQ00
import Derived.Test.YtjeomamdlmoghaaGreatDoorQ02
import Derived.Test.YtjeomamdlmoghaaGreatDoorQ04
import Derived.Test.YtjeomamdlmoghaaGreatDoorQ05
import Derived.Test.YtjeomamdlmoghaaGreatDoorQ07
import Derived.Test.YtjeomamdlmoghaaGreatDoorQ08
import Derived.Test.YtjeomamdlmoghaaGreatDoorQ09
import Derived.Deep.RegionHeld3
import Derived.BigRegion
import Derived.StillTail
set_option maxRecDepth 100000
set_option maxHeartbeats 8000000
set_option linter.unusedVariables false
set_option linter.unusedSimpArgs false
section
namespace Go.Proofs.YtjeomamdlmoghaaGreatDoor
open Go.RowKit
theorem step_clone {P : Program} {w W : World} {ops : Array Oper} {o : Oper} {a : Act} {K : Act → World → Prop} {Q : Exit → Act → World → Prop} {E : Prop} (p : Nat) (hp : p = w.heap.size) (hgd : o.guard = none) (s x : Operand) (t : TypeId)
 (ho : o.op = .call { callee := .builtin .append, args := #[s, x], argTypes := #[t, t] })
 (e : TypeId) (z : Value) (size bytes : Nat) (hinfo : (P.info? e).map (fun i => (i.zero, i.size, i.bytes)) = some (some z, size, bytes)) (ht : P.underlying t = some (.slice e)) (hzs : z.cells.size = size) (hsz : 0 < size)
 (hs : a.eval s = .slice (some ⟨p, 0, none⟩) 0 0) (hW : Same (w.alloc (.cells #[] e)) W)
 (lo hi' : Nat) (u : Value) (m : Nat) (news : List Value) (hx : a.eval x = u) (hr : Rds W lo hi' size u m news) (h1 : ∀ u ∈ news, u.oneCell' = true)
 (h63 : m ≤ maxLen) (hbytes : m * bytes ≤ 140737488355328)
 (h : ∀ v' w', w'.ownsRow w.heap.size e size v' m news → Below w.heap.size w w' → K (a.put o.dst v') w') :
 if Region.wanted o (yielded ops a.tmps) = true then Oper.wp P o a W K Q else E := by
 have hw : Region.wanted o (yielded ops a.tmps) = true := by simp [Region.wanted, hgd]
 rw [if_pos hw]
 subst hp
 obtain ⟨i0, hi0, hz0, hz1, hz2⟩ := info_parts hinfo
 have hWs : W.heap.size = w.heap.size + 1 := by rw [hW.size]; simp
 have hown := hW.own (World.ownsRow_made (base := w.heap.size) (e := e) (size := size) w #[] 0 (Nat.le_refl _) (Nat.zero_le _) (by simp))
 refine wp_append_any W s x t ho w.heap.size e i0 z size bytes ht hi0 hz0 hz1 hz2 hzs hsz _ 0 [] hs hown lo hi' u m news hx hr h1 (by omega) (by rw [Nat.zero_add]; exact hbytes) (by omega) ?_
 intro v' w' g1 g2 g3
 exact h v' w' (by simpa using g1) ((((Below.refl w.heap.size w).alloc (Nat.le_refl _) _).trans (hW.below _)).grown g2 (by omega) (fun g hg => by simp [Value.ownBlock] at hg; omega))
theorem step_push_at {P : Program} {w W : World} {ops : Array Oper} {o : Oper} {a : Act} {K : Act → World → Prop} {Q : Exit → Act → World → Prop} {E : Prop} (p : Nat) (hp : p = w.heap.size) (hgd : o.guard = none) (s x : Operand) (t : TypeId)
 (ho : o.op = .call { callee := .builtin .append, args := #[s, x], argTypes := #[t, t] })
 (e : TypeId) (z : Value) (size bytes : Nat) (hinfo : (P.info? e).map (fun i => (i.zero, i.size, i.bytes)) = some (some z, size, bytes)) (ht : P.underlying t = some (.slice e)) (hzs : z.cells.size = size) (hsz : 0 < size) (hby : 0 < bytes)
 (base : Nat) (v : Value) (n : Nat) (xs : List Value) (hs : a.eval s = v) (hown : w.ownsRow base e size v n xs)
 (cs : Array Value) (c : Nat) (t' : TypeId) (hx : a.eval x = .slice (some ⟨p, 0, none⟩) 1 c) (hW : Same (w.alloc (.cells cs t')) W) (hl : cs.size = size) (h1 : ∀ u ∈ cs.toList, u.oneCell' = true)
 (hroom : (n + 1) * bytes ≤ 140737488355328) (hbase : base ≤ w.heap.size)
 (h : ∀ v' w', w'.ownsRow base e size v' (n + 1) (xs ++ cs.toList) → w.grownBy w' v.ownBlock → (v'.ownBlock = v.ownBlock ∨ v'.ownBlock = some (w.heap.size + 1)) → K (a.put o.dst v') w') :
 if Region.wanted o (yielded ops a.tmps) = true then Oper.wp P o a W K Q else E := by
 subst hp
 exact step_push hgd s x t ho e z size bytes hinfo ht hzs hsz hby base v n xs hs hown cs c t' hx hW hl h1 hroom hbase h
def RecOwn (w wr : World) (l : List RecT) (k : Nat) (v : Value) (vs : List Value) : Prop :=
 ∃ F, wr.ownsRow w.heap.size 68 3 v k vs ∧ OwnVs wr (flat RecT.dats (l.take k)) F vs ∧ F.Nodup ∧ (∀ g ∈ F, w.heap.size ≤ g) ∧ (∀ g, v.ownBlock = some g → g ∉ F) ∧ Below w.heap.size w wr
section
variable {w wr w1 w2 : World} {l : List RecT} {k : Nat} {v v' v1 : Value} {vs : List Value} {c : RecT}
theorem RecOwn.bel (h : RecOwn w wr l k v vs) : Below w.heap.size w wr := by obtain ⟨F, -, -, -, -, -, h⟩ := h; exact h
theorem RecOwn.own (h : RecOwn w wr l k v vs) : wr.ownsRow w.heap.size 68 3 v k vs := by obtain ⟨F, h, -⟩ := h; exact h
theorem RecOwn.later (h : RecOwn w wr l k v vs) (hb : Below wr.heap.size wr w1) : RecOwn w w1 l k v vs := by
 obtain ⟨F, h1, h2, h3, h4, h5, h6⟩ := h
 exact ⟨F, own_later h1 hb, h2.fr (Fr.of_below (F := []) hb) (fun _ _ => by simp), h3, h4, h5, h6.trans (hb.mono h6.size)⟩
theorem RecOwn.push (h : RecOwn w wr l k v vs) (hc : l[k]? = some c) (hb : Below wr.heap.size wr w1) (hf : w1.ownsRow wr.heap.size 9 1 v1 c.fields.length (c.fields.map .string))
 (ho' : w2.ownsRow w.heap.size 68 3 v' (k + 1) (vs ++ [.string c.name, v1, .int .i64 c.line])) (hg : w1.grownBy w2 v.ownBlock) (hat : v'.ownBlock = v.ownBlock ∨ v'.ownBlock = some (w1.heap.size + 1)) : RecOwn w w2 l (k + 1) v' (vs ++ [.string c.name, v1, .int .i64 c.line]) := by
 obtain ⟨F, h1, h2, h3, h4, h5, h6⟩ := h
 have hlt := h2.lt
 have hF : ∀ b ∈ F, b < wr.heap.size := hlt
 have h2' : OwnVs w2 (flat RecT.dats (l.take k)) F vs := h2.kept fun g hgF => (hg.block g (Nat.lt_of_lt_of_le (hF g hgF) hb.size) (fun e => h5 g e.symm hgF)).trans (hb.block g (hF g hgF))
 have hne : v1.ownBlock = none ∨ v1.ownBlock ≠ v.ownBlock := by
  cases e1 : v1.ownBlock with
  | none => exact .inl rfl
  | some b => exact .inr fun e2 => by have := (hf.lt b e1).1; have := (h1.lt b e2.symm).2; omega
 have hf2 := hf.kept hg hne
 obtain ⟨G, a1, a2, a3⟩ := OwnLR.texts (lo := wr.heap.size) (hi := w2.heap.size) hf2 (Nat.le_refl _)
 have hel : OwnVs w2 c.dats G [.string c.name, v1, .int .i64 c.line] := by
  have H : OwnVs w2 [.str c.name, .row 1 c.fields.length (flat strDats c.fields), .int .i64 c.line] _ [.string c.name, v1, .int .i64 c.line] := OwnVs.cons_ .mkStr (OwnVs.cons_ a1 (OwnVs.cons_ .mkInt .nil_))
  simpa [RecT.dats] using H
 have z1 := h6.size
 have z2 := hb.size
 refine ⟨F ++ G, ho', by rw [flat_snoc hc]; exact h2'.app hel, nodup_parts (mid := wr.heap.size) h3 a2 hF (fun g hg => (a3 g hg).1), fun g hg => ?_, fun g hv hm => ?_, (h6.trans (hb.mono z1)).grown hg (by omega) (fun g hg => (h1.lt g hg).1)⟩
 ·rcases List.mem_append.1 hg with hg | hg
  ·exact h4 g hg
  ·have := a3 g hg; omega
 ·rcases List.mem_append.1 hm with hm | hm
  ·rcases hat with e | e
   ·exact h5 g (by rw [← e]; exact hv) hm
   ·rw [e] at hv; injection hv with hv; have := hF g hm; omega
  ·rcases hat with e | e
   ·have h7 := (h1.lt g (by rw [← e]; exact hv)).2; have := a3 g hm; omega
   ·rw [e] at hv; injection hv with hv
    have h8 := OwnV.lt (w := w1) (d := .row 1 c.fields.length (flat strDats c.fields)) (F := G) (v := v1) ?_ g hm
    ·omega
    ·have a0 := OwnLR.texts (lo := wr.heap.size) (hi := w1.heap.size) hf (Nat.le_refl _)
     obtain ⟨G', b1, -, -⟩ := a0
     obtain ⟨e3, u3, F1, o3, rfl, c3⟩ := a1.row_
     obtain ⟨e4, u4, F2, o4, rfl, d3⟩ := b1.row_
     have e1 : F1 = [] := c3.flatNil fun d hd => by
      obtain ⟨s, -, hs⟩ := List.mem_flatMap.1 hd
      simp [strDats] at hs; subst hs; trivial
     have e2 : F2 = [] := d3.flatNil fun d hd => by
      obtain ⟨s, -, hs⟩ := List.mem_flatMap.1 hd
      simp [strDats] at hs; subst hs; trivial
     rw [e1]; rw [e2] at b1; exact b1
theorem RecOwn.made (h : RecOwn w wr l l.length v vs) : OwnLR wr w.heap.size wr.heap.size 3 RecT.dats v l := by
 obtain ⟨F, h1, h2, h3, h4, h5, h6⟩ := h
 rw [List.take_length] at h2
 refine ⟨_, OwnV.mkRow h1 h2, List.nodup_append.2 ⟨?_, h3, fun a ha b hb e => ?_⟩, fun g hg => ?_⟩
 ·cases v.ownBlock <;> simp
 ·subst e; exact h5 a (by simpa using ha) hb
 ·rcases List.mem_append.1 hg with hg | hg
  ·exact h1.lt g (by simpa using hg)
  ·exact ⟨h4 g hg, h2.lt g hg⟩
end
theorem impl_copyRecords (l : List RecT) (v : Value) (w : World) (lo hi : Nat) (h : LRep w lo hi 3 RecT.dats v l) (hhi : hi ≤ w.heap.size) (hl : l.length + sumOf RecT.bulk l ≤ 1048576) :
 Calls Tryz.prog 21 #[v] w (MadeL 3 RecT.dats l w) := by
 obtain ⟨A, cap, rfl, hc1, hc2⟩ := h.shape
 unfold maxLen at hc2
 have hwa : Below w.heap.size w (w.alloc (.cells #[] 68)) := (Below.refl _ _).alloc (Nat.le_refl _) _
 have own0 := World.ownsRow_made (base := w.heap.size) (e := 68) (size := 3) w #[] 0 (Nat.le_refl _) (by unfold maxLen; omega) rfl
 have hR0 : RecOwn w (w.alloc (.cells #[] 68)) l 0 (.slice (some ⟨w.heap.size, 0, none⟩) 0 0) [] := ⟨[], own0, by simp only [List.take_zero, flat_nil]; exact .nil_, List.nodup_nil, by simp, by simp, hwa⟩
 go_enter Tryz.func21, Tryz.ntmps21
 go_wp2_with fail
 go_loopw [3, 9] (fun ov i wr => ∃ (k : Nat) (vs : List Value), k ≤ l.length ∧ i = .int .i64 k ∧ RecOwn w wr l k ov vs) (fun _ i _ => l.length - (intOf i).toNat)
 case atStart => exact ⟨0, [], Nat.zero_le _, rfl, hR0⟩
 case round =>
  clear hR0 own0 hwa
  obtain ⟨k, vs, hk, rfl, hR⟩ := hrel
  obtain ⟨wo, rfl⟩ : ∃ wo : World, wo = wr := ⟨_, rfl⟩
  have hw := hR.bel
  by_cases hlt : k < l.length
  ·obtain ⟨c, hc⟩ : ∃ c, l[k]? = some c := ⟨_, List.getElem?_eq_getElem hlt⟩
   obtain ⟨g, off, Af, nf, rfl, hg1, hg2, hmem, hcr, q0, q1, q2⟩ := RecT.at_ (h.below hw hhi) hc
   have hfl := RecT.rows hcr
   have hbm := sumOf_mem (b := RecT.bulk) hmem
   have hbb : c.fields.length ≤ c.bulk := by unfold RecT.bulk; omega
   have hbc : c.fields.length ≤ 1048576 := by omega
   have hown := hR.own
   have hiw : hi ≤ wo.heap.size := Nat.le_trans hhi hw.size
   have bw : Below wo.heap.size wo (wo.alloc (.cells #[Value.string c.name, .slice Af c.fields.length nf, .int .i64 c.line] 68)) := (Below.refl _ _).alloc (Nat.le_refl _) _
   have hrf := LRep.rds.1 ((hfl.alloc hiw (.cells #[Value.string c.name, .slice Af c.fields.length nf, .int .i64 c.line] 68)).alloc (by simp; omega) (.cells #[] 9))
   have hone : ∀ u ∈ c.fields.map Value.string, u.oneCell' = true := by intro u hu; obtain ⟨s, -, rfl⟩ := List.mem_map.1 hu; rfl
   have hRF := Lib.hid (And.intro hrf hone)
   have bx := Blk.new wo 68 #[Value.string c.name, .slice Af c.fields.length nf, .int .i64 c.line]
   have own1 := hown.alloc (.cells #[Value.string c.name, .slice Af c.fields.length nf, .int .i64 c.line] 68)
   have hm1 : c.fields.length ≤ maxLen := by unfold maxLen; omega
   have hm2 : c.fields.length * 16 ≤ 140737488355328 := by omega
   have hm3 : (k + 1) * 48 ≤ 140737488355328 := by omega
   have hz : w.heap.size ≤ wo.heap.size := hw.size
   have HRR := Lib.hid hR
   have HC := Lib.hid hc
   have HOW := Lib.hid hown
   clear hcr hfl hbm hbb hmem hc hrf hone hR hown
   go_wp2_with fail
   have ca := bx.drew.cell
   go_region_held3 (fun w' => ∀ i, w'.cell? ⟨wo.heap.size, i, none⟩ = #[Value.string c.name, .slice Af c.fields.length nf, .int .i64 c.line][i]?)
    (first | exact ca | exact (bx.alloc _).cell | exact (bx.later hbA).cell | exact ((bx.later hbA).alloc _).cell | exact ((bx.later hbA).grown hgrow (fun e => Nat.lt_irrefl _ ((HOW.out.lt _ e.symm).2))).cell)
    (first
     | (refine step_clone (w := wo.alloc (.cells #[Value.string c.name, .slice Af c.fields.length nf, .int .i64 c.line] 68)) (wo.heap.size + 1) (by simp) rfl (.tmp 16) (.tmp 18) 24 rfl 9 _ 1 16 info_strs Tryz.underlying24 rfl (by decide) rfl ⟨rfl, rfl, rfl, rfl⟩ lo hi _ c.fields.length (c.fields.map .string) rfl (hRF.out.1.same ⟨rfl, rfl, rfl, rfl⟩) hRF.out.2 hm1 hm2 ?_; intro v1 w2 hownA hbA; obtain ⟨A1, n1, rfl, -, -, -⟩ := (Rds.of_own hownA).shape)
     | (refine step_push_at (w := w2) w2.heap.size rfl rfl (.tmp 13) (.tmp 23) 29 rfl 68 _ 3 48 info_RecT Tryz.underlying29 rfl (by decide) (by decide) w.heap.size _ _ _ rfl (own_later own1 hbA) #[.string c.name, .slice A1 c.fields.length n1, .int .i64 c.line] 1 68 rfl ⟨rfl, rfl, rfl, rfl⟩ rfl (by simp [Value.oneCell']) hm3 (Nat.le_trans (Nat.le_trans hz bw.size) hbA.size) ?_; intro v' w3 hown3 hgrow hat))
   have hbW := bw.trans (hbA.mono bw.size)
   have HP := Lib.hid (HRR.out.push HC.out hbW (own_base hownA (fun g hg => Nat.le_trans (by simp) (hownA.lt g hg).1)) hown3 hgrow (by rcases hat with e | e; exact .inl e; exact .inr e))
   clear hbW hown3 hgrow hat hownA hbA ca own1 bx bw q0 q1 q2
   go_wp2_with fail
   go_roundw
   case rel => exact ⟨k + 1, _, by omega, by go_num, HP.out⟩
   case measure => simp [intOf]; omega
  ·obtain rfl : k = l.length := by omega
   go_wp2_with fail
   go_ret
   exact ⟨_, rfl, hR.made, hw⟩
theorem spec_l13Records (l : List RecT) (v : Value) (w : World) (lo hi : Nat) (h : LRep w lo hi 3 RecT.dats v l) (hhi : hi ≤ w.heap.size) (hl : l.length + sumOf RecT.bulk l ≤ 1048576) :
 Calls Tryz.prog 15 #[v] w (MadeL 3 RecT.dats l w) := by
 obtain ⟨A, cap, rfl, hc1, hc2⟩ := h.shape
 unfold maxLen at hc2
 have hwa : Below w.heap.size w (w.alloc (.cells #[] 68)) := (Below.refl _ _).alloc (Nat.le_refl _) _
 have own0 := World.ownsRow_made (base := w.heap.size) (e := 68) (size := 3) w #[] 0 (Nat.le_refl _) (by unfold maxLen; omega) rfl
 have hR0 : RecOwn w (w.alloc (.cells #[] 68)) l 0 (.slice (some ⟨w.heap.size, 0, none⟩) 0 0) [] := ⟨[], own0, by simp only [List.take_zero, flat_nil]; exact .nil_, List.nodup_nil, by simp, by simp, hwa⟩
 go_enter Tryz.func15, Tryz.ntmps15
 go_wp2_with fail
 go_loopw [3, 4] (fun ov i wr => ∃ (k : Nat) (vs : List Value), k ≤ l.length ∧ i = .int .i64 k ∧ RecOwn w wr l k ov vs) (fun _ i _ => l.length - (intOf i).toNat)
 case atStart => exact ⟨0, [], Nat.zero_le _, rfl, hR0⟩
 case round =>
  clear hR0 own0 hwa
  obtain ⟨k, vs, hk, rfl, hR⟩ := hrel
  obtain ⟨wo, rfl⟩ : ∃ wo : World, wo = wr := ⟨_, rfl⟩
  have hw := hR.bel
  by_cases hlt : k < l.length
  ·obtain ⟨c, hc⟩ : ∃ c, l[k]? = some c := ⟨_, List.getElem?_eq_getElem hlt⟩
   obtain ⟨g, off, Af, nf, rfl, hg1, hg2, hmem, hcr, q0, q1, q2⟩ := RecT.at_ (h.below hw hhi) hc
   have hfl := RecT.rows hcr
   have hbm := sumOf_mem (b := RecT.bulk) hmem
   have hbb : c.fields.length ≤ c.bulk := by unfold RecT.bulk; omega
   have hbc : c.fields.length ≤ 1048576 := by omega
   have hown := hR.own
   have hiw : hi ≤ wo.heap.size := Nat.le_trans hhi hw.size
   have hrf := LRep.rds.1 (hfl.alloc hiw (.cells #[] 9))
   have hone : ∀ u ∈ c.fields.map Value.string, u.oneCell' = true := by intro u hu; obtain ⟨s, -, rfl⟩ := List.mem_map.1 hu; rfl
   have hRF := Lib.hid (And.intro hrf hone)
   have hm1 : c.fields.length ≤ maxLen := by unfold maxLen; omega
   have hm2 : c.fields.length * 16 ≤ 140737488355328 := by omega
   have hm3 : (k + 1) * 48 ≤ 140737488355328 := by omega
   have hz : w.heap.size ≤ wo.heap.size := hw.size
   have lg : g < wo.heap.size := Nat.lt_of_lt_of_le hg2 hiw
   have e0 : (0 : Int) ≤ (k : Int) := by omega
   have e8 : (k : Int) < (l.length : Int) := by omega
   have HRR := Lib.hid hR
   have HC := Lib.hid hc
   have HOW := Lib.hid hown
   have hgw : g < w.heap.size := Nat.lt_of_lt_of_le hg2 hhi
   clear hcr hfl hbm hbb hmem hc hrf hone hR hown
   go_wp2_with fail
   go_region_held3 (fun w' => w'.cell? ⟨g, off + k * 3, none⟩ = some (.string c.name) ∧ w'.cell? ⟨g, off + k * 3 + 1, none⟩ = some (.slice Af c.fields.length nf) ∧ w'.cell? ⟨g, off + k * 3 + 2, none⟩ = some (.int .i64 c.line))
    (first | exact ⟨q0, q1, q2⟩ | exact ⟨(((Below.refl wo.heap.size wo).alloc (Nat.le_refl _) _).cell lg).trans q0, (((Below.refl wo.heap.size wo).alloc (Nat.le_refl _) _).cell lg).trans q1, (((Below.refl wo.heap.size wo).alloc (Nat.le_refl _) _).cell lg).trans q2⟩ | exact ⟨((hbA).cell lg).trans q0, ((hbA).cell lg).trans q1, ((hbA).cell lg).trans q2⟩ | exact ⟨((hbA.alloc hbA.size _).cell lg).trans q0, ((hbA.alloc hbA.size _).cell lg).trans q1, ((hbA.alloc hbA.size _).cell lg).trans q2⟩ | exact ⟨(World.cell?_of_block (hgrow.block g (Nat.lt_of_lt_of_le lg hbA.size) (fun e => by have := (HOW.out.lt _ e.symm).1; omega))).trans ((hbA.cell lg).trans q0), (World.cell?_of_block (hgrow.block g (Nat.lt_of_lt_of_le lg hbA.size) (fun e => by have := (HOW.out.lt _ e.symm).1; omega))).trans ((hbA.cell lg).trans q1), (World.cell?_of_block (hgrow.block g (Nat.lt_of_lt_of_le lg hbA.size) (fun e => by have := (HOW.out.lt _ e.symm).1; omega))).trans ((hbA.cell lg).trans q2)⟩)
    (first
     | (refine step_clone (w := wo) wo.heap.size rfl rfl (.tmp 18) (.tmp 23) 24 rfl 9 _ 1 16 info_strs Tryz.underlying24 rfl (by decide) rfl ⟨rfl, rfl, rfl, rfl⟩ lo hi _ c.fields.length (c.fields.map .string) rfl (hRF.out.1.same ⟨rfl, rfl, rfl, rfl⟩) hRF.out.2 hm1 hm2 ?_; intro v1 w2 hownA hbA; obtain ⟨A1, n1, rfl, -, -, -⟩ := (Rds.of_own hownA).shape)
     | (refine step_push_at (w := w2) w2.heap.size rfl rfl (.tmp 12) (.tmp 31) 29 rfl 68 _ 3 48 info_RecT Tryz.underlying29 rfl (by decide) (by decide) w.heap.size _ _ _ rfl (own_later HOW.out hbA) #[.string c.name, .slice A1 c.fields.length n1, .int .i64 c.line] 1 68 rfl ⟨rfl, rfl, rfl, rfl⟩ rfl (by simp [Value.oneCell']) hm3 (Nat.le_trans hz hbA.size) ?_; intro v' w3 hown3 hgrow hat))
   have HP := Lib.hid (HRR.out.push HC.out hbA hownA hown3 hgrow (by rcases hat with e | e; exact .inl e; exact .inr e))
   clear hown3 hgrow hat hownA hbA q0 q1 q2
   go_wp2_with fail
   go_roundw
   case rel => exact ⟨k + 1, _, by omega, by go_num, HP.out⟩
   case measure => simp [intOf]; omega
  ·obtain rfl : k = l.length := by omega
   go_wp2_with fail
   go_ret
   exact ⟨_, rfl, hR.made, hw⟩
end Go.Proofs.YtjeomamdlmoghaaGreatDoor
end
section
namespace Go.Proofs.YtjeomamdlmoghaaGreatDoor
open Go.RowKit
theorem wpList_push_at {P : Program} {w : World} {ops : Array Oper} {rest : List Oper} {o : Oper} {a : Act} {Q : Exit → Act → World → Prop} (p : Nat) (hp : p = w.heap.size) (hgd : o.guard = none) (s x : Operand) (t : TypeId)
 (ho : o.op = .call { callee := .builtin .append, args := #[s, x], argTypes := #[t, t] })
 (e : TypeId) (z : Value) (size bytes : Nat) (hinfo : (P.info? e).map (fun i => (i.zero, i.size, i.bytes)) = some (some z, size, bytes)) (ht : P.underlying t = some (.slice e)) (hzs : z.cells.size = size) (hsz : 0 < size) (hby : 0 < bytes)
 (base : Nat) (v : Value) (n : Nat) (xs : List Value) (hs : a.eval s = v) (hown : w.ownsRow base e size v n xs)
 (cs : Array Value) (c : Nat) (t' : TypeId) (hx : a.eval x = .slice (some ⟨p, 0, none⟩) 1 c) (hl : cs.size = size) (h1 : ∀ u ∈ cs.toList, u.oneCell' = true)
 (hroom : (n + 1) * bytes ≤ 140737488355328) (hbase : base ≤ w.heap.size)
 (h : ∀ v' w', w'.ownsRow base e size v' (n + 1) (xs ++ cs.toList) → w.grownBy w' v.ownBlock → (v'.ownBlock = v.ownBlock ∨ v'.ownBlock = some (w.heap.size + 1)) → wpList P ops Q rest (a.put o.dst v') w') : wpList P ops Q (o :: rest) a (w.alloc (.cells cs t')) := by
 subst hp
 exact wpList_push hgd s x t ho e z size bytes hinfo ht hzs hsz hby base v n xs hs hown cs c t' hx hl h1 hroom hbase h
theorem drop_cons {α : Type} {l : List α} {k : Nat} {x : α} (h : l[k]? = some x) : l.drop k = x :: l.drop (k + 1) := by
 obtain ⟨hk, rfl⟩ := List.getElem?_eq_some_iff.1 h
 exact List.drop_eq_getElem_cons hk
def OwnP (w : World) (P : Nat → Prop) (ds : List Dat) (vs : List Value) : Prop := ∃ F : List Nat, OwnVs w ds F vs ∧ F.Nodup ∧ ∀ g ∈ F, P g
section
variable {w w' : World} {P Q : Nat → Prop} {ds : List Dat} {vs : List Value} {c x : CoreT} {l : List CoreT} {v : Value}
theorem OwnP.set_ (h : OwnP w P ds vs) {p : Addr} (hp : ¬ P p.block) (u : Value) : OwnP (w.setCell p u) P ds vs := by
 obtain ⟨F, h1, h2, h3⟩ := h
 exact ⟨F, h1.kept fun g hg => Below.heap_setCell w p u g fun e => hp (e ▸ h3 g hg), h2, h3⟩
theorem OwnP.weak (h : OwnP w P ds vs) (hq : ∀ g, P g → Q g) : OwnP w Q ds vs := by
 obtain ⟨F, h1, h2, h3⟩ := h
 exact ⟨F, h1, h2, fun g hg => hq g (h3 g hg)⟩
theorem OwnP.later (h : OwnP w P ds vs) (hb : Below w.heap.size w w') : OwnP w' P ds vs := by
 obtain ⟨F, h1, h2, h3⟩ := h
 exact ⟨F, h1.kept fun g hg => hb.block g (h1.lt g hg), h2, h3⟩
theorem OwnP.node (h : OwnP w P [.row 6 l.length (flat CoreT.dats l)] [v]) : OwnP w P (c.with l).dats [Value.int .i64 c.kind, .int .i64 c.op, .int .i64 c.number, .int .i64 c.line, .string c.text, v] := by
 obtain ⟨F, h1, h2, h3⟩ := h
 have H : OwnVs w [.int .i64 c.kind, .int .i64 c.op, .int .i64 c.number, .int .i64 c.line, .str c.text, .row 6 l.length (flat CoreT.dats l)] F [Value.int .i64 c.kind, .int .i64 c.op, .int .i64 c.number, .int .i64 c.line, .string c.text, v] := OwnVs.cons_ .mkInt (OwnVs.cons_ .mkInt (OwnVs.cons_ .mkInt (OwnVs.cons_ .mkInt (OwnVs.cons_ .mkStr h1))))
 exact ⟨F, by rw [CoreT.dats_g]; simpa [CoreT.with, CoreT.kind, CoreT.op, CoreT.number, CoreT.line, CoreT.text, CoreT.kids] using H, h2, h3⟩
theorem OwnP.elem {j : Nat} (h : OwnP w P [.row 6 l.length (flat CoreT.dats l)] [v]) (hx : l[j]? = some x) : ∃ g cap A m, v = .slice (some ⟨g, 0, none⟩) l.length cap ∧ P g ∧ (∀ i u, [Value.int .i64 x.kind, .int .i64 x.op, .int .i64 x.number, .int .i64 x.line, .string x.text, .slice A x.kids.length m][i]? = some u → w.cell? ⟨g, j * 6 + i, none⟩ = some u) ∧ OwnP w P x.dats [Value.int .i64 x.kind, .int .i64 x.op, .int .i64 x.number, .int .i64 x.line, .string x.text, .slice A x.kids.length m] := by
 obtain ⟨F, h1, h2, h3⟩ := h
 obtain ⟨F1, F2, v', vs', rfl, hv, h4, h5⟩ := h1.out
 injection hv with hv1 hv2
 subst hv1 hv2
 obtain ⟨rfl, -⟩ := h5.outNil
 rw [List.append_nil] at h2 h3
 have hj := (List.getElem?_eq_some_iff.1 hx).1
 have hfl : flat CoreT.dats l = flat CoreT.dats (l.take j) ++ (x.dats ++ flat CoreT.dats (l.drop (j + 1))) := by
  rw [← flat_cons, ← flat_app, ← drop_cons hx, List.take_append_drop]
 rw [hfl] at h4
 have ht : (flat CoreT.dats (l.take j)).length = j * 6 := by rw [flat_len CoreT.dats_len, List.length_take, Nat.min_eq_left (Nat.le_of_lt hj)]
 obtain ⟨g, cap, t, F1, Fe, F2, va, ue, vb, rfl, rfl, hown, hva, hue, o1, oe, o2⟩ := h4.elem hj ht x.dats_len
 obtain ⟨A, m, Fk, rfl, rfl, -⟩ := CoreT.ownOut oe
 refine ⟨g, cap, A, m, rfl, h3 g (by simp), fun i u hi => ?_, Fe, oe, (nodup_elem h2).1, fun b hb => h3 b (mem_elem (List.mem_cons_of_mem _ hb))⟩
 have hlt : i < 6 := by have := (List.getElem?_eq_some_iff.1 hi).1; simpa using this
 exact own_mid hown hva (by omega) hi
end
section
variable {M B lo k n : Nat} {t e : TypeId} {w wr w1 w2 : World} {l l' : List CoreT} {ls vs us : List Value} {v v' : Value} {x : CoreT}
def Pick (M B lo : Nat) (e : TypeId) (wr : World) (l : List CoreT) (ls : List Value) (k : Nat) (l' : List CoreT) (v : Value) (vs : List Value) : Prop :=
 ∃ F1 F2 va vb F', ls = va ++ vb ∧ va.length = k * 6 ∧ OwnVs wr (flat CoreT.dats (l.take k)) F1 va ∧ OwnVs wr (flat CoreT.dats (l.drop k)) F2 vb ∧ (F1 ++ F2).Nodup ∧ (∀ g ∈ F1 ++ F2, lo ≤ g ∧ g < M) ∧
  wr.ownsRow B e 6 v l'.length vs ∧ OwnVs wr (flat CoreT.dats l') F' vs ∧ F'.Nodup ∧ ∀ g ∈ F', g ∈ F1
theorem Pick.start {F : List Nat} (h : OwnVs wr (flat CoreT.dats l) F ls) (hF : F.Nodup) (hb : ∀ g ∈ F, lo ≤ g ∧ g < M) (ho : wr.ownsRow B e 6 v 0 []) : Pick M B lo e wr l ls 0 [] v [] :=
 ⟨[], F, [], ls, [], rfl, rfl, by simp only [List.take_zero, flat_nil]; exact .nil_, h, by simpa using hF, by simpa using hb, ho, by simp only [flat_nil]; exact .nil_, List.nodup_nil, by simp⟩
theorem Pick.own (h : Pick M B lo e wr l ls k l' v vs) : wr.ownsRow B e 6 v l'.length vs := by obtain ⟨F1, F2, va, vb, F', -, -, -, -, -, -, h, -⟩ := h; exact h
theorem Pick.later (h : Pick M B lo e wr l ls k l' v vs) (hb : Below wr.heap.size wr w1) : Pick M B lo e w1 l ls k l' v vs := by
 obtain ⟨F1, F2, va, vb, F', h1, h2, h3, h4, h5, h6, h7, h8, h9, h10⟩ := h
 exact ⟨F1, F2, va, vb, F', h1, h2, h3.kept fun g hg => hb.block g (h3.lt g hg), h4.kept fun g hg => hb.block g (h4.lt g hg), h5, h6, own_later h7 hb, h8.kept fun g hg => hb.block g (h8.lt g hg), h9, h10⟩
theorem Pick.at_ (h : Pick M B lo e wr l ls k l' v vs) (hx : l[k]? = some x) :
 ∃ va A m vb, ls = va ++ ([Value.int .i64 x.kind, .int .i64 x.op, .int .i64 x.number, .int .i64 x.line, .string x.text, .slice A x.kids.length m] ++ vb) ∧ va.length = k * 6 := by
 obtain ⟨F1, F2, va, vb, F', rfl, h2, h3, h4, -⟩ := h
 rw [drop_cons hx, flat_cons] at h4
 obtain ⟨Fe, F3, ue, vc, rfl, rfl, h5, h6⟩ := h4.parts
 obtain ⟨A, m, Fk, rfl, rfl, -⟩ := CoreT.ownOut h5
 exact ⟨va, A, m, vc, rfl, h2⟩
theorem Pick.skip (h : Pick M B lo e wr l ls k l' v vs) (hx : l[k]? = some x) : Pick M B lo e wr l ls (k + 1) l' v vs := by
 obtain ⟨F1, F2, va, vb, F', rfl, h2, h3, h4, h5, h6, h7, h8, h9, h10⟩ := h
 rw [drop_cons hx, flat_cons] at h4
 obtain ⟨Fe, F3, ue, vc, rfl, rfl, h11, h12⟩ := h4.parts
 have hu := h11.len
 rw [CoreT.dats_len] at hu
 exact ⟨F1 ++ Fe, F3, va ++ ue, vc, F', by rw [List.append_assoc], by rw [List.length_append, h2, hu]; omega, by rw [flat_snoc hx]; exact h3.app h11, h12, by rw [List.append_assoc]; exact h5, by rw [List.append_assoc]; exact h6, h7, h8, h9, fun g hg => List.mem_append_left _ (h10 g hg)⟩
theorem Pick.push (h : Pick M B lo e wr l ls k l' v vs) (hx : l[k]? = some x) {va vb : List Value} (hls : ls = va ++ (us ++ vb)) (hva : va.length = k * 6) (hus : us.length = 6) (hb : Below wr.heap.size wr w1) (hB : B ≤ wr.heap.size)
 (ho : w2.ownsRow B e 6 v' (l'.length + 1) (vs ++ us)) (hgr : w1.grownBy w2 v.ownBlock) (hM : M ≤ B) : Pick M B lo e w2 l ls (k + 1) (l' ++ [x]) v' (vs ++ us) := by
 obtain ⟨F1, F2, va', vb', F', rfl, h2, h3, h4, h5, h6, h7, h8, h9, h10⟩ := h
 obtain ⟨rfl, hvb⟩ := List.append_inj hls (by rw [h2, hva])
 rw [drop_cons hx, flat_cons] at h4
 obtain ⟨Fe, F3, ue, vc, rfl, rfl, h11, h12⟩ := h4.parts
 have hu := h11.len
 rw [CoreT.dats_len] at hu
 obtain ⟨rfl, rfl⟩ := List.append_inj hvb (by rw [hu, hus])
 have K : ∀ g, g < B → w2.heap[g]? = wr.heap[g]? := fun g hg => (hgr.block g (Nat.lt_of_lt_of_le hg (Nat.le_trans hB hb.size)) (fun q => by have := (h7.lt g q.symm).1; omega)).trans (hb.block g (by omega))
 have b1 : ∀ g ∈ F1, g < B := fun g hg => Nat.lt_of_lt_of_le (h6 g (by simp [hg])).2 hM
 have be : ∀ g ∈ Fe, g < B := fun g hg => Nat.lt_of_lt_of_le (h6 g (by simp [hg])).2 hM
 have b3 : ∀ g ∈ F3, g < B := fun g hg => Nat.lt_of_lt_of_le (h6 g (by simp [hg])).2 hM
 have h3' := h3.kept (w' := w2) fun g hg => K g (b1 g hg)
 have h11' := h11.kept (w' := w2) fun g hg => K g (be g hg)
 have h12' := h12.kept (w' := w2) fun g hg => K g (b3 g hg)
 have h8' := h8.kept (w' := w2) fun g hg => K g (b1 g (h10 g hg))
 rw [← List.append_assoc] at h5
 have h13 := List.nodup_append.1 (List.nodup_append.1 h5).1
 refine ⟨F1 ++ Fe, F3, va' ++ ue, vc, F' ++ Fe, by rw [List.append_assoc], by rw [List.length_append, h2, hu]; omega, by rw [flat_snoc hx]; exact h3'.app h11', h12', h5, by rw [List.append_assoc]; exact h6, by rw [List.length_append]; exact ho, by rw [flat_app, flat_cons, flat_nil, List.append_nil]; exact h8'.app h11', List.nodup_append.2 ⟨h9, h13.2.1, fun a ha b hb' => h13.2.2 a (h10 a ha) b hb'⟩, fun g hg => ?_⟩
 rcases List.mem_append.1 hg with hg | hg
 ·exact List.mem_append_left _ (h10 g hg)
 ·exact List.mem_append_right _ hg
theorem Pick.made (h : Pick M B lo e wr l ls k l' v vs) (hB : lo ≤ B) (hM : M ≤ B) : OwnP wr (fun g => lo ≤ g ∧ g < wr.heap.size ∧ ¬ (M ≤ g ∧ g < B)) [.row 6 l'.length (flat CoreT.dats l')] [v] := by
 obtain ⟨F1, F2, va, vb, F', rfl, h2, h3, h4, h5, h6, h7, h8, h9, h10⟩ := h
 refine ⟨_, OwnVs.cons_ (OwnV.mkRow h7 h8) .nil_, ?_, fun g hg => ?_⟩
 ·rw [List.append_nil]
  refine List.nodup_append.2 ⟨?_, h9, fun a ha b hb q => ?_⟩
  ·cases v.ownBlock <;> simp
  ·subst q
   have := (h7.lt a (by simpa using ha)).1
   have := (h6 a (List.mem_append_left _ (h10 a hb))).2
   omega
 ·rw [List.append_nil] at hg
  rcases List.mem_append.1 hg with hg | hg
  ·have := h7.lt g (by simpa using hg); omega
  ·have := h6 g (List.mem_append_left _ (h10 g hg)); have := h8.lt g hg; omega
end
theorem keepL_next {n k : Nat} {l : List CoreT} {x : CoreT} (hx : l[k]? = some x) : keepL n k (l.drop k) = (if keepB n k x = true then [x] else []) ++ keepL n (k + 1) (l.drop (k + 1)) := by
 rw [drop_cons hx, keepL]
 split <;> simp_all
end Go.Proofs.YtjeomamdlmoghaaGreatDoor
end
section
namespace Go.Proofs.YtjeomamdlmoghaaGreatDoor
open Go
section
variable {P : Program} {ops : Array Oper} {Q : Exit → Act → World → Prop} {md : Region.Mode} {S : World → Prop} {k : Nat}
def AnyBut (P : Program) (md : Region.Mode) (ops : Array Oper) (Q : Exit → Act → World → Prop) (S : World → Prop) (k : Nat) : Nat → Array Bool → Act → World → Prop
 | 0, listed, a, w => Region.ready md ops listed = [] ∧ Q .normal a w
 | n + 1, listed, a, w =>
   (Region.ready md ops listed = [] → Q .normal a w) ∧
   ∀ i ∈ Region.ready md ops listed, wpOp P ops Q i (fun b v => (i ≠ k → S v) ∧ AnyBut P md ops Q S k n (listed.setIfInBounds i true) b v) a w
theorem AnyBut.any : ∀ (n : Nat) (listed : Array Bool) (a : Act) (w : World), AnyBut P md ops Q S k n listed a w → wpAny P md ops Q n listed a w
 | 0, _, _, _, h => h
 | n + 1, _, _, _, h => ⟨h.1, fun i hi => wpOp_mono (fun b v hb => AnyBut.any n _ b v hb.2) (h.2 i hi)⟩
theorem anyBut_start {id : Nat} {a : Act} {w : World} (hm : P.follows .mixedOrders = true) (h : AnyBut P .any ops Q S k ops.size (Array.replicate ops.size false) a w.drew) : (Code.region id ops true).wp P Q a w :=
 wp_region_any hm (h.any)
theorem anyBut_first {i : Nat} {oi : Oper} {v : Value} (hi : ops[i]? = some oi) (hsel : ∀ (j : Nat) (o : Oper) cs b, ops[j]? = some o → o.op ≠ .select cs b)
 (hQ : ∀ c a w, Q (.panic c) (a.put oi.dst v) w → Q (.panic c) a w) (hki : Region.waitsFor md ops k i = true) (n : Nat) :
 ∀ (listed : Array Bool) (a : Act) (w : World),
  (∀ j oj, ops[j]? = some oj → j ≠ i → listed.getD j true = false → (∀ e ∈ oj.after, Region.binds md e = true → e.on ≠ i) → oi.apart ops oj = true) →
  i ∈ Region.ready md ops listed → YieldsIf P ops S oi v a → S w →
  AnyBut P md ops Q S k n (listed.setIfInBounds i true) (a.put oi.dst v) w → AnyBut P md ops Q S k (n + 1) listed a w := by
 have waits : ∀ (listed : Array Bool) (j : Nat), i ∈ Region.ready md ops listed → j ∈ Region.ready md ops listed → ∀ oj, ops[j]? = some oj → ∀ e ∈ oj.after, Region.binds md e = true → e.on ≠ i := by
  intro listed j hir hjr oj hoj e he hb heq
  obtain ⟨-, oj', hoj', hall⟩ := mem_ready.1 hjr
  obtain rfl : oj' = oj := Option.some.inj (hoj'.symm.trans hoj)
  have h1 := hall e he hb
  rw [heq, getD_both (mem_ready.1 hir).1] at h1
  cases h1
 have notk : ∀ (listed : Array Bool) (j : Nat), i ∈ Region.ready md ops listed → j ∈ Region.ready md ops listed → j ≠ k := by
  rintro listed j hir hjr rfl
  obtain ⟨oj, hoj, e, he, hb, hon⟩ := Region.waitsFor_spec hki
  exact waits listed j hir hjr oj hoj e he hb hon
 induction n with
 | zero =>
   intro listed a w _ hr hy hS H
   refine ⟨fun h => (by rw [h] at hr; cases hr), fun j hj => ?_⟩
   rcases Nat.decEq j i with hji | hji
   ·have hm := ready_mono hj hji
    rw [H.1] at hm
    cases hm
   ·subst hji
    exact hy.wpOp hi hS ⟨fun _ => hS, H⟩
 | succ n ih =>
   intro listed a w hfree hr hy hS H
   refine ⟨fun h => (by rw [h] at hr; cases hr), fun j hj => ?_⟩
   rcases Nat.decEq j i with hji | hji
   ·obtain ⟨hun, oj, hoj, -⟩ := mem_ready.1 hj
    have hstep := wpOp_putIf hoj (hfree j oj hoj hji hun (waits listed j hr hj oj hoj)) (fun cs b => hsel i oi cs b hi) (fun cs b => hsel j oj cs b hoj) hQ hy (H.2 j (ready_mono hj hji))
    have hjk := notk listed j hr hj
    refine wpOp_mono (fun b v hb => ?_) hstep
    obtain ⟨hy', hS', hrest⟩ := hb
    refine ⟨hS', ih _ b v (fun l ol hol hli hul hno => hfree l ol hol hli ?_ hno) (ready_mono hr fun e => hji e.symm) hy' (hS' hjk) (by rw [Array.setIfInBounds_comm _ _ hji]; exact hrest)⟩
    rcases Nat.decEq j l with hjl | hjl
    ·rw [getD_set_ne true hjl] at hul; exact hul
    ·rw [← hjl]; exact hun
   ·subst hji
    exact hy.wpOp hi hS ⟨fun _ => hS, H⟩
theorem anyBut_take (i : Nat) {oi : Oper} {v : Value} {n : Nat} {listed : Array Bool} {a : Act} {w : World} (hi : ops[i]? = some oi)
 (hs : Region.noSelect ops = true) (hf : Region.free md ops listed i = true) (hr : (Region.ready md ops listed).contains i = true) (hki : Region.waitsFor md ops k i = true)
 (hQ : ∀ c a w, Q (.panic c) (a.put oi.dst v) w → Q (.panic c) a w) (hy : YieldsIf P ops S oi v a) (hS : S w)
 (h : AnyBut P md ops Q S k n (listed.setIfInBounds i true) (a.put oi.dst v) w) : AnyBut P md ops Q S k (n + 1) listed a w :=
 anyBut_first hi (Region.noSelect_spec hs) hQ hki n listed a w (Region.free_spec hi hf) (by simpa using hr) hy hS h
def StepBut (P : Program) (md : Region.Mode) (ops : Array Oper) (Q : Exit → Act → World → Prop) (S : World → Prop) (k n : Nat) (listed : Array Bool) (a : Act) (w : World) (rs : List Nat) : Prop :=
 ∀ i ∈ rs, wpOp P ops Q i (fun b v => (i ≠ k → S v) ∧ AnyBut P md ops Q S k n (listed.setIfInBounds i true) b v) a w
theorem anyBut_ready (rs : List Nat) {n : Nat} {listed : Array Bool} {a : Act} {w : World} (hr : Region.ready md ops listed = rs) (hne : rs.isEmpty = false) (h : StepBut P md ops Q S k n listed a w rs) : AnyBut P md ops Q S k (n + 1) listed a w :=
 ⟨fun h0 => (by rw [hr] at h0; rw [h0] at hne; cases hne), fun i hi => h i (hr ▸ hi)⟩
theorem StepBut.nil_ {n : Nat} {listed : Array Bool} {a : Act} {w : World} : StepBut P md ops Q S k n listed a w [] := fun _ h => by cases h
theorem StepBut.cons_ {n : Nat} {listed : Array Bool} {a : Act} {w : World} {i : Nat} {o : Oper} {rs : List Nat} (ho : ops[i]? = some o)
 (h : ∀ K : Act → World → Prop, Shut (∀ b v, (i ≠ k → S v) → AnyBut P md ops Q S k n (listed.setIfInBounds i true) b v → K b v) → if Region.wanted o (yielded ops a.tmps) = true then Oper.wp P o a w K Q else K (a.put o.dst undef) w)
 (hs : StepBut P md ops Q S k n listed a w rs) : StepBut P md ops Q S k n listed a w (i :: rs) := fun j hj => by
 rcases List.mem_cons.1 hj with rfl | hj
 ·exact wpOp_step ho fun K hK => h K fun b v hS hA => hK b v ⟨hS, hA⟩
 ·exact hs j hj
theorem anyBut_done {listed : Array Bool} {a : Act} {w : World} (hr : Region.ready md ops listed = []) (h : Q .normal a w) : ∀ n, AnyBut P md ops Q S k n listed a w
 | 0 => ⟨hr, h⟩
 | _ + 1 => ⟨fun _ => h, by rw [hr]; simp⟩
end
end Go.Proofs.YtjeomamdlmoghaaGreatDoor
end
section
namespace Go.Proofs.YtjeomamdlmoghaaGreatDoor
open Go.RowKit
def FoldPR (c : ProgT) (w : World) (e : Ending) (w' : World) : Prop := ∃ cs : List Value, e = .returned (.tuple #[.agg cs.toArray, .bool (validProg c)]) ∧ OwnR w' w.heap.size w'.heap.size (foldP c).dats cs ∧ Below w.heap.size w w'
def PHeads (lo hi g4 : Nat) (w : World) (c : ProgT) (v1 v2 : Value) : Prop := ∃ F1 F2 : List Nat, OwnV w (.row 3 c.records.length (flat RecT.dats c.records)) F1 v1 ∧ OwnV w (.row 1 c.globals.length (flat strDats c.globals)) F2 v2 ∧ (F1 ++ F2).Nodup ∧ ∀ g ∈ F1 ++ F2, lo ≤ g ∧ g < hi ∧ g ≠ g4
theorem PHeads.kept {lo hi g4 : Nat} {w w' : World} {c : ProgT} {v1 v2 : Value} (h : PHeads lo hi g4 w c v1 v2) (hk : ∀ g, lo ≤ g → g < hi → g ≠ g4 → w'.heap[g]? = w.heap[g]?) : PHeads lo hi g4 w' c v1 v2 := by
 obtain ⟨F1, F2, h1, h2, h3, h4⟩ := h
 have H : ∀ g ∈ F1 ++ F2, w'.heap[g]? = w.heap[g]? := fun g hg => hk g (h4 g hg).1 (h4 g hg).2.1 (h4 g hg).2.2
 exact ⟨F1, F2, h1.kept fun g hg => H g (List.mem_append_left _ hg), h2.kept fun g hg => H g (List.mem_append_right _ hg), h3, h4⟩
theorem PHeads.below {lo hi g4 B : Nat} {w w' : World} {c : ProgT} {v1 v2 : Value} (h : PHeads lo hi g4 w c v1 v2) (hb : Below B w w') (hB : hi ≤ B) : PHeads lo hi g4 w' c v1 v2 := h.kept fun g _ h2 _ => hb.block g (Nat.lt_of_lt_of_le h2 hB)
theorem PHeads.set_ {lo hi g4 : Nat} {w : World} {c : ProgT} {v1 v2 : Value} (h : PHeads lo hi g4 w c v1 v2) (i : Nat) (u : Value) : PHeads lo hi g4 (w.setCell ⟨g4, i, none⟩ u) c v1 v2 := h.kept fun g _ _ h3 => Below.heap_setCell w ⟨g4, i, none⟩ u g h3
theorem PHeads.mk_ {W : World} {c : ProgT} {v1 v2 : Value} {lo g4 a b p : Nat} {e : TypeId} (h1 : OwnLR W a b 3 RecT.dats v1 c.records) (h2 : W.ownsRow p e 1 v2 c.globals.length (c.globals.map .string))
 (hd : ∀ g, v2.ownBlock = some g → (g < a ∨ b ≤ g) ∧ lo ≤ g ∧ g ≠ g4) (hlo : lo ≤ a) (hz : g4 < a ∨ b ≤ g4) : PHeads lo W.heap.size g4 W c v1 v2 := by
 obtain ⟨F1, a1, a2, a3⟩ := h1
 obtain ⟨F2, b1, b2, b3⟩ := OwnLR.texts (own_base h2 (base' := 0) (fun _ _ => Nat.zero_le _)) (Nat.le_refl _)
 obtain ⟨e2, vs2, F3, q1, q2, q3⟩ := b1.row_
 have hF3 : F3 = [] := q3.flatNil fun d hd => by
  obtain ⟨s, -, hs⟩ := List.mem_flatMap.1 hd
  simp [strDats] at hs; subst hs; trivial
 subst hF3
 rw [List.append_nil] at q2
 have hb : ∀ g ∈ F2, v2.ownBlock = some g := fun g hg => by rw [q2] at hg; simpa using hg
 refine ⟨F1, F2, a1, b1, List.nodup_append.2 ⟨a2, b2, fun x hx y hy he => ?_⟩, fun g hg => ?_⟩
 ·subst he
  have := a3 x hx; have := (hd x (hb x hy)).1; omega
 ·rcases List.mem_append.1 hg with hg | hg
  ·have h4 := a1.lt g hg; have := a3 g hg; exact ⟨by omega, h4, by omega⟩
  ·have h4 := b1.lt g hg; have h5 := hd g (hb g hg); exact ⟨h5.2.1, h4, h5.2.2⟩
theorem rout_own {W : World} {c : RouT} {lo a b p : Nat} {e : TypeId} {v1 vk : Value} {G : List Nat} (h1 : W.ownsRow p e 1 v1 c.slots.length (c.slots.map .string))
 (hd : ∀ g, v1.ownBlock = some g → (g < a ∨ b ≤ g) ∧ lo ≤ g)
 (h2 : OwnVs W c.body.dats G [.int .i64 c.body.kind, .int .i64 c.body.op, .int .i64 c.body.number, .int .i64 c.body.line, .string c.body.text, vk]) (hG : G.Nodup) (hGb : ∀ g ∈ G, a ≤ g ∧ g < b) (hlo : lo ≤ a) :
 ∃ F, OwnVs W c.dats F [.string c.name, .int .i64 c.params, v1, .int .i64 c.body.kind, .int .i64 c.body.op, .int .i64 c.body.number, .int .i64 c.body.line, .string c.body.text, vk] ∧ F.Nodup ∧ ∀ g ∈ F, lo ≤ g := by
 obtain ⟨A, n, F1, rfl, he, hk⟩ := CoreT.ownOut h2
 simp only [List.cons.injEq, and_true, true_and] at he
 obtain rfl := he
 obtain ⟨F2, b1, b2, b3⟩ := OwnLR.texts (own_base h1 (base' := 0) (fun _ _ => Nat.zero_le _)) (Nat.le_refl _)
 obtain ⟨e2, vs2, F3, q1, q2, q3⟩ := b1.row_
 have hF3 : F3 = [] := q3.flatNil fun d hd => by
  obtain ⟨s, -, hs⟩ := List.mem_flatMap.1 hd
  simp [strDats] at hs; subst hs; trivial
 subst hF3
 rw [List.append_nil] at q2
 have hb : ∀ g ∈ F2, v1.ownBlock = some g := fun g hg => by rw [q2] at hg; simpa using hg
 refine ⟨_, RouT.ownIn b1 hk, List.nodup_append.2 ⟨b2, hG, fun x hx y hy he => ?_⟩, fun g hg => ?_⟩
 ·subst he
  have := hGb x hy; have := (hd x (hb x hx)).1; omega
 ·rcases List.mem_append.1 hg with hg | hg
  ·exact (hd g (hb g hg)).2
  ·have := hGb g hg; omega
theorem PHeads.prog {W : World} {c : ProgT} {l : List RouT} {v v1 v2 : Value} {lo hi g4 B : Nat} {e : TypeId} {vs : List Value} (h : PHeads lo hi g4 W c v1 v2) (hg : Grow B e 9 RouT.dats W l v vs) (hB : hi ≤ B) (hl : lo ≤ B) :
 OwnP W (fun g => lo ≤ g ∧ g < W.heap.size) (⟨l, c.records, c.globals, c.main⟩ : ProgT).dats [v, v1, v2, .int .i64 c.main] := by
 obtain ⟨F1, F2, h1, h2, h3, h4⟩ := h
 obtain ⟨F0, a1, a2, a3⟩ := hg.ownV
 have H : OwnVs W [.row 9 l.length (flat RouT.dats l), .row 3 c.records.length (flat RecT.dats c.records), .row 1 c.globals.length (flat strDats c.globals), .int .i64 c.main] (F0 ++ (F1 ++ (F2 ++ ([] ++ [])))) [v, v1, v2, .int .i64 c.main] := OwnVs.cons_ a1 (OwnVs.cons_ h1 (OwnVs.cons_ h2 (OwnVs.cons_ .mkInt .nil_)))
 simp only [List.append_nil] at H
 refine ⟨_, H, List.nodup_append.2 ⟨a2, h3, fun x hx y hy he => ?_⟩, fun g hg => ?_⟩
 ·subst he
  have := a3 x hx; have := h4 x hy; omega
 ·rcases List.mem_append.1 hg with hg | hg
  ·have := a3 g hg; have := a1.lt g hg; omega
  ·have := h4 g hg
   rcases List.mem_append.1 hg with hg | hg
   ·have := h1.lt g hg; omega
   ·have := h2.lt g hg; omega
theorem PHeads.set4 {lo hi g4 : Nat} {w : World} {c : ProgT} {v1 v2 : Value} (h : PHeads lo hi g4 w c v1 v2) (u0 u1 u2 u3 : Value) :
 PHeads lo hi g4 ((((w.setCell ⟨g4, 0, none⟩ u0).setCell ⟨g4, 1, none⟩ u1).setCell ⟨g4, 2, none⟩ u2).setCell ⟨g4, 3, none⟩ u3) c v1 v2 := (((h.set_ 0 u0).set_ 1 u1).set_ 2 u2).set_ 3 u3
theorem PHeads.alloc1 {lo g4 : Nat} {w : World} {c : ProgT} {v1 v2 : Value} (h : PHeads lo w.heap.size g4 w c v1 v2) (o : Obj) : PHeads lo w.heap.size g4 (w.alloc o) c v1 v2 := h.below ((Below.refl w.heap.size w).alloc (Nat.le_refl _) o) (Nat.le_refl _)
theorem alloc_le (w : World) (o : Obj) : w.heap.size ≤ (w.alloc o).heap.size := by simp
theorem set4_le (w : World) (g : Nat) (u0 u1 u2 u3 : Value) : w.heap.size ≤ ((((w.setCell ⟨g, 0, none⟩ u0).setCell ⟨g, 1, none⟩ u1).setCell ⟨g, 2, none⟩ u2).setCell ⟨g, 3, none⟩ u3).heap.size := by simp [World.setCell]
theorem Blk.set4 {w : World} {g : Nat} {t : TypeId} {a0 a1 a2 a3 : Value} (h : Blk w g t #[a0, a1, a2, a3]) (u0 u1 u2 u3 : Value) :
 Blk ((((w.setCell ⟨g, 0, none⟩ u0).setCell ⟨g, 1, none⟩ u1).setCell ⟨g, 2, none⟩ u2).setCell ⟨g, 3, none⟩ u3) g t #[u0, u1, u2, u3] := (((h.set_ 0 u0).set_ 1 u1).set_ 2 u2).set_ 3 u3
theorem foldR_next {l : List RouT} {k : Nat} {x : RouT} (h : l[k]? = some x) : (l.take (k + 1)).map foldR = (l.take k).map foldR ++ [foldR x] := by rw [take_snoc_of h, List.map_append]; rfl
theorem OwnR.zeroP {w : World} {lo hi : Nat} : OwnR w lo hi zeroP.dats [Value.slice none 0 0, .slice none 0 0, .slice none 0 0, .int .i64 0] := by
 have H : OwnVs w [.row 9 0 [], .row 3 0 [], .row 1 0 [], .int .i64 0] [] [Value.slice none 0 0, .slice none 0 0, .slice none 0 0, .int .i64 0] := OwnVs.cons_ (F1 := []) .nilRow (OwnVs.cons_ (F1 := []) .nilRow (OwnVs.cons_ (F1 := []) .nilRow (OwnVs.cons_ (F1 := []) .mkInt .nil_)))
 exact ⟨[], H, List.nodup_nil, by simp⟩
theorem foldC_prog {c : ProgT} (h : validProg c = true) : ∀ r ∈ c.routines, FoldC r.body := by
 intro r hr
 unfold validProg at h
 simp only [Bool.and_eq_true, List.all_eq_true] at h
 have h1 := h.1.2 r hr
 unfold routOk at h1
 simp only [Bool.and_eq_true] at h1
 exact foldC_of r.body false false h1.2
theorem alloc_size (w : World) (o : Obj) : (w.alloc o).heap.size = w.heap.size + 1 := by simp
theorem Blk.far4 {w : World} {g b : Nat} {t : TypeId} {cs : Array Value} (h : Blk w g t cs) (u0 u1 u2 u3 : Value) (hp : g ≠ b) :
 ∀ i, ((((w.setCell ⟨b, 0, none⟩ u0).setCell ⟨b, 1, none⟩ u1).setCell ⟨b, 2, none⟩ u2).setCell ⟨b, 3, none⟩ u3).cell? ⟨g, i, none⟩ = cs[i]? := ((((h.far hp u0).far hp u1).far hp u2).far hp u3).cell
theorem drew_size (w : World) : w.drew.heap.size = w.heap.size := rfl
theorem own_blk {W : World} {p size : Nat} {e : TypeId} (h : Blk W p e #[]) : W.ownsRow p e size (.slice (some ⟨p, 0, none⟩) 0 0) 0 [] :=
 ⟨by simp, .inr ⟨p, 0, #[], rfl, Nat.le_refl _, h, Nat.zero_le _, Nat.zero_le _, by simp, by simp⟩⟩
theorem step_clone_blk {P : Program} {W : World} {ops : Array Oper} {o : Oper} {a : Act} {K : Act → World → Prop} {Q : Exit → Act → World → Prop} {E : Prop} (hgd : o.guard = none) (s x : Operand) (t : TypeId)
 (ho : o.op = .call { callee := .builtin .append, args := #[s, x], argTypes := #[t, t] })
 (e : TypeId) (z : Value) (size bytes : Nat) (hinfo : (P.info? e).map (fun i => (i.zero, i.size, i.bytes)) = some (some z, size, bytes)) (ht : P.underlying t = some (.slice e)) (hzs : z.cells.size = size) (hsz : 0 < size)
 (p : Nat) (hs : a.eval s = .slice (some ⟨p, 0, none⟩) 0 0) (hE : Blk W p e #[])
 (lo hi' : Nat) (u : Value) (m : Nat) (news : List Value) (hx : a.eval x = u) (hr : Rds W lo hi' size u m news) (h1 : ∀ u ∈ news, u.oneCell' = true)
 (h63 : m ≤ maxLen) (hbytes : m * bytes ≤ 140737488355328)
 (h : ∀ v' w', w'.ownsRow p e size v' m news → W.grownBy w' (some p) → (v'.ownBlock = some p ∨ v'.ownBlock = some W.heap.size) → K (a.put o.dst v') w') :
 if Region.wanted o (yielded ops a.tmps) = true then Oper.wp P o a W K Q else E := by
 have hw : Region.wanted o (yielded ops a.tmps) = true := by simp [Region.wanted, hgd]
 rw [if_pos hw]
 obtain ⟨i0, hi0, hz0, hz1, hz2⟩ := info_parts hinfo
 refine wp_append_any W s x t ho p e i0 z size bytes ht hi0 hz0 hz1 hz2 hzs hsz _ 0 [] hs (own_blk hE) lo hi' u m news hx hr h1 (by omega) (by rw [Nat.zero_add]; exact hbytes) (Nat.le_of_lt hE.lt) ?_
 intro v' w' g1 g2 g3
 exact h v' w' (by simpa using g1) g2 g3
end Go.Proofs.YtjeomamdlmoghaaGreatDoor
end
section
namespace Go.Proofs.YtjeomamdlmoghaaGreatDoor
open Go.RowKit
theorem ret_ints_impl {a b c d : Int} (h1 : a = c) (h2 : b = d) : Ending.returned (.tuple #[.int .i64 a, .int .i64 b]) = .returned (.tuple #[.int .i64 c, .int .i64 d]) := by rw [h1, h2]
theorem impl_OperatorArity (op : Int) (w : World) (ht : SpaceTab w) : Calls Tryz.prog 105 #[.int .i64 op] w fun e w' => e = .returned (.tuple #[.int .i64 (arityLo op), .int .i64 (arityHi op)]) ∧ Below w.heap.size w w' := by
 cases hok : opOk op with
 | false =>
   have HL : Hid (arityLo op = 0) := by show _ = _; simp [arityLo, hok]
   have HH : Hid (arityHi op = -1) := by show _ = _; simp [arityHi, hok]
   have HT := Lib.hid (impl_OperatorText op w ht)
   have HK := Lib.hid hok
   clear hok
   go_enter Tryz.func105, Tryz.ntmps105
   go_wp2_with fail
   refine HT.out.mono ?_; rintro e w1 ⟨t, rfl, h0, hs, hb⟩
   rw [HK.out] at h0
   have h1 : t.toList = [] := by simpa using h0
   go_wp2_with fail
   go_ret2
   exact ⟨ret_ints_impl HL.out.symm HH.out.symm, hb⟩
 | true =>
   have HT := Lib.hid (impl_OperatorText op w ht)
   have HK := Lib.hid hok
   by_cases h11 : op ≤ 11
   ·have HL : Hid (arityLo op = 1) := by show _ = _; unfold arityLo; rw [if_neg (by rw [hok]; decide)]; rw [if_pos (by omega)]
    have HH : Hid (arityHi op = 1) := by show _ = _; unfold arityHi; rw [if_neg (by rw [hok]; decide)]; rw [if_pos (by omega)]
    clear hok
    go_enter Tryz.func105, Tryz.ntmps105
    go_wp2_with fail
    refine HT.out.mono ?_; rintro e w1 ⟨t, rfl, h0, hs, hb⟩
    rw [HK.out] at h0
    simp only [Bool.not_true] at h0
    have h1 : ¬ t.toList = [] := by intro h; rw [h] at h0; cases h0
    go_wp2_with fail
    go_ret2
    exact ⟨ret_ints_impl HL.out.symm HH.out.symm, hb⟩
   by_cases h81 : op = 81
   ·have HL : Hid (arityLo op = 1) := by show _ = _; unfold arityLo; rw [if_neg (by rw [hok]; decide)]; rw [if_pos (by omega)]
    have HH : Hid (arityHi op = 1) := by show _ = _; unfold arityHi; rw [if_neg (by rw [hok]; decide)]; rw [if_pos (by omega)]
    have b81 : (op == 81) = true := beq_iff_eq.2 (by omega)
    clear hok h81
    go_enter Tryz.func105, Tryz.ntmps105
    go_wp2_with fail
    refine HT.out.mono ?_; rintro e w1 ⟨t, rfl, h0, hs, hb⟩
    rw [HK.out] at h0
    simp only [Bool.not_true] at h0
    have h1 : ¬ t.toList = [] := by intro h; rw [h] at h0; cases h0
    go_wp2_with fail
    go_ret2
    exact ⟨ret_ints_impl HL.out.symm HH.out.symm, hb⟩
   by_cases h71 : op = 71
   ·have HL : Hid (arityLo op = 3) := by show _ = _; unfold arityLo; rw [if_neg (by rw [hok]; decide)]; rw [if_neg (by omega)]; rw [if_pos (by omega)]
    have HH : Hid (arityHi op = 3) := by show _ = _; unfold arityHi; rw [if_neg (by rw [hok]; decide)]; rw [if_neg (by omega)]; rw [if_pos (by omega)]
    have b81 : (op == 81) = false := beq_eq_false_iff_ne.2 (by omega)
    have b71 : (op == 71) = true := beq_iff_eq.2 (by omega)
    clear hok h71
    go_enter Tryz.func105, Tryz.ntmps105
    go_wp2_with fail
    refine HT.out.mono ?_; rintro e w1 ⟨t, rfl, h0, hs, hb⟩
    rw [HK.out] at h0
    simp only [Bool.not_true] at h0
    have h1 : ¬ t.toList = [] := by intro h; rw [h] at h0; cases h0
    go_wp2_with fail
    go_ret2
    exact ⟨ret_ints_impl HL.out.symm HH.out.symm, hb⟩
   by_cases h72 : op = 72
   ·have HL : Hid (arityLo op = 3) := by show _ = _; unfold arityLo; rw [if_neg (by rw [hok]; decide)]; rw [if_neg (by omega)]; rw [if_pos (by omega)]
    have HH : Hid (arityHi op = 3) := by show _ = _; unfold arityHi; rw [if_neg (by rw [hok]; decide)]; rw [if_neg (by omega)]; rw [if_pos (by omega)]
    have b81 : (op == 81) = false := beq_eq_false_iff_ne.2 (by omega)
    have b71 : (op == 71) = false := beq_eq_false_iff_ne.2 (by omega)
    have b72 : (op == 72) = true := beq_iff_eq.2 (by omega)
    clear hok h72
    go_enter Tryz.func105, Tryz.ntmps105
    go_wp2_with fail
    refine HT.out.mono ?_; rintro e w1 ⟨t, rfl, h0, hs, hb⟩
    rw [HK.out] at h0
    simp only [Bool.not_true] at h0
    have h1 : ¬ t.toList = [] := by intro h; rw [h] at h0; cases h0
    go_wp2_with fail
    go_ret2
    exact ⟨ret_ints_impl HL.out.symm HH.out.symm, hb⟩
   by_cases h73 : op = 73
   ·have HL : Hid (arityLo op = 2) := by show _ = _; unfold arityLo; rw [if_neg (by rw [hok]; decide)]; rw [if_neg (by omega)]; rw [if_neg (by omega)]; rw [if_pos (by omega)]
    have HH : Hid (arityHi op = 8) := by show _ = _; unfold arityHi; rw [if_neg (by rw [hok]; decide)]; rw [if_neg (by omega)]; rw [if_neg (by omega)]; rw [if_pos (by omega)]
    have b81 : (op == 81) = false := beq_eq_false_iff_ne.2 (by omega)
    have b71 : (op == 71) = false := beq_eq_false_iff_ne.2 (by omega)
    have b72 : (op == 72) = false := beq_eq_false_iff_ne.2 (by omega)
    have b73 : (op == 73) = true := beq_iff_eq.2 (by omega)
    clear hok h73
    go_enter Tryz.func105, Tryz.ntmps105
    go_wp2_with fail
    refine HT.out.mono ?_; rintro e w1 ⟨t, rfl, h0, hs, hb⟩
    rw [HK.out] at h0
    simp only [Bool.not_true] at h0
    have h1 : ¬ t.toList = [] := by intro h; rw [h] at h0; cases h0
    go_wp2_with fail
    go_ret2
    exact ⟨ret_ints_impl HL.out.symm HH.out.symm, hb⟩
   by_cases h74 : op = 74
   ·have HL : Hid (arityLo op = 0) := by show _ = _; unfold arityLo; rw [if_neg (by rw [hok]; decide)]; rw [if_neg (by omega)]; rw [if_neg (by omega)]; rw [if_neg (by omega)]; rw [if_pos (by omega)]
    have HH : Hid (arityHi op = 8) := by show _ = _; unfold arityHi; rw [if_neg (by rw [hok]; decide)]; rw [if_neg (by omega)]; rw [if_neg (by omega)]; rw [if_neg (by omega)]; rw [if_pos (by omega)]
    have b81 : (op == 81) = false := beq_eq_false_iff_ne.2 (by omega)
    have b71 : (op == 71) = false := beq_eq_false_iff_ne.2 (by omega)
    have b72 : (op == 72) = false := beq_eq_false_iff_ne.2 (by omega)
    have b73 : (op == 73) = false := beq_eq_false_iff_ne.2 (by omega)
    have b74 : (op == 74) = true := beq_iff_eq.2 (by omega)
    clear hok h74
    go_enter Tryz.func105, Tryz.ntmps105
    go_wp2_with fail
    refine HT.out.mono ?_; rintro e w1 ⟨t, rfl, h0, hs, hb⟩
    rw [HK.out] at h0
    simp only [Bool.not_true] at h0
    have h1 : ¬ t.toList = [] := by intro h; rw [h] at h0; cases h0
    go_wp2_with fail
    go_ret2
    exact ⟨ret_ints_impl HL.out.symm HH.out.symm, hb⟩
   ·have HL : Hid (arityLo op = 2) := by show _ = _; unfold arityLo; rw [if_neg (by rw [hok]; decide)]; rw [if_neg (by omega)]; rw [if_neg (by omega)]; rw [if_neg (by omega)]; rw [if_neg (by omega)]
    have HH : Hid (arityHi op = 2) := by show _ = _; unfold arityHi; rw [if_neg (by rw [hok]; decide)]; rw [if_neg (by omega)]; rw [if_neg (by omega)]; rw [if_neg (by omega)]; rw [if_neg (by omega)]
    have b81 : (op == 81) = false := beq_eq_false_iff_ne.2 (by omega)
    have b71 : (op == 71) = false := beq_eq_false_iff_ne.2 (by omega)
    have b72 : (op == 72) = false := beq_eq_false_iff_ne.2 (by omega)
    have b73 : (op == 73) = false := beq_eq_false_iff_ne.2 (by omega)
    have b74 : (op == 74) = false := beq_eq_false_iff_ne.2 (by omega)
    clear hok
    go_enter Tryz.func105, Tryz.ntmps105
    go_wp2_with fail
    refine HT.out.mono ?_; rintro e w1 ⟨t, rfl, h0, hs, hb⟩
    rw [HK.out] at h0
    simp only [Bool.not_true] at h0
    have h1 : ¬ t.toList = [] := by intro h; rw [h] at h0; cases h0
    go_wp2_with fail
    go_ret2
    exact ⟨ret_ints_impl HL.out.symm HH.out.symm, hb⟩
end Go.Proofs.YtjeomamdlmoghaaGreatDoor
end
