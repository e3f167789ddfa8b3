/- The names of a U5 locals. The first fault of a unit: two numbers. Bg: what both aes walks need. Plain lemmas. -/
import Derived.Test.YthbcamfejgghhaaGreatDoorQ23
import Derived.Test.YthbcamfejgghhaaGreatDoorQ35
import Derived.Test.YthbcamfejgghhaaGreatDoorQ36
import Derived.Test.YthbcamfejgghhaaGreatDoorQ37
import Derived.Test.YthbcamfejgghhaaGreatDoorQ39
set_option maxRecDepth 100000
set_option maxHeartbeats 64000000
set_option linter.unusedVariables false
set_option linter.unusedSimpArgs false
namespace Go.Proofs.YthbcamfejgghhaaGreatDoor
open Go.IntKind (i64)
section
open Go Go.RowKit
def UE (w : World) (e : Ending) (w' : World) : Prop := ∃ (l : List ByteArray) (A : Option Addr) (n : Nat), e = .returned (.slice A l.length n) ∧ w'.ownsRow w.heap.size 9 1 (.slice A l.length n) l.length (l.map .string) ∧ (∀ s ∈ l, s.size ≤ 100000) ∧ l.length ≤ 700 ∧ Below w.heap.size w w'
theorem uj (u : fE) (A1 A2 A3 : Option Addr) (n1 n2 n3 : Nat) (w : World) (lo hi i : Nat) (h : dZ w lo hi fE.aG (.agg (aQ A1 u.records.length n1 A2 u.globals.length n2 A3 u.procedures.length n3)) u) (hhi : hi ≤ w.heap.size) (hok : u.Okk) (hsm : u.Small) (hi1 : i < u.procedures.length) :
 Calls Tryz.prog 129 #[.agg (aQ A1 u.records.length n1 A2 u.globals.length n2 A3 u.procedures.length n3), i] w (UE w) := by
 have HU := lH h
 obtain ⟨c, hc⟩ : ∃ c, u.procedures[i]? = some c := ⟨_, gE hi1⟩
 have hmem := mG hc
 have HC := lH hc
 have Wn := lH (hok.2.2 c hmem)
 have aet := lH (hsm.2.2.2.2 c hmem)
 have RX : Hid (∀ q ∈ u.procedures, q.body.Ok) := fun q hq => (hok.2.2 q hq).2.2.2.1
 obtain ⟨-, -, hp⟩ := fE.rows h
 obtain ⟨_, _, e1, hp1, hp2⟩ := hp.shape
 injection e1 with e1 _ e2
 subst e1 e2
 have HP := lH hp
 unfold maxLen at hp2
 clear h hc hmem hok hsm hp
 have j0 : (0 : Int) ≤ (i : Int) := ah
 have j1 : (i : Int) < (u.procedures.length : Int) := ah
 have j2 : ¬ ((u.procedures.length : Int) ≤ (i : Int)) := ah
 have j3 : ¬ ((i : Int) < 0) := ah
 obtain ⟨b0, hb0⟩ := dQ w 122 (aQ A1 u.records.length n1 A2 u.globals.length n2 A3 u.procedures.length n3)
 go_in
 go_wp2_with fail
 refine (oz u A1 A2 A3 n1 n2 n3 _ lo hi (HU.out.below hb0 hhi) (nT hhi hb0.size) RX.out).mono ?_
 rintro e w1 ⟨b, rfl, hb1, -⟩
 have hbw := hb0.trans (hb1.mono hb0.size)
 have bu := b0.later hb1
 have hz1 : w.heap.size + 1 ≤ w1.heap.size := by have := hb1.size; simpa using this
 clear b0 hb0 hb1
 have cu := bu.cell
 cases b with
 | false =>
   go_wp2_with fail
   go_ret
   exact ⟨[], none, 0, rfl, World.ownsRow_nil _ _ _ _, av, av, hbw⟩
 | true =>
   obtain ⟨g, off, Ap, np, Al, nl, Ab, nb, rfl, -, hg3, -, hs, t0, t1, t2, t3, t4, t5, t6, t7, t8⟩ := iU.at_ (HP.out.below hbw hhi) HC.out
   obtain ⟨hpp, hpl, hpb⟩ := iU.rows hs
   have HPP := lH hpp
   have HPL := lH hpl
   have HPB := lH hpb
   clear hs hpp hpl hpb
   have br := Blk.new w1 181 (dG c.name Ap c.params.length np Al c.locals.length nl c.bQ c.bU c.aZ c.bV Ab c.aT.length nb c.line)
   have hb2 : Below w1.heap.size w1 (w1.alloc (.cells (dG c.name Ap c.params.length np Al c.locals.length nl c.bQ c.bU c.aZ c.bV Ab c.aT.length nb c.line) 181)) := bA _ _
   have hz2 : w1.heap.size + 1 ≤ (w1.alloc (.cells (dG c.name Ap c.params.length np Al c.locals.length nl c.bQ c.bU c.aZ c.bV Ab c.aT.length nb c.line) 181)).heap.size := av
   go_upto_region 4 with fail
   generalize w1.alloc (.cells (dG c.name Ap c.params.length np Al c.locals.length nl c.bQ c.bU c.aZ c.bV Ab c.aT.length nb c.line) 181) = W at *
   replace bu := bu.later hb2
   have hbW := hbw.trans (hb2.mono hbw.size)
   clear t0 t1 t2 t3 t4 t5 t6 t7 t8 cu
   have cT := br.cell
   refine pZ (S := fun w' => ∀ i, w'.cell? (aj w1.heap.size i) = (dG c.name Ap c.params.length np Al c.locals.length nl c.bQ c.bU c.aZ c.bV Ab c.aT.length nb c.line : Array Value)[i]?) (k := 8) aI ?_
   have hbd : Below W.heap.size W W.drew := (Same.refl W).drew.below _
   replace bu := bu.drew
   replace br := br.drew
   have hbD := hb2.trans (hbd.mono hb2.size)
   have hbX := hbW.trans (hbd.mono hbW.size)
   have hzd : W.heap.size ≤ W.drew.heap.size := nR _
   clear hbd
   generalize W.drew = Wd at *
   clear cT
   have cT := br.cell
   refine fG 1 (v := ?_) rfl aI aI aI rfl (fun _ _ _ h => h) (Or.inl ⟨aM, ?_⟩) cT ?_
   rotate_left
   ·exact B6
   try simp only [Act.put, List.setIfInBounds_toArray, List.set_cons_zero, List.set_cons_succ]
   refine fG 2 (v := ?_) rfl aI aI aI rfl (fun _ _ _ h => h) (Or.inl ⟨aM, ?_⟩) cT ?_
   rotate_left
   ·exact B6
   try simp only [Act.put, List.setIfInBounds_toArray, List.set_cons_zero, List.set_cons_succ]
   refine fG 4 (v := ?_) rfl aI aI aI rfl (fun _ _ _ h => h) (Or.inl ⟨aM, ?_⟩) cT ?_
   rotate_left
   ·exact B6
   try simp only [Act.put, List.setIfInBounds_toArray, List.set_cons_zero, List.set_cons_succ]
   refine fG 5 (v := ?_) rfl aI aI aI rfl (fun _ _ _ h => h) (Or.inl ⟨aM, ?_⟩) cT ?_
   rotate_left
   ·exact B6
   try simp only [Act.put, List.setIfInBounds_toArray, List.set_cons_zero, List.set_cons_succ]
   refine dV [0] aI rfl ?_
   refine bS.aN rfl (fun K hK => ?_) bS.eO
   go_simp
   have jQ : (Wd.alloc (.cells #[] 9)).ownsRow Wd.heap.size 9 1 (.slice (some (aj Wd.heap.size 0)) 0 0) 0 [] := qY (vs := []) rfl (nR _) (nZ _)
   have br1 := br.alloc (.cells #[] 9)
   have bu1 := bu.alloc (.cells #[] 9)
   have hbE : Below Wd.heap.size Wd (Wd.alloc (.cells #[] 9)) := bA _ _
   have hz3 : Wd.heap.size + 1 ≤ (Wd.alloc (.cells #[] 9)).heap.size := av
   clear cT
   have cT := br1.cell
   refine hK.out _ _ (fun _ => cT) ?_
   clear hK K
   try simp only [Act.put, List.setIfInBounds_toArray, List.set_cons_zero, List.set_cons_succ]
   generalize Wd.alloc (.cells #[] 9) = W2 at *
   have LU := hbD.trans (hbE.mono hbD.size)
   have hbw2 := hbX.trans (hbE.mono hbX.size)
   skip
   have rp : Rds W2 lo hi 1 (.slice Ap c.params.length np) c.params.length (c.params.map .string) := (aW.rds.1 HPP.out).below LU (nT hhi hbw.size)
   have rl : Rds W2 lo hi 1 (.slice Al c.locals.length nl) c.locals.length (c.locals.map .string) := (aW.rds.1 HPL.out).below LU (nT hhi hbw.size)
   have hone : ∀ (l : List ByteArray), ∀ x ∈ l.map Value.string, x.oneCell' = true := fun l x hx => by obtain ⟨y, -, rfl⟩ := List.mem_map.1 hx; rfl
   have Io := lH hone
   clear hone
   obtain ⟨s1, s2, s3⟩ := aet.out
   refine dV [3] aI rfl ?_
   refine bS.aN rfl (fun K hK => ?_) bS.eO
   refine kE rfl (.tmp 26) (.tmp 28) 26 rfl Wd.heap.size 9 _ 1 16 iK Tryz.underlying26 rfl aA _ 0 _ rfl jQ _ _ _ c.params.length _ rfl rp (Io.out _) jG ah ah ?_
   intro v3 w3 mP hg3' Sr
   have rA : w3.ownsRow Wd.heap.size 9 1 v3 c.params.length (c.params.map .string) := by simpa using mP
   have hb3 : Below Wd.heap.size Wd w3 := hbE.grown hg3' ah Ci
   have br3 := br.later hb3
   have bu3 := bu.later hb3
   have rl3 := rl.grown hg3' (by have := hbw2.size; omega) (fun k e => by have e' : some Wd.heap.size = some k := e; injection e' with e'; have := hbX.size; omega)
   have hz4 := hg3'.size
   obtain ⟨A4, n4, rfl, -⟩ := (Rds.dU rA).shape
   have HV3 := lH rA.lt
   clear mP Sr hg3' jQ br1 bu1 cT
   have cT := br3.cell
   refine hK.out _ _ (fun _ => cT) ?_
   clear hK K
   try simp only [Act.put, List.setIfInBounds_toArray, List.set_cons_zero, List.set_cons_succ]
   refine dV [6] aI rfl ?_
   refine bS.aN rfl (fun K hK => ?_) bS.eO
   refine kE rfl (.tmp 29) (.tmp 31) 26 rfl Wd.heap.size 9 _ 1 16 iK Tryz.underlying26 rfl aA _ c.params.length _ rfl rA _ _ _ c.locals.length _ rfl rl3 (Io.out _) jG ah ah ?_
   intro v5 w5 kD hg5 Wo
   obtain ⟨A5, n5, rfl, -⟩ := (Rds.dU kD).shape
   have hb5 : Below Wd.heap.size Wd w5 := hb3.grown hg5 ah (fun k e => (HV3.out k e).1)
   have br5 := br.later hb5
   have bu5 := bu.later hb5
   clear hg5 Wo rA br3 bu3 cT
   have cT := br5.cell
   refine hK.out _ _ (fun _ => cT) ?_
   clear hK K
   try simp only [Act.put, List.setIfInBounds_toArray, List.set_cons_zero, List.set_cons_succ]
   refine dV [7] aI rfl ?_
   refine bS.aN rfl (fun K hK => ?_) bS.eO
   go_simp
   refine hK.out _ _ (fun _ => cT) ?_
   clear hK K
   try simp only [Act.put, List.setIfInBounds_toArray, List.set_cons_zero, List.set_cons_succ]
   refine bY aI ?_ _
   have hlen : (c.params ++ c.locals).length = c.params.length + c.locals.length := List.length_append
   have Wp := hbX.trans (hb5.mono hbX.size)
   have aeu := hbD.trans (hb5.mono hbD.size)
   have OWN : Hid (w5.ownsRow Wd.heap.size 9 1 (.slice A5 (c.params ++ c.locals).length n5) (c.params ++ c.locals).length ((c.params ++ c.locals).map .string)) := by show World.ownsRow _ _ _ _ _ _ _; rw [hlen, List.map_append]; exact kD
   have Ye := lH (Dv u A1 A2 (some (aj g off)) n1 n2 n3 lo hi Wd.heap.size c.body Ab nb w5 (c.params ++ c.locals) A5 n5 (HPB.out.below aeu (nT hhi hbw.size)) (HU.out.below Wp hhi) (by have := hbX.size; omega) hb5.size OWN.out (Ic Wn.out.2.1 Wn.out.2.2.1) Wn.out.2.2.2.1 (by rw [hlen]; omega))
   rw [hlen] at Ye
   clear kD br bu
   have cu := bu5.cell
   skip
   have HPQ := lH OWN.out.lt
   skip
   go_wp2_with fail
   refine Ye.out.mono ?_
   rintro e w6 ⟨l6, A6, n6, rfl, Ms, Yf, Yg, Yh, aev⟩
   have hb6 := lH (Wp.grown Yh Wp.size (fun k e => by have := (HPQ.out k (by rw [hlen]; exact e)).1; have := hbX.size; omega))
   have HO6 := lH (qx Ms (base' := w.heap.size) (fun k hk => by have := (Ms.lt k hk).1; have := hbX.size; omega))
   have HZ6 := lH Yf
   have HL6 : Hid (l6.length ≤ 700) := by show _ ≤ _; rw [hlen] at Yg; omega
   clear Ms Yf Yg Yh aev
   go_wp2_with fail
   go_ret
   exact ⟨l6, A6, n6, rfl, HO6.out, HZ6.out, HL6.out, hb6.out⟩
end
section
open Go Go.RowKit
theorem EY (w : World) : Calls Tryz.prog 167 #[] w fun e w' => ∃ (l : List ByteArray) (A : Option Addr), e = .returned (.slice A l.length 55) ∧ l.length = 55 ∧ w'.ownsRow w.heap.size 9 1 (.slice A l.length 55) l.length (l.map .string) ∧ Below w.heap.size w w' := by
 have H1 : Hid (∀ c : Array Value, c.toList.all isStr = true → c.size = 55 → ∃ (l : List ByteArray) (A : Option Addr), Ending.returned (.slice (some (aj w.heap.size 0)) 55 55) = .returned (.slice A l.length 55) ∧ l.length = 55 ∧ (w.alloc (.cells c 9)).ownsRow w.heap.size 9 1 (.slice A l.length 55) l.length (l.map .string) ∧ Below w.heap.size w (w.alloc (.cells c 9))) := by
  intro c hc h55
  obtain ⟨l, hl⟩ := GQ hc
  have hln : l.length = 55 := by
   exact CS
  obtain rfl : c = (l.map Value.string).toArray := by rw [← hl]
  refine ⟨l, some (aj w.heap.size 0), by rw [hln], hln, ?_, bA _ _⟩
  rw [hln]
  exact qY (by simp [hln]) (nR _) aA
 exact BZ
structure Nms (w : World) (cu : Array Value) (wx : World) (l : List ByteArray) (A : Option Addr) (n : Nat) : Prop where
 own : wx.ownsRow (w.heap.size + 1) 9 1 (.slice A l.length n) l.length (l.map .string)
 bu : Blk wx w.heap.size 122 cu
 bl : Below w.heap.size w wx
section
variable {w wx wy : World} {cu : Array Value} {l : List ByteArray} {A : Option Addr} {n : Nat}
theorem Nms.sz (h : Nms w cu wx l A n) : w.heap.size + 1 ≤ wx.heap.size := h.bu.lt
theorem Nms.later (h : Nms w cu wx l A n) (hb : Below wx.heap.size wx wy) : Nms w cu wy l A n := ⟨fA h.own hb, h.bu.later hb, h.bl.trans (hb.mono h.bl.size)⟩
theorem Nms.drewN (h : Nms w cu wx l A n) (k : Nat) : Nms w cu (wx.drewN k) l A n := h.later ((Same.refl wx).drewN k |>.below _)
theorem Nms.drew (h : Nms w cu wx l A n) : Nms w cu wx.drew l A n := h.later ((Same.refl wx).drew.below _)
theorem Nms.P7 (h : Nms w cu wx l A n) : aW wx (w.heap.size + 1) wx.heap.size 1 aR (.slice A l.length n) l := aW.rds.2 (Rds.dU h.own)
theorem Nms.push {v' : Value} {s : ByteArray} (h : Nms w cu wx l A n) (ho : wy.ownsRow (w.heap.size + 1) 9 1 v' (l.length + 1) (l.map .string ++ [.string s])) (hg : wx.grownBy wy (Value.slice A l.length n).ownBlock) :
 ∃ A' n', v' = .slice A' (l ++ [s]).length n' ∧ Nms w cu wy (l ++ [s]) A' n' := by
 obtain ⟨A', n', rfl, -⟩ := (Rds.dU ho).shape
 refine ⟨A', n', av, by simpa using ho, h.bu.grown hg (fun e => ?_), h.bl.grown hg h.bl.size (fun k hk => ?_)⟩
 ·have := (h.own.lt _ e.symm).1; omega
 have := (h.own.lt k hk).1; omega
theorem rO {P : Program} {w : World} {o : Oper} {a : Act} {K : Act → World → Prop} {Q : Exit → Act → World → Prop} {E : Prop} {ops : Array Oper} (hw : Region.wanted o (yielded ops a.tmps) = true) (s x : Operand) (t : TypeId)
 (ho : o.op = .call { callee := .builtin .append, args := #[s, x], argTypes := #[t, t] })
 (base : Nat) (e : TypeId) (z : Value) (size bytes : Nat) (hinfo : (P.info? e).map (fun i => (i.zero, i.size, i.bytes)) = some (some z, size, bytes)) (ht : P.underlying t = some (.slice e)) (hzs : z.cells.size = size) (hsz : 0 < size)
 (v : Value) (n : Nat) (xs : List Value) (hs : a.eval s = v) (hown : w.ownsRow base e size v n xs)
 (lo hi' : Nat) (u : Value) (m : Nat) (news : List Value) (hx : a.eval x = u) (hr : Rds w lo hi' size u m news) (h1 : ∀ u ∈ news, u.oneCell' = true)
 (h63 : n + m ≤ maxLen) (hbytes : (n + m) * bytes ≤ 140737488355328) (hbase : base ≤ w.heap.size)
 (h : ∀ v' w', w'.ownsRow base e size v' (n + m) (xs ++ news) → w.grownBy w' v.ownBlock → (v'.ownBlock = v.ownBlock ∨ v'.ownBlock = some w.heap.size) → K (a.put o.dst v') w') :
 if Region.wanted o (yielded ops a.tmps) = true then Oper.wp P o a w K Q else E := by
 rw [if_pos hw]
 obtain ⟨i0, hi0, hz0, hz1, hz2⟩ := info_parts hinfo
 exact lK w s x t ho base e i0 z size bytes ht hi0 hz0 hz1 hz2 hzs hsz v n xs hs hown lo hi' u m news hx hr h1 h63 hbytes hbase h
theorem Ss {c A B : Prop} [Decidable c] (hc : c) (h : A) : if c then A else B := by rw [if_pos hc]; exact h
end
theorem Ec (u : fE) (A1 A2 A3 : Option Addr) (n1 n2 n3 : Nat) (w : World) (lo hi : Nat) (h : dZ w lo hi fE.aG (.agg (aQ A1 u.records.length n1 A2 u.globals.length n2 A3 u.procedures.length n3)) u) (hhi : hi ≤ w.heap.size) (hok : u.Okk) (hsm : u.Small) :
 Calls Tryz.prog 128 #[.agg (aQ A1 u.records.length n1 A2 u.globals.length n2 A3 u.procedures.length n3)] w (Sq w) := by
 have HU := lH h
 have HOK := lH hok
 have HSM := lH hsm
 obtain ⟨s1, s2, s3, -, -⟩ := hsm
 obtain ⟨hr, hg, hp⟩ := fE.rows h
 obtain ⟨_, _, e1, hr1, hr2⟩ := hr.shape
 injection e1 with e1 _ e2
 subst e1 e2
 obtain ⟨_, _, e1, hg1, hg2⟩ := hg.shape
 injection e1 with e1 _ e2
 subst e1 e2
 obtain ⟨_, _, e1, hp1, hp2⟩ := hp.shape
 injection e1 with e1 _ e2
 subst e1 e2
 unfold maxLen at hr2 hg2 hp2
 have HR := lH hr
 have HG := lH hg
 have HP := lH hp
 have RX : Hid (∀ q ∈ u.procedures, q.body.Ok) := fun q hq => (hok.2.2 q hq).2.2.2.1
 clear h hr hg hp hok
 obtain ⟨b0, hb0⟩ := dQ w 122 (aQ A1 u.records.length n1 A2 u.globals.length n2 A3 u.procedures.length n3)
 go_in
 go_wp2_with fail
 refine (oz u A1 A2 A3 n1 n2 n3 _ lo hi (HU.out.below hb0 hhi) (nT hhi hb0.size) RX.out).mono ?_
 rintro e w1 ⟨b, rfl, hb1, -⟩
 have hbw := hb0.trans (hb1.mono hb0.size)
 have bu := b0.later hb1
 clear b0 hb0 hb1
 cases b with
 | false =>
   go_wp2_with fail
   go_ret2
   exact ⟨⟨_, _, rfl⟩, hbw⟩
 | true =>
   go_wp2_with fail
   refine (EY _).mono ?_
   rintro e w2 ⟨l, A, rfl, hl, hown, hb2⟩
   have HN : Hid (Nms w (aQ A1 u.records.length n1 A2 u.globals.length n2 A3 u.procedures.length n3) w2 l A 55) := ⟨qx hown (fun g hg => by have := (hown.lt g hg).1; have := bu.lt; omega), bu.later hb2, hbw.trans (hb2.mono hbw.size)⟩
   have cu := HN.out.bu.cell
   clear hown hb2 bu hbw
   go_wp2_with fail
   go_loopw [4, 5] (fun v k wx => ∃ (j : Nat) (l : List ByteArray) (A : Option Addr) (n : Nat), j ≤ u.records.length ∧ k = .int i64 j ∧ v = .slice A l.length n ∧ l.length ≤ 55 + j ∧ Hid (Nms w (aQ A1 u.records.length n1 A2 u.globals.length n2 A3 u.procedures.length n3) wx l A n)) (fun _ k _ => u.records.length - (intOf k).toNat)
   case atStart => exact ⟨0, l, A, 55, nZ _, rfl, by rw [hl], ah, HN⟩
   clear HN cu hl
   obtain ⟨j, l, A, n, hj, rfl, rfl, hl, HN⟩ := hrel
   have cu := HN.out.bu.cell
   by_cases hlt : j < u.records.length
   ·obtain ⟨r, hc⟩ : ∃ r, u.records[j]? = some r := ⟨_, gE hlt⟩
    obtain ⟨g, off, Af, nf, rfl, -, hg3, -, hs, t0, t1, t2⟩ := ep.at_ (HR.out.below HN.out.bl hhi) hc
    have HF := lH (iq l r.name _ wr _ _ HN.out.P7)
    have HT := lH (tC r.fields _ wr lo hi (ep.rows hs))
    clear hc hs
    go_upto_region 7 with fail
    go_cut [43] (fun v wx => ∃ b : Bool, v = .bool b ∧ wx = wr)
    case first =>
     go_wp2_with fail
     refine HF.out.mono ?_
     rintro e w3 ⟨rfl, rfl⟩
     cases k0 : decide (0 ≤ Lib.idxOfS l r.name)
     ·go_wp2_with fail
      refine HT.out.mono ?_
      rintro e w3 ⟨rfl, rfl⟩
      exact yL
     go_wp2_with fail
     go_meet
     exact ⟨_, rfl, rfl⟩
    obtain ⟨b, rfl, rfl⟩ := hcut
    cases b
    ·have hroom : l.length ≤ 100 := by omega
     go_wp2_with (first | (at_builtin; refine dO rfl _ _ 26 aM 9 _ 1 16 iK Tryz.underlying26 aM aA aA (w.heap.size + 1) _ _ _ aM HN.out.own _ 1 _ aM aM eZ ah HN.out.sz ?_) | fail)
     intro v' w5 kD hgr hat
     obtain ⟨A', n', rfl, HN'⟩ := HN.out.push kD hgr
     replace HN' := lH HN'
     clear kD hgr hat cu t0 t1 t2 HF HT
     go_wp2_with fail
     go_roundw
     case rel => exact ⟨j + 1, l ++ [r.name], A', n', hlt, by go_num, rfl, aJ, HN'⟩
     simp [intOf]; omega
    exact Jn
   obtain rfl : j = u.records.length := by omega
   clear hlt
   go_wp2_with fail
   go_loopw [4, 6] (fun v k wx => ∃ (j : Nat) (l : List ByteArray) (A : Option Addr) (n : Nat), j ≤ u.globals.length ∧ k = .int i64 j ∧ v = .slice A l.length n ∧ l.length ≤ 70 + j ∧ Hid (Nms w (aQ A1 u.records.length n1 A2 u.globals.length n2 A3 u.procedures.length n3) wx l A n)) (fun _ k _ => u.globals.length - (intOf k).toNat)
   case atStart => exact ⟨0, l, A, n, nZ _, rfl, rfl, ah, HN⟩
   clear HN cu hl
   obtain ⟨j, l, A, n, hj, rfl, rfl, hl, HN⟩ := hrel
   have cu := HN.out.bu.cell
   by_cases hlt : j < u.globals.length
   ·obtain ⟨s, hc⟩ : ∃ s, u.globals[j]? = some s := ⟨_, gE hlt⟩
    obtain ⟨g, off, rfl, -, hg3, t0⟩ := (HG.out.below HN.out.bl hhi).text hc
    have HF := lH (iq l s _ wr _ _ HN.out.P7)
    clear hc
    go_wp2_with fail
    refine HF.out.mono ?_
    rintro e w3 ⟨rfl, rfl⟩
    cases k0 : decide (0 ≤ Lib.idxOfS l s)
    ·have hroom : l.length ≤ 100 := by omega
     go_wp2_with (first | (at_builtin; refine dO rfl _ _ 26 aM 9 _ 1 16 iK Tryz.underlying26 aM aA aA (w.heap.size + 1) _ _ _ aM HN.out.own _ 1 _ aM aM eZ ah HN.out.sz ?_) | fail)
     intro v' w5 kD hgr hat
     obtain ⟨A', n', rfl, HN'⟩ := HN.out.push kD hgr
     replace HN' := lH HN'
     clear kD hgr hat cu t0 HF
     go_wp2_with fail
     go_roundw
     case rel => exact ⟨j + 1, l ++ [s], A', n', hlt, by go_num, rfl, aJ, HN'⟩
     simp [intOf]; omega
    go_wp2_with fail
    go_ret2
    exact ⟨⟨_, _, rfl⟩, HN.out.bl⟩
   obtain rfl : j = u.globals.length := by omega
   clear hlt
   go_wp2_with fail
   go_loopw [4, 7] (fun v k wx => ∃ (j : Nat) (l : List ByteArray) (A : Option Addr) (n : Nat), j ≤ u.procedures.length ∧ k = .int i64 j ∧ v = .slice A l.length n ∧ l.length ≤ 90 + j ∧ Hid (Nms w (aQ A1 u.records.length n1 A2 u.globals.length n2 A3 u.procedures.length n3) wx l A n)) (fun _ k _ => u.procedures.length - (intOf k).toNat)
   case atStart => exact ⟨0, l, A, n, nZ _, rfl, rfl, ah, HN⟩
   clear HN cu hl
   obtain ⟨j, l, A, n, hj, rfl, rfl, hl, HN⟩ := hrel
   have cu := HN.out.bu.cell
   by_cases hlt : j < u.procedures.length
   ·obtain ⟨q, hc⟩ : ∃ q, u.procedures[j]? = some q := ⟨_, gE hlt⟩
    have hmem := mG hc
    have Wq := HSM.out.2.2.2.2 q hmem
    obtain ⟨z1, z2, -⟩ := Wq
    obtain ⟨g, off, Ap, np, Al, nl, Ab, nb, rfl, -, hg3, -, hs, t0, t1, t2, t3, t4, t5, t6, t7, t8⟩ := iU.at_ (HP.out.below HN.out.bl hhi) hc
    obtain ⟨hpp, hpl, -⟩ := iU.rows hs
    have HPP := lH hpp
    have HPL := lH hpl
    clear hc hmem hs hpp hpl
    have br := Blk.new wr 181 (dG q.name Ap q.params.length np Al q.locals.length nl q.bQ q.bU q.aZ q.bV Ab q.aT.length nb q.line)
    have hb2 : Below wr.heap.size wr (wr.alloc (.cells (dG q.name Ap q.params.length np Al q.locals.length nl q.bQ q.bU q.aZ q.bV Ab q.aT.length nb q.line) 181)) := bA _ _
    have hz2 : wr.heap.size + 1 ≤ (wr.alloc (.cells (dG q.name Ap q.params.length np Al q.locals.length nl q.bQ q.bU q.aZ q.bV Ab q.aT.length nb q.line) 181)).heap.size := av
    have hhr : hi ≤ wr.heap.size := nT hhi HN.out.bl.size
    go_upto_region 20 with fail
    generalize wr.alloc (.cells (dG q.name Ap q.params.length np Al q.locals.length nl q.bQ q.bU q.aZ q.bV Ab q.aT.length nb q.line) 181) = W at *
    replace HN := lH (HN.out.later hb2)
    replace HPP := lH (HPP.out.below hb2 hhr)
    replace HPL := lH (HPL.out.below hb2 hhr)
    clear t0 t1 t2 t3 t4 t5 t6 t7 t8 cu hb2
    replace hhr : hi ≤ W.heap.size := ah
    go_cut [108] (fun v wx => ∃ b : Bool, v = .bool b ∧ Hid (Below W.heap.size W wx))
    case first =>
     refine jm 15 (fun w' => ∀ i, w'.cell? (aj wr.heap.size i) = (dG q.name Ap q.params.length np Al q.locals.length nl q.bQ q.bU q.aZ q.bV Ab q.aT.length nb q.line : Array Value)[i]?) 15 ?_
     have HBD := lH ((Same.refl W).drew.below W.heap.size)
     have brd := br.drew
     have HF := lH (iq l q.name _ W.drew _ _ HN.out.drew.P7)
     replace HPP := lH (HPP.out.below HBD.out hhr)
     replace HPL := lH (HPL.out.below HBD.out hhr)
     have hzd : W.heap.size ≤ W.drew.heap.size := nR _
     clear br HN
     generalize W.drew = Wd at *
     have cT := brd.cell
     cases k0 : decide (0 ≤ Lib.idxOfS l q.name)
     all_goals
      refine tkA 0 cT ?_
      refine tkA 1 cT ?_
      refine tkA 2 cT ?_
      refine rdA 3 (fun K hK => ?_)
      go_simp
      go_at_call 71
      refine HF.out.mono ?_
      rintro e w3 ⟨rfl, rfl⟩
      refine fM hK cT ?_
      clear hK K
      refine tkA 4 cT ?_
      refine tkA 5 cT ?_
     rotate_left
     ·refine tkN 6 cT ?_
      refine tkN 7 cT ?_
      refine tkN 8 cT ?_
      refine tkN 9 cT ?_
      refine tkN 10 cT ?_
      refine tkN 11 cT ?_
      refine tkN 12 cT ?_
      refine tkN 13 cT ?_
      refine tkA 14 cT ?_
      refine bY aI ?_ _
      go_wp2_with fail
      go_meet
      exact ⟨_, rfl, HBD⟩
     refine tkA 7 cT ?_
     refine tkA 8 cT ?_
     refine tkA 10 cT ?_
     refine tkA 11 cT ?_
     refine rdA 6 (fun K hK => ?_)
     refine Ss aI ?_
     go_simp
     have jQ : (Wd.alloc (.cells #[] 9)).ownsRow Wd.heap.size 9 1 (.slice (some (aj Wd.heap.size 0)) 0 0) 0 [] := qY (vs := []) rfl (nR _) (nZ _)
     have br1 := brd.alloc (.cells #[] 9)
     have hbE : Below Wd.heap.size Wd (Wd.alloc (.cells #[] 9)) := bA _ _
     have hz3 : Wd.heap.size + 1 ≤ (Wd.alloc (.cells #[] 9)).heap.size := av
     clear cT
     have cT := br1.cell
     refine fM hK cT ?_
     clear hK K
     generalize Wd.alloc (.cells #[] 9) = W2 at *
     have hhw : hi ≤ Wd.heap.size := ah
     have rp : Rds W2 lo hi 1 (.slice Ap q.params.length np) q.params.length (q.params.map .string) := (aW.rds.1 HPP.out).below hbE hhw
     have rl : Rds W2 lo hi 1 (.slice Al q.locals.length nl) q.locals.length (q.locals.map .string) := (aW.rds.1 HPL.out).below hbE hhw
     have Io : Hid (∀ (l : List ByteArray), ∀ x ∈ l.map Value.string, x.oneCell' = true) := fun l x hx => by obtain ⟨y, -, rfl⟩ := List.mem_map.1 hx; rfl
     refine rdA 9 (fun K hK => ?_)
     refine rO aI (.tmp 100) (.tmp 102) 26 rfl Wd.heap.size 9 _ 1 16 iK Tryz.underlying26 rfl aA _ 0 _ rfl jQ _ _ _ q.params.length _ rfl rp (Io.out _) jG ah ah ?_
     intro v3 w3 mP hg3' Sr
     have rA : w3.ownsRow Wd.heap.size 9 1 v3 q.params.length (q.params.map .string) := by simpa using mP
     have hb3 : Below Wd.heap.size Wd w3 := hbE.grown hg3' ah Ci
     have br3 := brd.later hb3
     have rl3 := rl.grown hg3' ah Ci
     have hz4 := hg3'.size
     obtain ⟨A4, n4, rfl, -⟩ := (Rds.dU rA).shape
     have HV3 := lH rA.lt
     clear mP Sr hg3' jQ br1 cT
     have cT := br3.cell
     refine fM hK cT ?_
     clear hK K
     refine rdA 12 (fun K hK => ?_)
     refine rO aI (.tmp 103) (.tmp 105) 26 rfl Wd.heap.size 9 _ 1 16 iK Tryz.underlying26 rfl aA _ q.params.length _ rfl rA _ _ _ q.locals.length _ rfl rl3 (Io.out _) jG ah ah ?_
     intro v5 w5 kD hg5 Wo
     obtain ⟨A5, n5, rfl, -⟩ := (Rds.dU kD).shape
     have hb5 : Below Wd.heap.size Wd w5 := hb3.grown hg5 ah (fun k e => (HV3.out k e).1)
     have br5 := brd.later hb5
     have HTW := lH (tC (q.params ++ q.locals) (.slice A5 (q.params.length + q.locals.length) n5) w5 _ _ (aW.rds.2 (by rw [List.map_append, List.length_append]; exact Rds.dU kD)))
     clear kD hg5 Wo rA br3 cT rl3
     have cT := br5.cell
     refine fM hK cT ?_
     clear hK K
     refine rdA 13 (fun K hK => ?_)
     refine Ss aI ?_
     go_simp
     go_at_call 36
     refine HTW.out.mono ?_
     rintro e w6 ⟨rfl, rfl⟩
     refine fM hK cT ?_
     clear hK K
     refine tkA 14 cT ?_
     refine bY aI ?_ _
     go_wp2_with fail
     go_meet
     exact ⟨_, rfl, lH (HBD.out.trans (hb5.mono hzd))⟩
    obtain ⟨b, rfl, hbx⟩ := hcut
    replace HN := lH (HN.out.later hbx.out)
    have br2 := br.later hbx.out
    clear br HPP HPL
    have cT := br2.cell
    have cu := HN.out.bu.cell
    cases b
    ·have hroom : l.length ≤ 110 := by omega
     go_wp2_with (first | (at_builtin; refine dO rfl _ _ 26 aM 9 _ 1 16 iK Tryz.underlying26 aM aA aA (w.heap.size + 1) _ _ _ aM HN.out.own _ 1 _ aM aM eZ ah HN.out.sz ?_) | fail)
     intro v' w5 kD hgr hat
     obtain ⟨A', n', rfl, HN'⟩ := HN.out.push kD hgr
     replace HN' := lH HN'
     clear kD hgr hat cu cT
     go_wp2_with fail
     go_roundw
     case rel => exact ⟨j + 1, l ++ [q.name], A', n', hlt, by go_num, rfl, aJ, HN'⟩
     simp [intOf]; omega
    exact Jn
   obtain rfl : j = u.procedures.length := by omega
   clear hlt
   have T0 : Hid (Blk wr w.heap.size 122 (aQ A1 u.records.length n1 A2 u.globals.length n2 A3 u.procedures.length n3) ∧ Below w.heap.size w wr) := ⟨HN.out.bu, HN.out.bl⟩
   clear HN
   go_wp2_with fail
   go_loopw [9, 10] (fun m k wx => ∃ (b : Bool) (j : Nat), j ≤ u.procedures.length ∧ m = .bool b ∧ k = .int i64 j ∧ Hid (Blk wx w.heap.size 122 (aQ A1 u.records.length n1 A2 u.globals.length n2 A3 u.procedures.length n3) ∧ Below w.heap.size w wx)) (fun _ k _ => u.procedures.length - (intOf k).toNat)
   case atStart => exact ⟨false, 0, nZ _, rfl, rfl, T0⟩
   clear T0 cu hl
   obtain ⟨bm, j, hj, rfl, rfl, HT⟩ := hrel
   have cu := HT.out.1.cell
   by_cases hlt : j < u.procedures.length
   ·obtain ⟨q, hc⟩ : ∃ q, u.procedures[j]? = some q := ⟨_, gE hlt⟩
    have hmem := mG hc
    have Wq := HSM.out.2.2.2.2 q hmem
    obtain ⟨-, -, z3⟩ := Wq
    have hcs := q.body.La
    obtain ⟨g, off, Ap, np, Al, nl, Ab, nb, rfl, -, hg3, -, hs, t0, t1, t2, t3, t4, t5, t6, t7, t8⟩ := iU.at_ (HP.out.below HT.out.2 hhi) hc
    obtain ⟨-, -, hpb⟩ := iU.rows hs
    have HPB := lH hpb
    clear hc hmem hs hpb
    have br := Blk.new wr 181 (dG q.name Ap q.params.length np Al q.locals.length nl q.bQ q.bU q.aZ q.bV Ab q.aT.length nb q.line)
    have hb2 : Below wr.heap.size wr (wr.alloc (.cells (dG q.name Ap q.params.length np Al q.locals.length nl q.bQ q.bU q.aZ q.bV Ab q.aT.length nb q.line) 181)) := bA _ _
    have hhr : hi ≤ wr.heap.size := nT hhi HT.out.2.size
    go_upto_region 28 with fail
    generalize wr.alloc (.cells (dG q.name Ap q.params.length np Al q.locals.length nl q.bQ q.bU q.aZ q.bV Ab q.aT.length nb q.line) 181) = W at *
    replace HT : Hid (Blk W w.heap.size 122 (aQ A1 u.records.length n1 A2 u.globals.length n2 (some (aj g off)) u.procedures.length n3) ∧ Below w.heap.size w W) := ⟨HT.out.1.later hb2, HT.out.2.trans (hb2.mono HT.out.2.size)⟩
    replace HPB := lH (HPB.out.below hb2 hhr)
    replace hhr : hi ≤ W.heap.size := nT hhr hb2.size
    clear t0 t1 t2 t3 t4 t5 t6 t7 t8 cu hb2
    have cu := HT.out.1.cell
    go_wp2_with fail
    refine (uj u A1 A2 (some (aj g off)) n1 n2 n3 _ lo hi j (HU.out.below HT.out.2 hhi) hhr HOK.out HSM.out hlt).mono ?_
    rintro e w3 ⟨l3, A3', n3', rfl, mP, -, afA, hb3⟩
    replace HT : Hid (Blk w3 w.heap.size 122 (aQ A1 u.records.length n1 A2 u.globals.length n2 (some (aj g off)) u.procedures.length n3) ∧ Below w.heap.size w w3) := ⟨HT.out.1.later hb3, HT.out.2.trans (hb3.mono HT.out.2.size)⟩
    have HW := lH (LQ u A1 A2 (some (aj g off)) n1 n2 n3 0 w3.heap.size l3 A3' n3' q.body Ab nb w3 false false ((HPB.out.below hb3 hhr).wide (nZ _) (nT hhr hb3.size)) ((HU.out.below HT.out.2 hhi).wide (nZ _) (nT hhr hb3.size)) ((aW.rds.2 (Rds.dU mP)).wide (nZ _) (nR _)) (nR _))
    replace HPB := lH (HPB.out.below hb3 hhr)
    replace br := br.later hb3
    replace hhr := nT hhr hb3.size
    clear cu mP hb3
    have cu := HT.out.1.cell
    have cT := br.cell
    go_wp2_with fail
    refine HW.out.mono ?_
    rintro e w4 ⟨⟨k, i, rfl⟩, hb4⟩
    replace HT : Hid (Blk w4 w.heap.size 122 (aQ A1 u.records.length n1 A2 u.globals.length n2 (some (aj g off)) u.procedures.length n3) ∧ Below w.heap.size w w4) := ⟨HT.out.1.later hb4, HT.out.2.trans (hb4.mono HT.out.2.size)⟩
    have HCS := lH (G9 q.body Ab nb w4 lo hi (HPB.out.below hb4 hhr) (nT hhr hb4.size) ah)
    replace br := br.later hb4
    clear cu cT hb4 HW
    have cu := HT.out.1.cell
    have cT := br.cell
    rcases bE (k != 0) with h2 | h2
    ·exact CJ
    have hwr : IntKind.i64.wrap ((l3.length : Int) + (q.body.cases : Int)) = (l3.length : Int) + (q.body.cases : Int) := IntWalk.i64_in _ ah
    go_wp2_with fail
    refine HCS.out.mono ?_
    rintro e w5 ⟨rfl, hb5⟩
    replace HT : Hid (Blk w5 w.heap.size 122 (aQ A1 u.records.length n1 A2 u.globals.length n2 (some (aj g off)) u.procedures.length n3) ∧ Below w.heap.size w w5) := ⟨HT.out.1.later hb5, HT.out.2.trans (hb5.mono HT.out.2.size)⟩
    replace br := br.later hb5
    clear cu cT hb5 HCS
    have cu := HT.out.1.cell
    have cT := br.cell
    cases k7 : decide (24 < (l3.length : Int) + (q.body.cases : Int))
    ·cases bm
     rcases bE (q.name.toList == [109, 97, 105, 110]) with h3 | h3
     rcases bE ((q.params.length : Int) == 0) with h4 | h4
     all_goals go_wp2_with fail
     all_goals go_roundw
     all_goals first
      | exact ⟨_, j + 1, hlt, rfl, by go_num, HT⟩
      | (simp [intOf]; omega)
    go_wp2_with fail
    go_quiet (fail)
    go_wp2_with fail
    go_ret2
    exact ⟨⟨_, _, rfl⟩, HT.out.2.trans ((Same.refl _).drewN _ |>.below _)⟩
   obtain rfl : j = u.procedures.length := by omega
   cases bm
   ·exact CJ
   exact CJ
end
section
open Go.RowKit
def Sv (c : bg) (w : World) (e : Ending) (w' : World) : Prop := ∃ cs : List Value, e = .returned (.tuple #[.agg cs.toArray, .bool (aS c)]) ∧ eu w' w.heap.size w'.heap.size (qF c).aG cs ∧ Below w.heap.size w w'
def iM (lo hi g4 : Nat) (w : World) (c : bg) (v1 v2 : Value) : Prop := ∃ F1 F2 : List Nat, dK w (.row 3 c.records.length (flat ep.aG c.records)) F1 v1 ∧ dK w (.row 1 c.globals.length (flat aR c.globals)) F2 v2 ∧ (F1 ++ F2).Nodup ∧ ∀ g ∈ F1 ++ F2, lo ≤ g ∧ g < hi ∧ g ≠ g4
theorem iM.kept {lo hi g4 : Nat} {w w' : World} {c : bg} {v1 v2 : Value} (h : iM lo hi g4 w c v1 v2) (hk : ∀ g, lo ≤ g → g < hi → g ≠ g4 → w'.heap[g]? = w.heap[g]?) : iM lo hi g4 w' c v1 v2 := by
 obtain ⟨F1, F2, h1, h2, h3, h4⟩ := h
 have H : ∀ g ∈ F1 ++ F2, w'.heap[g]? = w.heap[g]? := fun g hg => hk g (h4 g hg).1 (h4 g hg).2.1 (h4 g hg).2.2
 exact ⟨F1, F2, h1.kept fun g hg => H g (List.mem_append_left _ hg), h2.kept fun g hg => H g (List.mem_append_right _ hg), h3, h4⟩
theorem iM.below {lo hi g4 B : Nat} {w w' : World} {c : bg} {v1 v2 : Value} (h : iM lo hi g4 w c v1 v2) (hb : Below B w w') (hB : hi ≤ B) : iM lo hi g4 w' c v1 v2 := h.kept fun g _ h2 _ => hb.block g (nL h2 hB)
theorem iM.aF {lo hi g4 : Nat} {w : World} {c : bg} {v1 v2 : Value} (h : iM lo hi g4 w c v1 v2) (i : Nat) (u : Value) : iM lo hi g4 (w.setCell (aj g4 i) u) c v1 v2 := h.kept fun g _ _ h3 => Below.heap_setCell w (aj g4 i) u g h3
theorem iM.mk_ {W : World} {c : bg} {v1 v2 : Value} {lo g4 a b p : Nat} {e : TypeId} (h1 : gD W a b 3 ep.aG v1 c.records) (h2 : W.ownsRow p e 1 v2 c.globals.length (c.globals.map .string))
 (hd : ∀ g, v2.ownBlock = some g → (g < a ∨ b ≤ g) ∧ lo ≤ g ∧ g ≠ g4) (hlo : lo ≤ a) (hz : g4 < a ∨ b ≤ g4) : iM lo W.heap.size g4 W c v1 v2 := by
 obtain ⟨F1, a1, a2, a3⟩ := h1
 obtain ⟨F2, b1, b2, b3⟩ := gD.texts (qx h2 (base' := 0) (fun _ _ => nZ _)) (nR _)
 obtain ⟨e2, vs2, F3, q1, q2, q3⟩ := b1.uG
 have hF3 : F3 = [] := q3.yZ fun d hd => by
  exact BV
 subst hF3
 rw [List.append_nil] at q2
 have hb : ∀ g ∈ F2, v2.ownBlock = some g := fun g hg => by rw [q2] at hg; simpa using hg
 refine ⟨F1, F2, a1, b1, List.nodup_append.2 ⟨a2, b2, fun x hx y hy he => ?_⟩, fun g hg => ?_⟩
 ·subst he
  have := a3 x hx; have := (hd x (hb x hy)).1; omega
 rcases mA hg with hg | hg
 ·have h4 := a1.lt g hg; have := a3 g hg; exact ⟨ah, h4, ah⟩
 have h4 := b1.lt g hg; have h5 := hd g (hb g hg); exact ⟨h5.2.1, h4, h5.2.2⟩
theorem Sw {W : World} {c : bO} {lo a b p : Nat} {e : TypeId} {v1 vk : Value} {G : List Nat} (h1 : W.ownsRow p e 1 v1 c.slots.length (c.slots.map .string))
 (hd : ∀ g, v1.ownBlock = some g → (g < a ∨ b ≤ g) ∧ lo ≤ g)
 (h2 : aO W c.body.aG G [.int i64 c.body.kind, .int i64 c.body.op, .int i64 c.body.number, .int i64 c.body.line, .string c.body.text, vk]) (hG : G.Nodup) (hGb : ∀ g ∈ G, a ≤ g ∧ g < b) (hlo : lo ≤ a) :
 ∃ F, aO W c.aG F [.string c.name, .int i64 c.params, v1, .int i64 c.body.kind, .int i64 c.body.op, .int i64 c.body.number, .int i64 c.body.line, .string c.body.text, vk] ∧ F.Nodup ∧ ∀ g ∈ F, lo ≤ g := by
 obtain ⟨A, n, F1, rfl, he, hk⟩ := ak.pK h2
 simp only [List.cons.injEq, and_true, true_and] at he
 obtain rfl := he
 obtain ⟨F2, b1, b2, b3⟩ := gD.texts (qx h1 (base' := 0) (fun _ _ => nZ _)) (nR _)
 obtain ⟨e2, vs2, F3, q1, q2, q3⟩ := b1.uG
 have hF3 : F3 = [] := q3.yZ fun d hd => by
  exact BV
 subst hF3
 rw [List.append_nil] at q2
 have hb : ∀ g ∈ F2, v1.ownBlock = some g := fun g hg => by rw [q2] at hg; simpa using hg
 refine ⟨_, bO.ownIn b1 hk, List.nodup_append.2 ⟨b2, hG, fun x hx y hy he => ?_⟩, fun g hg => ?_⟩
 ·subst he
  have := hGb x hy; have := (hd x (hb x hx)).1; omega
 rcases mA hg with hg | hg
 ·exact (hd g (hb g hg)).2
 have := hGb g hg; omega
theorem iM.prog {W : World} {c : bg} {l : List bO} {v v1 v2 : Value} {lo hi g4 B : Nat} {e : TypeId} {vs : List Value} (h : iM lo hi g4 W c v1 v2) (hg : Grow B e 9 bO.aG W l v vs) (hB : hi ≤ B) (hl : lo ≤ B) :
 nS W (fun g => lo ≤ g ∧ g < W.heap.size) (⟨l, c.records, c.globals, c.main⟩ : bg).aG [v, v1, v2, .int i64 c.main] := by
 obtain ⟨F1, F2, h1, h2, h3, h4⟩ := h
 obtain ⟨F0, a1, a2, a3⟩ := hg.Xh
 have H : aO W [.row 9 l.length (flat bO.aG l), .row 3 c.records.length (flat ep.aG c.records), .row 1 c.globals.length (flat aR c.globals), .int i64 c.main] (F0 ++ (F1 ++ (F2 ++ ([] ++ [])))) [v, v1, v2, .int i64 c.main] := aO.aN a1 (aO.aN h1 (aO.aN h2 (aO.aN .mkInt .eO)))
 simp only [List.append_nil] at H
 refine ⟨_, H, List.nodup_append.2 ⟨a2, h3, fun x hx y hy he => ?_⟩, fun g hg => ?_⟩
 ·subst he
  have := a3 x hx; have := h4 x hy; omega
 rcases mA hg with hg | hg
 ·have := a3 g hg; have := a1.lt g hg; omega
 have := h4 g hg
 rcases mA hg with hg | hg
 ·have := h1.lt g hg; omega
 have := h2.lt g hg; omega
theorem iM.Vg {lo hi g4 : Nat} {w : World} {c : bg} {v1 v2 : Value} (h : iM lo hi g4 w c v1 v2) (u0 u1 u2 u3 : Value) :
 iM lo hi g4 ((((w.setCell (aj g4 0) u0).setCell (aj g4 1) u1).setCell (aj g4 2) u2).setCell (aj g4 3) u3) c v1 v2 := (((h.aF 0 u0).aF 1 u1).aF 2 u2).aF 3 u3
theorem iM.Vh {lo g4 : Nat} {w : World} {c : bg} {v1 v2 : Value} (h : iM lo w.heap.size g4 w c v1 v2) (o : Obj) : iM lo w.heap.size g4 (w.alloc o) c v1 v2 := h.below ((bR w.heap.size w).alloc (nR _) o) (nR _)
theorem Rh (w : World) (o : Obj) : w.heap.size ≤ (w.alloc o).heap.size := av
theorem Tn (w : World) (g : Nat) (u0 u1 u2 u3 : Value) : w.heap.size ≤ ((((w.setCell (aj g 0) u0).setCell (aj g 1) u1).setCell (aj g 2) u2).setCell (aj g 3) u3).heap.size := by simp [World.setCell]
theorem Blk.Vg {w : World} {g : Nat} {t : TypeId} {a0 a1 a2 a3 : Value} (h : Blk w g t #[a0, a1, a2, a3]) (u0 u1 u2 u3 : Value) :
 Blk ((((w.setCell (aj g 0) u0).setCell (aj g 1) u1).setCell (aj g 2) u2).setCell (aj g 3) u3) g t #[u0, u1, u2, u3] := (((h.aF 0 u0).aF 1 u1).aF 2 u2).aF 3 u3
theorem Nj {l : List bO} {k : Nat} {x : bO} (h : l[k]? = some x) : (l.take (k + 1)).map jC = (l.take k).map jC ++ [jC x] := by rw [gB h, List.map_append]; rfl
theorem eu.Ll {w : World} {lo hi : Nat} : eu w lo hi Ll.aG [Value.slice none 0 0, .slice none 0 0, .slice none 0 0, .int i64 0] := by
 have H : aO w [.row 9 0 [], .row 3 0 [], .row 1 0 [], .int i64 0] [] [Value.slice none 0 0, .slice none 0 0, .slice none 0 0, .int i64 0] := aO.aN (F1 := []) .rH (aO.aN (F1 := []) .rH (aO.aN (F1 := []) .rH (aO.aN (F1 := []) .mkInt .eO)))
 exact ⟨[], H, List.nodup_nil, av⟩
theorem Nk {c : bg} (h : aS c = true) : ∀ r ∈ c.au, kg r.body := by
 intro r hr
 unfold aS at h
 simp only [Bool.and_eq_true, List.all_eq_true] at h
 have h1 := h.1.2 r hr
 unfold jv at h1
 simp only [Bool.and_eq_true] at h1
 exact DW r.body false false h1.2
theorem iX (w : World) (o : Obj) : (w.alloc o).heap.size = w.heap.size + 1 := av
theorem Blk.aew {w : World} {g b : Nat} {t : TypeId} {cs : Array Value} (h : Blk w g t cs) (u0 u1 u2 u3 : Value) (hp : g ≠ b) :
 ∀ i, ((((w.setCell (aj b 0) u0).setCell (aj b 1) u1).setCell (aj b 2) u2).setCell (aj b 3) u3).cell? (aj g i) = cs[i]? := ((((h.far hp u0).far hp u1).far hp u2).far hp u3).cell
theorem kS (w : World) : w.drew.heap.size = w.heap.size := rfl
theorem UF {W : World} {p size : Nat} {e : TypeId} (h : Blk W p e #[]) : W.ownsRow p e size (.slice (some (aj p 0)) 0 0) 0 [] :=
 ⟨av, .inr ⟨p, 0, #[], rfl, nR _, h, nZ _, nZ _, av, av⟩⟩
theorem vw {P : Program} {W : World} {ops : Array Oper} {o : Oper} {a : Act} {K : Act → World → Prop} {Q : Exit → Act → World → Prop} {E : Prop} (hgd : o.guard = none) (s x : Operand) (t : TypeId)
 (ho : o.op = .call { callee := .builtin .append, args := #[s, x], argTypes := #[t, t] })
 (e : TypeId) (z : Value) (size bytes : Nat) (hinfo : (P.info? e).map (fun i => (i.zero, i.size, i.bytes)) = some (some z, size, bytes)) (ht : P.underlying t = some (.slice e)) (hzs : z.cells.size = size) (hsz : 0 < size)
 (p : Nat) (hs : a.eval s = .slice (some (aj p 0)) 0 0) (hE : Blk W p e #[])
 (lo hi' : Nat) (u : Value) (m : Nat) (news : List Value) (hx : a.eval x = u) (hr : Rds W lo hi' size u m news) (h1 : ∀ u ∈ news, u.oneCell' = true)
 (h63 : m ≤ maxLen) (hbytes : m * bytes ≤ 140737488355328)
 (h : ∀ v' w', w'.ownsRow p e size v' m news → W.grownBy w' (some p) → (v'.ownBlock = some p ∨ v'.ownBlock = some W.heap.size) → K (a.put o.dst v') w') :
 if Region.wanted o (yielded ops a.tmps) = true then Oper.wp P o a W K Q else E := by
 have hw : Region.wanted o (yielded ops a.tmps) = true := by simp [Region.wanted, hgd]
 rw [if_pos hw]
 obtain ⟨i0, hi0, hz0, hz1, hz2⟩ := info_parts hinfo
 refine lK W s x t ho p e i0 z size bytes ht hi0 hz0 hz1 hz2 hzs hsz _ 0 [] hs (UF hE) lo hi' u m news hx hr h1 ah (by rw [Nat.zero_add]; exact hbytes) (Nat.le_of_lt hE.lt) ?_
 intro v' w' g1 g2 g3
 exact h v' w' (by simpa using g1) g2 g3
end
end Go.Proofs.YthbcamfejgghhaaGreatDoor
