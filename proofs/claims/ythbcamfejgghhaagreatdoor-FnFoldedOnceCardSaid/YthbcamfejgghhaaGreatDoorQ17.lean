/- Scopes: what a name may be. What is returned is not told but for its bounds. What the uN calls: leaves and numbers; nothing told but their bounds. Data of -/
import Derived.Test.YthbcamfejgghhaaGreatDoorQ10
import Derived.Test.YthbcamfejgghhaaGreatDoorQ11
import Derived.Test.YthbcamfejgghhaaGreatDoorQ15
import Derived.Test.YthbcamfejgghhaaGreatDoorQ16
set_option maxRecDepth 100000
set_option maxHeartbeats 8000000
set_option linter.unusedVariables false
set_option linter.unusedSimpArgs false
namespace Go.Proofs.YthbcamfejgghhaaGreatDoor
open Go.IntKind (i64)
section
open Go Go.RowKit
def rY (k : Nat) (w : World) (e : Ending) (w' : World) : Prop := (∃ (A : Option Addr) (l : List ByteArray), e = .returned (.slice A k k) ∧ l.length = k ∧ aW w' w.heap.size w'.heap.size 1 aR (.slice A k k) l) ∧ Below w.heap.size w w'
theorem Tj {w : World} {cs : Array Value} {n : Nat} (hs : cs.size = n) (h : cs.toList.all isStr = true) (hn : n ≤ 1000) (t : TypeId) :
 ∃ l : List ByteArray, l.length = n ∧ aW (w.alloc (.cells cs t)) w.heap.size (w.alloc (.cells cs t)).heap.size 1 aR (.slice (some (aj w.heap.size 0)) n n) l := by
 obtain ⟨l, hl⟩ := GQ h
 have hln : l.length = n := by
  exact CS
 subst hln
 refine ⟨l, rfl, aW.rds.2 ⟨_, _, rfl, nR _, by unfold maxLen; omega, av, l8, fun _ => ⟨_, 0, rfl, nR _, av, fun j u hu => ?_⟩⟩⟩
 rw [Nat.zero_add, (Blk.new w t cs).cell j, ← hu, ← hl]
 simp
theorem zZ (w : World) : Calls Tryz.prog 167 #[] w (rY 55 w) := by
 have H1 : Hid (∀ c : Array Value, c.toList.all isStr = true → c.size = 55 → rY 55 w (.returned (.slice (some (aj w.heap.size 0)) 55 55)) (w.alloc (.cells c 9))) := by
  exact Gm
 exact BZ
def Vu (w : World) (e : Ending) (w' : World) : Prop := (∃ k i : Int, e = .returned (.tuple (aL k i)) ∧ 0 ≤ k ∧ k ≤ 5) ∧ Below w.heap.size w w'
theorem tJ (u : fE) (A1 A2 A3 : Option Addr) (n1 n2 n3 : Nat) (w : World) (lo hi : Nat) (s : ByteArray) (h : dZ w lo hi fE.aG (.agg (aQ A1 u.records.length n1 A2 u.globals.length n2 A3 u.procedures.length n3)) u) (hhi : hi ≤ w.heap.size) :
 Calls Tryz.prog 211 #[.agg (aQ A1 u.records.length n1 A2 u.globals.length n2 A3 u.procedures.length n3), s] w (Vu w) := by
 obtain ⟨hr, hg, hp⟩ := fE.rows h
 obtain ⟨_, _, e1, hr1, hr2⟩ := hr.shape
 injection e1 with e1 _ e2
 subst e1 e2
 obtain ⟨_, _, e1, hp1, hp2⟩ := hp.shape
 injection e1 with e1 _ e2
 subst e1 e2
 unfold maxLen at hr2 hp2
 have HR := lH hr
 have HG := lH hg
 have HP := lH hp
 clear h hr hg hp
 obtain ⟨b0, hb0⟩ := dQ w 122 (aQ A1 u.records.length n1 A2 u.globals.length n2 A3 u.procedures.length n3)
 go_in
 go_upto_region 1 with fail
 generalize w.alloc (.cells (aQ A1 u.records.length n1 A2 u.globals.length n2 A3 u.procedures.length n3) 122) = W at *
 have c0 := b0.cell
 have HR' := lH (HR.out.below hb0 hhi)
 have HP' := lH (HP.out.below hb0 hhi)
 have HG' := lH (HG.out.below hb0 hhi)
 have hhW : hi ≤ W.heap.size := nT hhi hb0.size
 go_wp2_with fail
 go_loop [6] (fun k => ∃ j : Nat, j ≤ u.records.length ∧ k = .int i64 j) (fun k => u.records.length - (intOf k).toNat)
 case atStart => exact ⟨0, nZ _, rfl⟩
 obtain ⟨j, hj, rfl⟩ := hrel
 by_cases hlt : j < u.records.length
 ·obtain ⟨c, hc⟩ : ∃ c, u.records[j]? = some c := ⟨_, gE hlt⟩
  obtain ⟨g, off, Af, nf, rfl, -, hg3, -, -, t0, -, -⟩ := ep.at_ HR'.out hc
  exact Ou
 obtain rfl : j = u.records.length := by omega
 clear hlt
 go_wp2_with fail
 refine (iq u.globals s _ W lo hi HG'.out).mono ?_
 rintro e w2 ⟨rfl, rfl⟩
 generalize Lib.idxOfS u.globals s = k
 by_cases hk : 0 ≤ k
 ·exact IX
 go_wp2_with fail
 go_loop [8] (fun k => ∃ j : Nat, j ≤ u.procedures.length ∧ k = .int i64 j) (fun k => u.procedures.length - (intOf k).toNat)
 case atStart => exact ⟨0, nZ _, rfl⟩
 obtain ⟨j, hj, rfl⟩ := hrel
 by_cases hlt : j < u.procedures.length
 ·obtain ⟨c, hc⟩ : ∃ c, u.procedures[j]? = some c := ⟨_, gE hlt⟩
  obtain ⟨g, off, Ap, np, Al, nl, Ab, nb, rfl, -, hg3, -, -, t0, -⟩ := iU.at_ HP'.out hc
  exact Ou
 obtain rfl : j = u.procedures.length := by omega
 clear hlt
 go_wp2_with fail
 refine (zZ _).mono ?_
 rintro e w3 ⟨⟨A, l, rfl, hll, hrow⟩, hb3⟩
 have HB := lH (hb0.trans (hb3.mono hb0.size))
 have hrow' := hrow
 clear hrow
 have HF := lH (iq l s _ w3 _ _ hrow')
 clear hrow' hb3
 go_wp2_with fail
 refine HF.out.mono ?_
 rintro e w4 ⟨rfl, rfl⟩
 generalize Lib.idxOfS l s = k2
 by_cases hk2 : 0 ≤ k2
 rotate_left
 iterate 2 focus
  go_wp2_with fail
  go_ret2
  exact ⟨⟨_, _, rfl, aA, aA⟩, HB.out⟩
end
section
open Go Go.RowKit
def Pe (line : Int) (w : World) (e : Ending) (w' : World) : Prop := ∃ (k n : Int) (t : ByteArray), e = .returned (.agg (aB k 0 n line t none 0 0)) ∧ t.size ≤ 100 ∧ Below w.heap.size w w'
def Xn (w : World) (e : Ending) (w' : World) : Prop := ∃ k : Int, e = .returned (.int i64 k) ∧ Below w.heap.size w w'
theorem iY (op line : Int) (A : Option Addr) (m n : Nat) (w : World) : Calls Tryz.prog 173 #[.int i64 op, line, .slice A m n] w fun e w' => e = .returned (.agg (aB 11 op 0 line aC A m n)) ∧ Below w.heap.size w w' := by
 go_in
 go_wp2_with fail
 refine bodyPost_ret (v := .agg (aB 11 op 0 line aC A m n)) ?_ rfl ⟨rfl, ?_⟩
 ·simp [results, Tryz.results173, go_sem]
 exact bA _ _
theorem Bw (s : ByteArray) (line : Int) (w : World) : Calls Tryz.prog 172 (lM s line) w (Pe line w) := by
 have HL : Hid (∀ (k n : Int) (t : ByteArray), t.size ≤ 100 → Pe line w (.returned (.agg (aB k 0 n line t none 0 0))) (w.alloc (.cells (aB k 0 n line t none 0 0) 43))) := fun k n t ht => ⟨k, n, t, rfl, ht, bA _ _⟩
 go_in
 go_wp2_with fail
 all_goals
  refine bodyPost_ret ?_ rfl (HL.out _ _ _ ?_)
  ·simp [results, Tryz.results172, go_sem]
  decide
theorem TD (w : World) : Calls Tryz.prog 192 #[] w (rY 11 w) := by
 have H1 : Hid (∀ c : Array Value, c.toList.all isStr = true → c.size = 11 → rY 11 w (.returned (.slice (some (aj w.heap.size 0)) 11 11)) (w.alloc (.cells c 9))) := by
  exact Gm
 exact BZ
theorem Cx (w : World) : Calls Tryz.prog 193 #[] w (rY 44 w) := by
 have H1 : Hid (∀ c : Array Value, c.toList.all isStr = true → c.size = 44 → rY 44 w (.returned (.slice (some (aj w.heap.size 0)) 44 44)) (w.alloc (.cells c 9))) := by
  exact Gm
 exact BZ
theorem Ez (s : ByteArray) (w : World) : Calls Tryz.prog 174 #[.string s] w (Xn w) := by
 go_in
 go_wp2_with fail
 refine (TD _).mono ?_
 rintro e w2 ⟨⟨A, l, rfl, hl, hr⟩, hb⟩
 have HF := lH (iq l s _ w2 _ _ hr)
 clear hr
 go_wp2_with fail
 refine HF.out.mono ?_
 rintro e w3 ⟨rfl, rfl⟩
 go_wp2_with fail
 go_ret
 exact ⟨_, rfl, hb⟩
theorem KX (s : ByteArray) (w : World) (hs : s.size ≤ 100000) : Calls Tryz.prog 175 #[.string s] w (Xn w) := by
 have HB := lH (bR w.heap.size w)
 go_in
 rcases bE (s.toList == [63, 63]) with k1 | k1
 ·exact yK
 rcases bE (s.toList == [46, 124]) with k2 | k2
 ·exact yK
 rcases bE (s.toList == [45, 62]) with k3 | k3
 ·exact yK
 rcases bE (s.toList == [61, 62]) with k4 | k4
 ·exact yK
 cases k5 : decide (2 < (s.size : Int))
 ·exact Om
 have hlt : 2 < s.size := by have := of_decide_eq_true k5; omega
 have hwr : IntKind.i64.wrap ((s.size : Int) - 2) = (s.size : Int) - 2 := IntWalk.i64_in _ ah
 have hnn : ((s.size : Int) - 2).toNat = s.size - 2 := ah
 have h2 : (2 : Int) ≤ (s.size : Int) := ah
 have h3 : (s.size : Int) - 2 ≤ (s.size : Int) := ah
 go_upto_region 10 with fail
 go_cut [22] (fun v wx => ∃ b : Bool, v = .bool b ∧ wx = w)
 case first =>
  go_wp2_with fail
  go_meet
  exact ⟨_, rfl, rfl⟩
 obtain ⟨b, rfl, rfl⟩ := hcut
 cases b
 ·exact Om
 go_upto_region 11 with fail
 refine jm 8 (fun _ => True) 8 ?_
 have HBD := lH ((Same.refl wc).drew.below wc.heap.size)
 generalize wc.drew = Wd at *
 refine tkA 1 trivial ?_
 refine tkA 2 trivial ?_
 refine tkA 3 trivial ?_
 refine tkA 4 trivial ?_
 refine rdA 0 (fun K hK => ?_)
 go_simp
 go_at_call 193
 refine (Cx _).mono ?_
 rintro e w2 ⟨⟨A, l, rfl, hl, hr⟩, hb⟩
 have HR := lH hr
 have HB2 := lH (HBD.out.trans (hb.mono HBD.out.size))
 clear hr hb
 refine fM hK trivial ?_
 clear hK K
 refine rdA 5 (fun K hK => ?_)
 go_simp
 go_at_call 71
 refine (iq l _ _ w2 _ _ HR.out).mono ?_
 rintro e w3 ⟨rfl, rfl⟩
 refine fM hK trivial ?_
 clear hK K
 refine tkA 6 trivial ?_
 refine tkA 7 trivial ?_
 refine bY aI ?_ _
 go_wp2_with fail
 go_ret
 exact ⟨_, rfl, HB2.out⟩
end
section
open Go Go.RowKit
def jo (w : World) (B : Nat) (ds : List Dat) (vs : List Value) : Prop := ∃ F : List Nat, aO w ds F vs ∧ ∀ g ∈ F, B ≤ g
section
variable {w w' w1 w2 : World} {B B' p : Nat} {ds es : List Dat} {vs us : List Value} {v : Value} {α : Type} {f : α → List Dat} {K : Nat} {e : TypeId} {l : List α}
theorem jo.of (h : eu w B p ds vs) : jo w B ds vs := by obtain ⟨F, h1, -, h3⟩ := h; exact ⟨F, h1, fun g hg => (h3 g hg).1⟩
theorem jo.low (h : jo w B ds vs) (hB : B' ≤ B) : jo w B' ds vs := by obtain ⟨F, h1, h2⟩ := h; exact ⟨F, h1, fun g hg => nT hB (h2 g hg)⟩
theorem jo.kept (h : jo w B ds vs) (hk : ∀ g, B ≤ g → g < w.heap.size → w'.heap[g]? = w.heap[g]?) : jo w' B ds vs := by
 obtain ⟨F, h1, h2⟩ := h
 exact ⟨F, h1.kept fun g hg => hk g (h2 g hg) (h1.lt g hg), h2⟩
theorem jo.later (h : jo w B ds vs) (hb : Below w.heap.size w w') : jo w' B ds vs := h.kept fun g _ hg => hb.block g hg
theorem jo.box (h : jo w B ds vs) (hg : w.grownBy w' (some p)) (hp : p < B) : jo w' B ds vs := h.kept fun g h1 h2 => hg.block g h2 aK
theorem jo.set (h : jo w B ds vs) {q : Addr} (hq : q.block < B) (u : Value) : jo (w.setCell q u) B ds vs := h.kept fun g h1 _ => Below.heap_setCell w q u g (fun e => by subst e; omega)
theorem jo.eO : jo w B [] [] := ⟨[], .eO, av⟩
theorem jo.app (h : jo w B ds vs) (h' : jo w B es us) : jo w B (ds ++ es) (vs ++ us) := by
 exact Gl
theorem jo.rep {hi : Nat} (h : jo w B ds vs) (hh : w.heap.size ≤ hi) : eU w B hi ds vs := by
 obtain ⟨F, h1, h2⟩ := h
 exact h1.rep fun g hg => ⟨h2 g hg, nL (h1.lt g hg) hh⟩
theorem jo.row {n : Nat} {b : Nat} (h : jo w B ds vs) (ho : w.ownsRow b e K v n vs) (hb : ∀ g, v.ownBlock = some g → B ≤ g) : jo w B [.row K n ds] [v] := by
 obtain ⟨F, h1, h2⟩ := h
 refine ⟨(v.ownBlock.toList ++ F) ++ [], .aN (dK.iV ho h1) .eO, fun g hg => ?_⟩
 rw [List.append_nil] at hg
 rcases mA hg with hg | hg
 ·exact hb g jK
 exact h2 g hg
theorem jo.lit {n : Nat} (h : jo w B ds vs) (hv : vs.length = n * K) (hn : n ≤ maxLen) (hB : B ≤ w.heap.size) : jo (w.alloc (.cells vs.toArray e)) B [.row K n ds] [.slice (some (aj w.heap.size 0)) n n] := by
 refine jo.row (b := 0) (e := e) (h.later (bA _ _)) ⟨hv, .inr ⟨w.heap.size, n, vs.toArray, rfl, nZ _, heap_alloc_new w _, nR _, hn, by simp [hv], by simp [← hv]⟩⟩ fun g hg => ?_
 have hg : some w.heap.size = some g := hg
 injection hg with hg
 omega
end
def ak.cells (c : ak) (A : Option Addr) (n : Nat) : List Value := [.int i64 c.kind, .int i64 c.op, .int i64 c.number, .int i64 c.line, .string c.text, .slice A c.kids.length n]
def kF (w : World) (B : Nat) (c : ak) (A : Option Addr) (n : Nat) : Prop := jo w B c.aG (c.cells A n)
section
variable {w w' w1 w2 : World} {B B' p : Nat} {l : List ak} {x : ak} {v : Value} {A : Option Addr} {n : Nat}
theorem kF.node (h : jo w B [.row 6 l.length (flat ak.aG l)] [.slice A l.length n]) (k o m line : Int) (t : ByteArray) : kF w B (.mk k o m line t l) A n := by
 exact Gi
theorem kF.leaf (k o m line : Int) (t : ByteArray) : kF w B (.mk k o m line t []) none 0 := kF.node (l := []) (A := none) (n := 0) ⟨[] ++ [], .aN dK.rH .eO, av⟩ k o m line t
theorem kF.one (h : kF w B x A n) : jo w B (flat ak.aG [x]) (x.cells A n) := by rw [cK, fC, List.append_nil]; exact h
theorem kF.cons {us : List Value} (h : kF w B x A n) (h' : jo w B (flat ak.aG l) us) : jo w B (flat ak.aG (x :: l)) (x.cells A n ++ us) := by rw [cK]; exact jo.app h h'
theorem kF.elem {j : Nat} (h : jo w B [.row 6 l.length (flat ak.aG l)] [v]) (hx : l[j]? = some x) : ∃ g cap A m, v = .slice (some (aj g 0)) l.length cap ∧ B ≤ g ∧ g < w.heap.size ∧ (∀ i u, (x.cells A m)[i]? = some u → w.cell? (aj g (j * 6 + i)) = some u) ∧ kF w B x A m := by
 obtain ⟨F, h1, h3⟩ := h
 have hlt := h1.lt
 obtain ⟨F1, F2, v', vs', rfl, hv, h4, h5⟩ := h1.out
 injection hv with hv1 hv2
 subst hv1 hv2
 obtain ⟨rfl, -⟩ := h5.jc
 rw [List.append_nil] at h3 hlt
 have hj := (List.getElem?_eq_some_iff.1 hx).1
 have hd : l.drop j = x :: l.drop (j + 1) := by
  obtain ⟨hk, rfl⟩ := List.getElem?_eq_some_iff.1 hx
  exact List.drop_eq_getElem_cons hk
 have hfl : flat ak.aG l = flat ak.aG (l.take j) ++ (x.aG ++ flat ak.aG (l.drop (j + 1))) := by
  rw [← cK, ← jH, ← hd, List.take_append_drop]
 rw [hfl] at h4
 have ht : (flat ak.aG (l.take j)).length = j * 6 := by rw [uH ak.eD, List.length_take, Nat.min_eq_left (Nat.le_of_lt hj)]
 obtain ⟨g, cap, t, F1, Fe, F2, va, ue, vb, rfl, rfl, hown, hva, hue, o1, oe, o2⟩ := h4.elem hj ht x.eD
 obtain ⟨A, m, Fk, rfl, rfl, -⟩ := ak.pK oe
 refine ⟨g, cap, A, m, rfl, h3 g av, hlt g av, fun i u hi => ?_, Fe, oe, fun b hb => h3 b (KN (List.mem_cons_of_mem _ hb))⟩
 have hl6 : i < 6 := by have := (List.getElem?_eq_some_iff.1 hi).1; simpa [ak.cells] using this
 exact pY hown hva ah hi
end
def j6 (B : Nat) (e : TypeId) (w : World) (l : List ak) (v : Value) (vs : List Value) : Prop :=
 ∃ F : List Nat, w.ownsRow B e 6 v l.length vs ∧ aO w (flat ak.aG l) F vs ∧ (∀ g ∈ F, B ≤ g) ∧ (∀ g, v.ownBlock = some g → g ∉ F)
section
variable {w w' w1 w2 : World} {B p hi : Nat} {e : TypeId} {l : List ak} {c : ak} {v v' : Value} {vs us : List Value}
theorem j6.own (h : j6 B e w l v vs) : w.ownsRow B e 6 v l.length vs := by obtain ⟨F, h, -⟩ := h; exact h
theorem j6.start (h : w.ownsRow B e 6 v 0 []) : j6 B e w [] v [] := ⟨[], h, by simp only [fC]; exact .eO, av, av⟩
theorem j6.kept (h : j6 B e w l v vs) (hk : ∀ g, B ≤ g → g < w.heap.size → w'.heap[g]? = w.heap[g]?) : j6 B e w' l v vs := by
 obtain ⟨F, h1, h2, h4, h5⟩ := h
 exact ⟨F, dR h1 fun g hg => hk g (h1.lt g hg).1 (h1.lt g hg).2, h2.kept fun g hg => hk g (h4 g hg) (h2.lt g hg), h4, h5⟩
theorem j6.later (h : j6 B e w l v vs) (hb : Below w.heap.size w w') : j6 B e w' l v vs := h.kept fun g _ hg => hb.block g hg
theorem j6.box (h : j6 B e w l v vs) (hg : w.grownBy w' (some p)) (hp : p < B) : j6 B e w' l v vs := h.kept fun g h1 h2 => hg.block g h2 aK
theorem j6.row (h : j6 B e w l v vs) : jo w B [.row 6 l.length (flat ak.aG l)] [v] := by
 obtain ⟨F, h1, h2, h4, h5⟩ := h
 exact jo.row ⟨F, h2, h4⟩ h1 fun g hg => (h1.lt g hg).1
theorem j6.push (h : j6 B e w l v vs) (hb : w.grownBy w1 (some p)) (hp : p < B) (hB : B ≤ w.heap.size) (hc : jo w1 w.heap.size c.aG us)
 (ho : w2.ownsRow B e 6 v' (l.length + 1) (vs ++ us)) (hgr : w1.grownBy w2 v.ownBlock) (hat : v'.ownBlock = v.ownBlock ∨ ∃ k, v'.ownBlock = some k ∧ w1.heap.size ≤ k) : j6 B e w2 (l ++ [c]) v' (vs ++ us) := by
 obtain ⟨F, h1, h2, h4, h5⟩ := h
 obtain ⟨G, hc, hg⟩ := hc
 have hF := h2.lt
 have hG1 := hc.lt
 have hv : ∀ g, v.ownBlock = some g → g < w.heap.size := fun g hg => (h1.lt g hg).2
 have hw1 : ∀ g, B ≤ g → g < w.heap.size → w1.heap[g]? = w.heap[g]? := fun g a b => hb.block g b aK
 have h2' : aO w2 (flat ak.aG l) F vs := h2.kept fun g hgF => (hgr.block g (nL (hF g hgF) hb.size) (fun e => h5 g e.symm hgF)).trans (hw1 g (h4 g hgF) (hF g hgF))
 have hc' : aO w2 c.aG G us := hc.kept fun g hgG => hgr.block g (hG1 g hgG) (fun e => by have := hv g e.symm; have := hg g hgG; omega)
 refine ⟨F ++ G, by rw [List.length_append]; exact ho, by rw [jH, cK, fC, List.append_nil]; exact h2'.app hc', fun g hm => ?_, fun g hvg hm => ?_⟩
 ·rcases mA hm with hm | hm
  ·exact h4 g hm
  have := hg g hm; omega
 rcases hat with e | ⟨k, e, hk⟩
 ·exact Jc
 rw [e] at hvg; injection hvg with hvg
 subst hvg
 rcases mA hm with hm | hm
 ·have := hF _ hm; have := hb.size; omega
 have := hG1 _ hm; omega
end
end
section
open Go.RowKit
def MO (x : Int) : Int := if x < 10 then 48 + x else 87 + x
def nH (q b : Int) : List Int :=
 if b = q ∨ b = 92 then [92, b] else if b = 10 then [92, 110] else if b = 9 then [92, 116] else if b < 32 ∨ 126 < b then [92, 120, MO (b / 16), MO (b % 16)] else [b]
def MP (s : ByteArray) : List Int := s.data.toList.map fun b => (b.toNat : Int)
def iC (q : Int) (s : ByteArray) (k : Nat) : List Int := q :: ((MP s).take k).flatMap (nH q)
def quoted (q : Int) (s : ByteArray) : ByteArray := strOfNums (iC q s s.size ++ [q])
theorem MQ (s : ByteArray) (k : Nat) (h : k < s.size) : (MP s)[k]? = some (s[k].toNat : Int) := by
 unfold MP
 rw [List.getElem?_map, gE (by simpa using h)]
 rfl
theorem MR {α : Type} {l : List α} {k : Nat} {z : α} (h : l[k]? = some z) : l.take (k + 1) = l.take k ++ [z] := by
 obtain ⟨hk, rfl⟩ := List.getElem?_eq_some_iff.1 h
 exact List.take_succ_eq_append_getElem hk
theorem y7 (q : Int) (s : ByteArray) (k : Nat) (h : k < s.size) : iC q s (k + 1) = iC q s k ++ nH q s[k].toNat := by
 rw [iC, MR (MQ s k h)]; simp [iC]
theorem MS (q b : Int) : (nH q b).length ≤ 4 := by unfold nH; repeat (first | split | simp)
theorem Bc (q : Int) (s : ByteArray) (k : Nat) (h : k ≤ s.size) : (iC q s k).length ≤ 1 + 4 * k := by
 induction k with
 | zero => simp [iC]
 | succ k ih => rw [y7 q s k ah, List.length_append]; have := ih ah; have := MS q s[k].toNat; omega
theorem Bd (q : Int) (s : ByteArray) : (quoted q s).size ≤ 2 + 4 * s.size := by
 rw [quoted, strOfNums_size, List.length_append]; have := Bc q s s.size (nR _); simp; omega
theorem qc1 {q b : Int} (h : b = q ∨ b = 92) : nH q b = [92, b] := by rw [nH, if_pos h]
theorem qc2 {q b : Int} (h : ¬ (b = q ∨ b = 92)) (h2 : b = 10) : nH q b = [92, 110] := by rw [nH, if_neg h, if_pos h2]
theorem qc3 {q b : Int} (h : ¬ (b = q ∨ b = 92)) (h2 : ¬ b = 10) (h3 : b = 9) : nH q b = [92, 116] := by rw [nH, if_neg h, if_neg h2, if_pos h3]
theorem qc4 {q b : Int} (h : ¬ (b = q ∨ b = 92)) (h2 : ¬ b = 10) (h3 : ¬ b = 9) (h4 : b < 32 ∨ 126 < b) : nH q b = [92, 120, MO (b / 16), MO (b % 16)] := by rw [nH, if_neg h, if_neg h2, if_neg h3, if_pos h4]
theorem qc5 {q b : Int} (h : ¬ (b = q ∨ b = 92)) (h2 : ¬ b = 10) (h3 : ¬ b = 9) (h4 : ¬ (b < 32 ∨ 126 < b)) : nH q b = [b] := by rw [nH, if_neg h, if_neg h2, if_neg h3, if_neg h4]
theorem RD (x : Int) (h0 : 0 ≤ x) (h1 : x < 16) (hp : x.toNat < (⟨#[48, 49, 50, 51, 52, 53, 54, 55, 56, 57, 97, 98, 99, 100, 101, 102]⟩ : ByteArray).size) :
 (((⟨#[48, 49, 50, 51, 52, 53, 54, 55, 56, 57, 97, 98, 99, 100, 101, 102]⟩ : ByteArray)[x.toNat]'hp).toNat : Int) = MO x := by
 obtain ⟨n, rfl⟩ : ∃ n : Nat, x = n := ⟨x.toNat, ah⟩
 have hn : n < 16 := ah
 match n, hn with
 | 0, _ => rfl
 | 1, _ => rfl
 | 2, _ => rfl
 | 3, _ => rfl
 | 4, _ => rfl
 | 5, _ => rfl
 | 6, _ => rfl
 | 7, _ => rfl
 | 8, _ => rfl
 | 9, _ => rfl
 | 10, _ => rfl
 | 11, _ => rfl
 | 12, _ => rfl
 | 13, _ => rfl
 | 14, _ => rfl
 | 15, _ => rfl
theorem Xo (b : Nat) (h : b ≤ 255) : bits BinOp.and IntKind.u8 (b : Int) 15 = ((b % 16 : Nat) : Int) := by
 have : ∀ b : Fin 256, bits BinOp.and IntKind.u8 (b.val : Int) 15 = ((b.val % 16 : Nat) : Int) := gP
 exact this ⟨b, ah⟩
theorem qb : (Tryz.prog.info? 5).map (fun i => (i.zero, i.size, i.bytes)) = some (some (.int .u8 0), 1, 1) := aI
theorem Dk (s : ByteArray) (q : Nat) (w : World) (hs : s.size ≤ 1048576) (_hq : q ≤ 255) :
 Calls Tryz.prog 78 #[.string s, .int .u8 q] w fun e w' => e = .returned (.string (quoted q s)) ∧ Below w.heap.size w w' := by
 have hcv := fun (W : World) (u : Value) (n : Nat) (xs : List Int) (h : W.ownsRow w.heap.size 5 1 u n (xs.map (.int .u8))) (hn : 0 < n) => Bu (P := Tryz.prog) 22 9 5 Tryz.underlying22 Tryz.underlying5 Tryz.underlying9 h hn
 have HCV := lH hcv
 clear hcv
 go_in
 go_wp2_with fail
 go_loopw [5, 6] (fun v i wr => ∃ k : Nat, k ≤ s.size ∧ i = .int i64 k ∧ wr.ownsRow w.heap.size 5 1 v (iC q s k).length ((iC q s k).map (.int .u8)) ∧ Below w.heap.size w wr) (fun _ i _ => s.size - (intOf i).toNat)
 case atStart => exact ⟨0, nZ _, rfl, World.ownsRow_lit w #[.int .u8 q] 1 (nR _) aA rfl, bA _ _⟩
 obtain ⟨k, hk, rfl, hown, hb⟩ := hrel
 obtain ⟨wo, rfl⟩ := nW wr
 obtain ⟨v, hv⟩ : ∃ v, v = u5 := ⟨_, rfl⟩
 subst hv
 have hlen := Bc q s k hk
 by_cases hlt : k < s.size
 ·have HS := lH (y7 q s k hlt)
  have Rj : s[k].toNat ≤ 255 := by have := s[k].toNat_lt; omega
  by_cases h1 : (s[k].toNat : Int) = q ∨ (s[k].toNat : Int) = 92
  ·have hL := lH (qc1 h1)
   by_cases h1a : (s[k].toNat : Int) = q
   ·have hb1 : ((s[k].toNat : Int) == (q : Int)) = true := beq_iff_eq.2 h1a
    clear h1 h1a
    exact JO
   have h1b : (s[k].toNat : Int) = 92 := ah
   have hb1 : ((s[k].toNat : Int) == (q : Int)) = false := bF h1a
   have hb2 : ((s[k].toNat : Int) == 92) = true := beq_iff_eq.2 h1b
   clear h1 h1a h1b
   exact JO
  have hb1 : ((s[k].toNat : Int) == (q : Int)) = false := bF ah
  have hb2 : ((s[k].toNat : Int) == 92) = false := bF ah
  by_cases h2 : (s[k].toNat : Int) = 10
  ·have hL := lH (qc2 h1 h2)
   have hb3 : ((s[k].toNat : Int) == 10) = true := beq_iff_eq.2 h2
   clear h1 h2
   have HS2 : Hid (iC q s (k + 1) = iC q s k ++ ([92, 110] : List Int)) := lH yP
   clear HS
   go_wp2_with (first | (at_builtin; refine kT rfl (.tmp 38) (.tmp 39) 22 rfl 5 _ 1 1 qb Tryz.underlying22 rfl aA aA w.heap.size v _ _ rfl hown #[.int .u8 92, .int .u8 110] 2 2 _ rfl rfl eZ ah hb.size ?_))
   exact BK
  have hb3 : ((s[k].toNat : Int) == 10) = false := bF ah
  by_cases h3 : (s[k].toNat : Int) = 9
  ·have hL := lH (qc3 h1 h2 h3)
   have hb4 : ((s[k].toNat : Int) == 9) = true := beq_iff_eq.2 h3
   clear h1 h2 h3
   have HS2 : Hid (iC q s (k + 1) = iC q s k ++ ([92, 116] : List Int)) := lH yP
   clear HS
   go_wp2_with (first | (at_builtin; refine kT rfl (.tmp 44) (.tmp 45) 22 rfl 5 _ 1 1 qb Tryz.underlying22 rfl aA aA w.heap.size v _ _ rfl hown #[.int .u8 92, .int .u8 116] 2 2 _ rfl rfl eZ ah hb.size ?_))
   exact BK
  have hb4 : ((s[k].toNat : Int) == 9) = false := bF ah
  by_cases h4 : (s[k].toNat : Int) < 32 ∨ 126 < (s[k].toNat : Int)
  ·have hL := lH (qc4 h1 h2 h3 h4)
   clear h1 h2 h3
   rcases h4 with h4 | h4
   all_goals
    have HS2 : Hid (iC q s (k + 1) = iC q s k ++ ([92, 120, (MO ((s[k].toNat : Int) / 16)), (MO ((s[k].toNat : Int) % 16))] : List Int)) := lH yP
    clear HS
    go_wp2_with fail
    have hG := Xo s[k].toNat Rj
    have g1 : (0 : Int) ≤ ((s[k].toNat % 16 : Nat) : Int) := ah
    have g2 : ((s[k].toNat % 16 : Nat) : Int) < 16 := ah
    have g3 : (0 : Int) ≤ (s[k].toNat : Int) / 16 := ah
    have g4 : (s[k].toNat : Int) / 16 < 16 := ah
    go_region_held3 (fun w' => Below w.heap.size w w') (first | exact hb | exact hb.drew | exact (hb.alloc hb.size _).drew | exact gN hb hb.size hown hgrow)
     ((refine MB rfl (.tmp 54) (.tmp 61) 22 rfl 5 _ 1 1 qb Tryz.underlying22 rfl aA aA w.heap.size v _ _ rfl hown #[.int .u8 92, .int .u8 120, _, _] 4 4 _ rfl (Same.refl _).drew rfl eZ ah hb.size ?_; intro v' w1 hown' hgrow hat))
    all_goals
     have hb1 := gN hb hb.size hown hgrow
     have ho2 : w1.ownsRow w.heap.size 5 1 v' (iC q s (k + 1)).length ((iC q s (k + 1)).map (.int .u8)) := by have d1 := RD ((s[k].toNat : Int) / 16) g3 g4 (by show ((s[k].toNat : Int) / 16).toNat < 16; omega); have d2 := RD ((s[k].toNat : Int) % 16) ah ah (by show ((s[k].toNat : Int) % 16).toNat < 16; omega); rw [HS2.out]; simpa [d1, d2] using hown'
     clear hown' hgrow hG
     go_wp2_with fail
     go_roundw
     case rel => exact ⟨k + 1, ah, by go_num, ho2, hb1⟩
     simp [intOf]; omega
  have hL := lH (qc5 h1 h2 h3 h4)
  have h4a : ¬ (s[k].toNat : Int) < 32 := ah
  have h4b : ¬ 126 < (s[k].toNat : Int) := ah
  clear h1 h2 h3 h4
  have HS2 : Hid (iC q s (k + 1) = iC q s k ++ ([(s[k].toNat : Int)] : List Int)) := lH yP
  clear HS
  go_wp2_with (first | (at_builtin; refine kT rfl (.tmp 19) (.tmp 21) 22 rfl 5 _ 1 1 qb Tryz.underlying22 rfl aA aA w.heap.size v _ _ rfl hown #[.int .u8 s[k].toNat] 1 1 _ rfl rfl eZ ah hb.size ?_))
  exact BK
 obtain rfl : k = s.size := by omega
 go_wp2_with (first | (at_builtin; refine kT rfl (.tmp 63) (.tmp 65) 22 rfl 5 _ 1 1 qb Tryz.underlying22 rfl aA aA w.heap.size v _ _ rfl hown #[.int .u8 q] 1 1 _ rfl rfl eZ ah hb.size ?_))
 rintro v' w1 hown' hgrow -
 have hb1 := gN hb hb.size hown hgrow
 have hc := HCV.out w1 v' _ (iC q s s.size ++ [(q : Int)]) (by simpa using hown') ah
 clear hown' hgrow
 go_wp2_with fail
 go_ret
 exact ⟨rfl, hb1⟩
end
end Go.Proofs.YthbcamfejgghhaaGreatDoor
