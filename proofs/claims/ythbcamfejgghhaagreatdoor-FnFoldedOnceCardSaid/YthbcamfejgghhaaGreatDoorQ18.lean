/- Data of the call's own beside some boxes of the call (X) and a box that calls write (p). Plain lemmas, no program. What the oZ great functions keep to; ro -/
import Derived.Test.YthbcamfejgghhaaGreatDoorQ14
set_option maxRecDepth 100000
set_option maxHeartbeats 8000000
set_option linter.unusedVariables false
set_option linter.unusedSimpArgs false
namespace Go.Proofs.YthbcamfejgghhaaGreatDoor
open Go.IntKind (i64)
section
open Go Go.RowKit
def gJ (w : World) (B : Nat) (X : List Nat) (ds : List Dat) (vs : List Value) : Prop := ∃ F : List Nat, aO w ds F vs ∧ F.Nodup ∧ ∀ g ∈ F, B ≤ g ∧ g ∉ X
section
variable {α : Type} {f : α → List Dat} {K : Nat} {w w' w1 w2 : World} {B B' p lo hi : Nat} {X Y : List Nat} {e : TypeId} {l : List α} {c : α} {v v' : Value} {vs us : List Value} {ds es : List Dat}
theorem gJ.of (h : eu w lo hi ds vs) (hB : B ≤ lo) (hX : ∀ x ∈ X, x < lo) : gJ w B X ds vs := by
 obtain ⟨F, h1, h2, h3⟩ := h
 exact ⟨F, h1, h2, fun g hg => ⟨nT hB (h3 g hg).1, fun hm => by have := hX g hm; have := (h3 g hg).1; omega⟩⟩
theorem gJ.to (h : gJ w B X ds vs) (hB : B' ≤ B) (hw : w.heap.size ≤ hi) : eu w B' hi ds vs := by
 obtain ⟨F, h1, h2, h3⟩ := h
 exact ⟨F, h1, h2, fun g hg => ⟨nT hB (h3 g hg).1, nL (h1.lt g hg) hw⟩⟩
theorem gJ.kept (h : gJ w B X ds vs) (hk : ∀ g, B ≤ g → g ∉ X → g < w.heap.size → w'.heap[g]? = w.heap[g]?) : gJ w' B X ds vs := by
 obtain ⟨F, h1, h2, h3⟩ := h
 exact ⟨F, h1.kept fun g hg => hk g (h3 g hg).1 (h3 g hg).2 (h1.lt g hg), h2, h3⟩
theorem gJ.later (h : gJ w B X ds vs) (hb : Below w.heap.size w w') : gJ w' B X ds vs := h.kept fun g _ _ hg => hb.block g hg
theorem gJ.alloc (h : gJ w B X ds vs) (o : Obj) : gJ (w.alloc o) B X ds vs := h.kept fun g _ _ hg => Below.heap_alloc w o g hg
theorem gJ.drew (h : gJ w B X ds vs) : gJ w.drew B X ds vs := h.kept fun _ _ _ _ => rfl
theorem gJ.box (h : gJ w B X ds vs) (hg : w.grownBy w' (some p)) (hp : p < B) : gJ w' B X ds vs := h.kept fun g h1 _ h2 => hg.block g h2 aK
theorem gJ.set (h : gJ w B X ds vs) {q : Addr} (hq : q.block ∈ X ∨ q.block < B) (u : Value) : gJ (w.setCell q u) B X ds vs := h.kept fun g h1 h2 _ => Below.heap_setCell w q u g Cc
theorem gJ.more (h : gJ w B X ds vs) (hY : ∀ x ∈ Y, x ∈ X ∨ w.heap.size ≤ x ∨ x < B) : gJ w B Y ds vs := by
 obtain ⟨F, h1, h2, h3⟩ := h
 refine ⟨F, h1, h2, fun g hg => ⟨(h3 g hg).1, fun hm => ?_⟩⟩
 have := h1.lt g hg
 rcases hY g hm with hx | hx | hx
 ·exact (h3 g hg).2 hx
 ·omega
 have := (h3 g hg).1; omega
theorem gJ.eO : gJ w B X [] [] := ⟨[], .eO, List.nodup_nil, av⟩
theorem gJ.call (h : gJ w1 B X ds vs) (hg : w1.grownBy w2 (some p)) (hp : p < B) (h' : eu w2 w1.heap.size hi es us) (hB : B ≤ w1.heap.size) (hX : ∀ x ∈ X, x < w1.heap.size) : gJ w2 B X (ds ++ es) (vs ++ us) := by
 have hq := h.box hg hp
 obtain ⟨F0, a1, a2, a3⟩ := h
 obtain ⟨G, b1, b2, b3⟩ := h'
 have a1' : aO w2 ds F0 vs := a1.kept fun g hgF => hg.block g (a1.lt g hgF) (fun e => by injection e with e; have := (a3 g hgF).1; omega)
 refine ⟨F0 ++ G, a1'.app b1, List.nodup_append.2 ⟨a2, b2, fun a ha b hb e => ?_⟩, fun g hm => ?_⟩
 ·subst e; have := a1.lt a ha; have := (b3 a hb).1; omega
 rcases mA hm with hm | hm
 ·exact a3 g hm
 exact ⟨by have := (b3 g hm).1; omega, fun hx => by have := hX g hx; have := (b3 g hm).1; omega⟩
def dL (B : Nat) (X : List Nat) (e : TypeId) (K : Nat) (f : α → List Dat) (w : World) (l : List α) (v : Value) (vs : List Value) : Prop :=
 ∃ F : List Nat, w.ownsRow B e K v l.length vs ∧ aO w (flat f l) F vs ∧ F.Nodup ∧ (∀ g ∈ F, B ≤ g ∧ g ∉ X) ∧ (∀ g, v.ownBlock = some g → g ∉ F ∧ g ∉ X)
theorem dL.own (h : dL B X e K f w l v vs) : w.ownsRow B e K v l.length vs := by obtain ⟨F, h, -⟩ := h; exact h
theorem dL.away (h : dL B X e K f w l v vs) : ∀ g, v.ownBlock = some g → B ≤ g ∧ g ∉ X ∧ g < w.heap.size := by
 obtain ⟨F, h1, h2, h3, h4, h5⟩ := h
 exact fun g hg => ⟨(h1.lt g hg).1, (h5 g hg).2, (h1.lt g hg).2⟩
theorem dL.kept (h : dL B X e K f w l v vs) (hk : ∀ g, B ≤ g → g ∉ X → g < w.heap.size → w'.heap[g]? = w.heap[g]?) : dL B X e K f w' l v vs := by
 obtain ⟨F, h1, h2, h3, h4, h5⟩ := h
 exact ⟨F, dR h1 fun g hg => hk g (h1.lt g hg).1 (h5 g hg).2 (h1.lt g hg).2, h2.kept fun g hg => hk g (h4 g hg).1 (h4 g hg).2 (h2.lt g hg), h3, h4, h5⟩
theorem dL.later (h : dL B X e K f w l v vs) (hb : Below w.heap.size w w') : dL B X e K f w' l v vs := h.kept fun g _ _ hg => hb.block g hg
theorem dL.alloc (h : dL B X e K f w l v vs) (o : Obj) : dL B X e K f (w.alloc o) l v vs := h.kept fun g _ _ hg => Below.heap_alloc w o g hg
theorem dL.drew (h : dL B X e K f w l v vs) : dL B X e K f w.drew l v vs := h.kept fun _ _ _ _ => rfl
theorem dL.box (h : dL B X e K f w l v vs) (hg : w.grownBy w' (some p)) (hp : p < B) : dL B X e K f w' l v vs := h.kept fun g h1 _ h2 => hg.block g h2 aK
theorem dL.set (h : dL B X e K f w l v vs) {q : Addr} (hq : q.block ∈ X ∨ q.block < B) (u : Value) : dL B X e K f (w.setCell q u) l v vs := h.kept fun g h1 h2 _ => Below.heap_setCell w q u g Cc
theorem dL.more (h : dL B X e K f w l v vs) (hY : ∀ x ∈ Y, x ∈ X ∨ w.heap.size ≤ x ∨ x < B) : dL B Y e K f w l v vs := by
 obtain ⟨F, h1, h2, h3, h4, h5⟩ := h
 refine ⟨F, h1, h2, h3, fun g hg => ⟨(h4 g hg).1, fun hm => ?_⟩, fun g hg => ⟨(h5 g hg).1, fun hm => ?_⟩⟩
 ·have := h2.lt g hg
  rcases hY g hm with hx | hx | hx
  ·exact (h4 g hg).2 hx
  ·omega
  have := (h4 g hg).1; omega
 have := h1.lt g hg
 rcases hY g hm with hx | hx | hx
 ·exact (h5 g hg).2 hx
 ·omega
 omega
theorem dL.lit (h : gJ w B X (flat f l) vs) (hv : vs.length = l.length * K) (hB : B ≤ w.heap.size) (hX : ∀ x ∈ X, x < w.heap.size) (hl : l.length ≤ maxLen) : dL B X e K f (w.alloc (.cells vs.toArray e)) l (.slice (some (aj w.heap.size 0)) l.length l.length) vs := by
 obtain ⟨F, h1, h2, h3⟩ := h
 refine ⟨F, ⟨hv, .inr ⟨w.heap.size, l.length, vs.toArray, rfl, hB, heap_alloc_new w _, nR _, hl, by simp [hv], by simp [← hv]⟩⟩, h1.kept fun g hg => Below.heap_alloc w _ g (h1.lt g hg), h2, h3, fun g hg => ?_⟩
 have hg : some w.heap.size = some g := hg
 injection hg with hg
 subst hg
 exact ⟨fun hm => Nat.lt_irrefl _ (h1.lt _ hm), fun hm => Nat.lt_irrefl _ (hX _ hm)⟩
theorem dL.none_ : dL B X e K f w ([] : List α) (.slice none 0 0) [] := ⟨[], World.ownsRow_nil w B e K, by simp only [fC]; exact .eO, List.nodup_nil, av, fun g hg => by cases hg⟩
theorem dL.push (h : dL B X e K f w l v vs) (hb : w.grownBy w1 (some p)) (hp : p < B) (hB : B ≤ w.heap.size) (hX : ∀ x ∈ X, x < w.heap.size) (hc : eu w1 w.heap.size hi (f c) us)
 (ho : w2.ownsRow B e K v' (l.length + 1) (vs ++ us)) (hgr : w1.grownBy w2 v.ownBlock) (hat : v'.ownBlock = v.ownBlock ∨ v'.ownBlock = some (w1.heap.size + 1)) : dL B X e K f w2 (l ++ [c]) v' (vs ++ us) := by
 obtain ⟨F, h1, h2, h3, h4, h5⟩ := h
 obtain ⟨G, hc, hG, hg⟩ := hc
 have hF := h2.lt
 have hG1 := hc.lt
 have hv : ∀ g, v.ownBlock = some g → g < w.heap.size := fun g hg => (h1.lt g hg).2
 have hw1 : ∀ g, B ≤ g → g < w.heap.size → w1.heap[g]? = w.heap[g]? := fun g a b => hb.block g b aK
 have h2' : aO w2 (flat f l) F vs := h2.kept fun g hgF => (hgr.block g (nL (hF g hgF) hb.size) (fun e => (h5 g e.symm).1 hgF)).trans (hw1 g (h4 g hgF).1 (hF g hgF))
 have hc' : aO w2 (f c) G us := hc.kept fun g hgG => hgr.block g (hG1 g hgG) (fun e => by have := hv g e.symm; have := (hg g hgG).1; omega)
 refine ⟨F ++ G, by rw [List.length_append]; exact ho, by rw [jH, cK, fC, List.append_nil]; exact h2'.app hc', List.nodup_append.2 ⟨h3, hG, fun a ha b hb' e => ?_⟩, fun g hm => ?_, fun g hvg => ?_⟩
 ·subst e; have := hF a ha; have := (hg a hb').1; omega
 ·rcases mA hm with hm | hm
  ·exact h4 g hm
  exact ⟨by have := (hg g hm).1; omega, fun hx => by have := hX g hx; have := (hg g hm).1; omega⟩
 rcases hat with e | e
 ·have h5' := h5 g vQ
  refine ⟨fun hm => ?_, h5'.2⟩
  rcases mA hm with hm | hm
  ·exact h5'.1 hm
  have := hv g vQ; have := (hg g hm).1; omega
 rw [e] at hvg; injection hvg with hvg
 have hws := hb.size
 refine ⟨fun hm => ?_, fun hm => by have := hX g hm; omega⟩
 rcases mA hm with hm | hm
 ·have := hF g hm; omega
 have := hG1 g hm; omega
theorem dL.row (h : dL B X e K f w l v vs) : gJ w B X [.row K l.length (flat f l)] [v] := by
 obtain ⟨F, h1, h2, h3, h4, h5⟩ := h
 refine ⟨(v.ownBlock.toList ++ F) ++ [], .aN (dK.iV h1 h2) .eO, ?_, fun g hg => ?_⟩
 ·rw [List.append_nil]
  refine List.nodup_append.2 ⟨?_, h3, fun a ha b hb e => ?_⟩
  ·cases v.ownBlock <;> simp
  subst e; exact (h5 a (by simpa using ha)).1 hb
 rw [List.append_nil] at hg
 rcases mA hg with hg | hg
 ·have hg : v.ownBlock = some g := by simpa using hg
  exact ⟨(h1.lt g hg).1, (h5 g hg).2⟩
 exact h4 g hg
end
def gq (w : World) (B : Nat) (X : List Nat) (c : aH) (A : Option Addr) (n : Nat) : Prop := gJ w B X c.aG (c.cells A n)
section
variable {w : World} {B : Nat} {X : List Nat} {l : List aH} {A : Option Addr} {n : Nat}
theorem gq.node (h : gJ w B X [.row 5 l.length (flat aH.aG l)] [.slice A l.length n]) (k : Int) (t : ByteArray) (m line : Int) : gq w B X (.mk k t m line l) A n := by
 obtain ⟨F, h1, h2, h3⟩ := h
 refine ⟨F, ?_, h2, h3⟩
 rw [aH.mX]
 exact aO.aN (F1 := []) .mkInt (aO.aN (F1 := []) .mkStr (aO.aN (F1 := []) .mkInt (aO.aN (F1 := []) .mkInt h1)))
theorem gq.leaf (k : Int) (t : ByteArray) (m line : Int) : gq w B X (.mk k t m line []) none 0 := gq.node (l := []) (A := none) (n := 0) ⟨[] ++ [], .aN dK.rH .eO, List.nodup_nil, av⟩ k t m line
theorem gq.one {c : aH} (h : gq w B X c A n) : gJ w B X (flat aH.aG [c]) (c.cells A n) := by rw [cK, fC, List.append_nil]; exact h
end
end
section
open Go Go.RowKit
theorem mJ : (Tryz.prog.info? 179).map (fun i => (i.zero, i.size, i.bytes)) = some (some (.agg (ay 0 aC 0 0 none 0 0)), 5, 64) := aI
def KY (p : Nat) (ts : List eX) (a : Nat) (bad : Int) (D : Prop) (w : World) (e : Ending) (w' : World) : Prop :=
 ∃ c A n a' mR, e = .returned (.agg (aH.cells c A n).toArray) ∧ Mv p ts w a bad true w' a' mR ∧ (mR = 0 → D) ∧ c.Ok ∧ zV w' w.heap.size w'.heap.size c A n
def RE (p : Nat) (ts : List eX) (a : Nat) (bad : Int) (w : World) (e : Ending) (w' : World) : Prop :=
 ∃ l A n a' mR, e = .returned (.slice A (List.length l) n) ∧ Mv p ts w a bad true w' a' mR ∧ (List.length l ≤ a' - a + 1) ∧ (∀ x ∈ l, aH.Ok x) ∧ gD w' w.heap.size w'.heap.size 5 aH.aG (.slice A (List.length l) n) l
def lY (deep : Int) : Prop := ∀ {p : Nat} {ts : List eX} {a : Nat} {bad : Int} {w : World} (level : Int), Ps p ts w a bad → wM ts → 0 ≤ level → level ≤ 20 →
 Calls Tryz.prog 161 #[.pointer (some (aj p 0)), level, deep] w (KY p ts a bad (deep ≤ 200) w)
def vP (deep : Int) : Prop := ∀ {p : Nat} {ts : List eX} {a : Nat} {bad : Int} {w : World} (s : ByteArray), Ps p ts w a bad → wM ts →
 Calls Tryz.prog 224 #[.pointer (some (aj p 0)), s, deep] w (RE p ts a bad w)
def IY (deep : Int) : Prop := ∀ {p : Nat} {ts : List eX} {a : Nat} {bad : Int} {w : World} (s : ByteArray), Ps p ts w a bad → wM ts →
 Calls Tryz.prog 120 #[.pointer (some (aj p 0)), s, deep] w (RE p ts a bad w)
theorem Grow.KZ {w : World} {e : TypeId} : Grow w.heap.size e 5 aH.aG (w.alloc (.cells #[] e)) [] (.slice (some (aj w.heap.size 0)) 0 0) [] :=
 Grow.start (World.ownsRow_made w #[] 0 (nR _) (nZ _) rfl)
theorem Rf (deep : Int) (HL : lY deep) : vP deep := by
 intro p ts a bad w s h hT
 have H := lH h
 have HT := lH hT
 have lp := h.lt
 have hl := hT.len
 clear h hT
 have hb0 : Below w.heap.size w (w.alloc (.cells #[] 179)) := bA _ _
 have P0 := lH (Grow.KZ (w := w) (e := 179))
 have M0 := lH ((Mv.start H.out).below hb0)
 clear hb0
 go_in
 go_wp2_with fail
 refine (dP s M0.out.ps HT.out).mono ?_
 rintro e w1 ⟨b, a1, rfl, hmv, hb, ha1, hle⟩
 have M1 := lH (M0.out.step hmv)
 have P1 := lH (P0.out.box hmv.gr lp)
 have HA1 := lH ha1
 have HLE := lH hle
 clear hmv hb P0 ha1 hle
 cases b with
 | true =>
   go_wp2_with fail
   go_ret
   exact ⟨[], _, _, _, _, rfl, M1.out, av, av, P1.out.made⟩
 | false =>
   go_wp2_with fail
   go_loopg [7] (ts.length - a1) (fun gk v wx => ∃ (l : List aH) (vs : List Value) (A : Option Addr) (n a2 : Nat) (j5 : Int), v = .slice A l.length n ∧ Hid (Grow w.heap.size 179 5 aH.aG wx l (.slice A l.length n) vs) ∧ Hid (Mv p ts w a bad false wx a2 j5) ∧ Hid (∀ x ∈ l, aH.Ok x) ∧ l.length + a ≤ a2 ∧ gk = ts.length - a2)
   case atStart => exact ⟨[], _, _, _, _, _, rfl, P1, lH M1.out.weak, lH av, by have := M1.out.le; simpa using this, rfl⟩
   obtain ⟨l, vs, A, n, a2, j5, rfl, hP, hM, hO, hln, rfl⟩ := hrel
   clear P1 M1 HA1 HLE
   have p2 := hM.out.ps.j5
   have ha2 := hM.out.top
   by_cases hz : j5 = 0
   ·subst hz
    go_wp2_with fail
    refine (HL 1 hM.out.ps HT.out ah ah).mono ?_
    rintro e w2 ⟨c, Ac, nc, a3, mI, rfl, hmv, -, hok, hin⟩
    have hP2 := hP.out.box hmv.gr lp
    have jD := hP2.own
    have hM2 := lH (hM.out.step hmv)
    have hsz := hM.out.size
    have hsz2 := hmv.size
    have hG := lH hmv.gr
    have hle := hmv.le
    have hIN := lH hin
    have hOK := lH hok
    have hon := hM2.out.on
    have ht3 := hM2.out.top
    clear hmv hin hok p2 hP2
    have hON := lH hon
    clear hon
    unfold aH.cells
    go_wp2_with (first | (at_builtin; refine dO rfl _ _ 177 aM 179 _ 5 64 mJ Tryz.underlying177 aM aA aA w.heap.size _ _ _ aM jD _ 1 _ aM aM eZ ah ah ?_) | fail)
    rintro v' w3 mP hgr hat
    obtain ⟨A', n', rfl, -⟩ := (Rds.dU mP).shape
    have hlv : ∀ g, (Value.slice A l.length n).ownBlock = some g → w.heap.size ≤ g := fun g hg => (jD.lt g hg).1
    have HP3 := lH (hP.out.pushP hG.out lp hsz hIN.out mP hgr hat)
    have hM3 := lH (hM2.out.own lp hgr hlv)
    have hO3 : Hid (∀ x ∈ l ++ [c], aH.Ok x) := fun x hx => by
     rcases mA hx with hx | hx
     ·exact hO.out x hx
     rw [mS hx]; exact hOK.out
    clear mP hgr hat jD hIN hG hlv
    go_wp2_with fail
    refine (dP _ hM3.out.ps HT.out).mono ?_
    rintro e w4 ⟨b, a4, rfl, hmv, hb, ha4, TC⟩
    have hM4 := lH (hM3.out.step hmv)
    have HP4 := lH (HP3.out.box hmv.gr lp)
    have HA4 := lH ha4
    have HB4 := lH hb
    have Vv := lH hmv.on
    have Zd := hmv.le
    clear hmv ha4 TC hb HP3
    cases b with
    | true =>
      go_wp2_with fail
      have h0 : mI = 0 := HB4.out trivial
      have h4 := Vv.out trivial h0
      have ht4 := hM4.out.top
      go_roundg (ts.length - a4)
      case measure => omega
      exact ⟨l ++ [c], _, A', n', a4, _, av, by simpa using HP4, lH hM4.out.weak, hO3, aJ, rfl⟩
    | false =>
      go_wp2_with fail
      refine (iP _ hM4.out.ps HT.out).mono ?_
      rintro e w5 ⟨a5, uk, rfl, hmv, Xp⟩
      have hM5 := lH (hM4.out.step hmv)
      have HP5 := lH (HP4.out.box hmv.gr lp)
      have Ze := hmv.le
      have HE : Hid (a4 = a3) := HA4.out trivial
      clear hmv HP4
      go_wp2_with fail
      go_ret
      exact ⟨l ++ [c], A', n', _, _, av, by simpa using hM5.out, aJ, hO3.out, by have := HP5.out.made; simpa using this⟩
   have c0 : (j5 == 0) = false := by simp [hz]
   have HZ := lH hz
   clear hz
   go_wp2_with fail
   refine (iP _ hM.out.ps HT.out).mono ?_
   rintro e w5 ⟨a5, uk, rfl, hmv, Xp⟩
   have hM5 := lH (hM.out.step hmv)
   have HP5 := lH (hP.out.box hmv.gr lp)
   have Ze := hmv.le
   clear hmv hP
   go_wp2_with fail
   go_ret
   exact ⟨l, _, _, _, _, rfl, by simpa using hM5.out, ah, hO.out, by have := HP5.out.made; simpa using this⟩
theorem Vj (deep : Int) (HL : lY deep) : IY deep := by
 intro p ts a bad w s h hT
 have H := lH h
 have HT := lH hT
 have lp := h.lt
 have hl := hT.len
 have ha0 := h.le
 clear h hT
 have hb0 : Below w.heap.size w (w.alloc (.cells #[] 179)) := bA _ _
 have P0 := lH (Grow.KZ (w := w) (e := 179))
 have M0 := lH ((Mv.start H.out).below hb0)
 clear hb0
 go_in
 go_wp2_with fail
 go_loopg [7] (2 * (ts.length - a) + 1) (fun gk v wx => ∃ (l : List aH) (vs : List Value) (A : Option Addr) (n a2 : Nat) (j5 : Int) (b : Nat), v = .slice A l.length n ∧ Hid (Grow w.heap.size 179 5 aH.aG wx l (.slice A l.length n) vs) ∧ Hid (Mv p ts w a bad false wx a2 j5) ∧ Hid (∀ x ∈ l, aH.Ok x) ∧ Hid (j5 = 0 → l.length + a ≤ a2 ∧ b = 1) ∧ Hid (l.length ≤ a2 - a + 1) ∧ Hid (gk = 2 * (ts.length - a2) + b))
 case atStart => exact ⟨[], _, _, _, _, _, 1, rfl, P0, M0, lH av, lH (fun _ => by simp), lH av, lH rfl⟩
 obtain ⟨l, vs, A, n, a2, j5, bb, rfl, hP, hM, hO, hln, hl2, hgk⟩ := hrel
 clear P0 M0
 have p2 := hM.out.ps.j5
 have ha2 := hM.out.top
 by_cases hz : j5 = 0
 ·subst hz
  obtain ⟨hln, rfl⟩ := hln.out rfl
  have hgk := hgk.out
  subst hgk
  go_wp2_with fail
  clear p2
  go_loopg [] (ts.length - a2) (fun gk wx => ∃ (a3 : Nat), Hid (Grow w.heap.size 179 5 aH.aG wx l (.slice A l.length n) vs) ∧ Hid (Mv p ts w a bad false wx a3 0) ∧ a2 ≤ a3 ∧ gk = ts.length - a3)
  case atStart => exact ⟨a2, hP, hM, nR _, rfl⟩
  clear hP hM
  obtain ⟨a3, hP, hM, ae7, rfl⟩ := hrel
  have ha3 := hM.out.top
  go_wp2_with fail
  refine (dP _ hM.out.ps HT.out).mono ?_
  rintro e w4 ⟨b, a4, rfl, hmv, hb, ha4, TC⟩
  have hM4 := lH (hM.out.step hmv)
  have HP4 := lH (hP.out.box hmv.gr lp)
  have HA4 := lH ha4
  have Vv := lH hmv.on
  have Zd := hmv.le
  have ht4 := hmv.top
  clear hmv ha4 TC hb hP hM
  cases b with
  | true =>
    go_wp2_with fail
    have h4 := Vv.out trivial trivial
    go_roundg (ts.length - a4)
    case measure => omega
    exact ⟨a4, HP4, lH hM4.out.weak, ah, rfl⟩
  | false =>
    go_wp2_with fail
    refine (dP s hM4.out.ps HT.out).mono ?_
    rintro e w5 ⟨b, a5, rfl, hmv, hb, ha5, Xq⟩
    have hM5 := lH (hM4.out.step hmv)
    have HP5 := lH (HP4.out.box hmv.gr lp)
    have HA5 := lH ha5
    have Xp := hmv.le
    have ht5 := hmv.top
    clear hmv ha5 Xq hb HP4
    cases b with
    | true =>
      go_wp2_with fail
      go_ret
      exact ⟨l, A, n, _, _, rfl, by simpa using hM5.out, ah, hO.out, HP5.out.made⟩
    | false =>
      go_wp2_with fail
      refine (HL 1 hM5.out.ps HT.out ah ah).mono ?_
      rintro e w2 ⟨c, Ac, nc, a6, mI, rfl, hmv, -, hok, hin⟩
      have hP2 := HP5.out.box hmv.gr lp
      have jD := hP2.own
      have hM2 := lH (hM5.out.step hmv)
      have hsz := hM5.out.size
      have hsz2 := hmv.size
      have hG := lH hmv.gr
      have hle := hmv.le
      have hIN := lH hin
      have hOK := lH hok
      have HON := lH hmv.on
      have ht6 := hM2.out.top
      clear hmv hin hok hP2
      unfold aH.cells
      go_wp2_with (first | (at_builtin; refine dO rfl _ _ 177 aM 179 _ 5 64 mJ Tryz.underlying177 aM aA aA w.heap.size _ _ _ aM jD _ 1 _ aM aM eZ ah ah ?_) | fail)
      rintro v' w3 mP hgr hat
      obtain ⟨A', n', rfl, -⟩ := (Rds.dU mP).shape
      have hlv : ∀ g, (Value.slice A l.length n).ownBlock = some g → w.heap.size ≤ g := fun g hg => (jD.lt g hg).1
      have HP3 := lH (HP5.out.pushP hG.out lp hsz hIN.out mP hgr hat)
      have hM3 := lH (hM2.out.own lp hgr hlv)
      have hO3 : Hid (∀ x ∈ l ++ [c], aH.Ok x) := fun x hx => by
       rcases mA hx with hx | hx
       ·exact hO.out x hx
       rw [mS hx]; exact hOK.out
      have Zf : Hid (∀ wx, Mv p ts w a bad false wx a6 mI → wx.grownBy wx (some p) → True) := fun _ _ _ => trivial
      clear mP hgr hat jD hIN hG hlv Zf
      go_wp2_with fail
      refine (mK _ hM3.out.ps HT.out).mono ?_
      rintro e w7 ⟨b, rfl, hb7, -⟩
      have hM7 := lH (hM3.out.below hb7)
      have HP7 := lH (HP3.out.later hb7)
      clear hb7 HP3
      cases b with
      | true =>
        go_wp2_with fail
        by_cases h0 : mI = 0
        ·have h6 := HON.out trivial h0
         go_roundg (2 * (ts.length - a6) + 1)
         case measure => omega
         exact ⟨l ++ [c], _, A', n', a6, mI, 1, av, by simpa using HP7, lH hM7.out.weak, hO3, lH (fun _ => ⟨aJ, rfl⟩), lH aJ, lH rfl⟩
        go_roundg (2 * (ts.length - a6) + 0)
        case measure => omega
        exact ⟨l ++ [c], _, A', n', a6, mI, 0, av, by simpa using HP7, lH hM7.out.weak, hO3, lH (fun e => absurd e h0), lH aJ, lH rfl⟩
      | false =>
        go_wp2_with fail
        refine (mK _ hM7.out.ps HT.out).mono ?_
        rintro e w8 ⟨b, rfl, hb7, -⟩
        have hM8 := lH (hM7.out.below hb7)
        have HP8 := lH (HP7.out.later hb7)
        clear hb7 HP7
        cases b with
        | true =>
          go_wp2_with fail
          by_cases h0 : mI = 0
          ·have h6 := HON.out trivial h0
           go_roundg (2 * (ts.length - a6) + 1)
           case measure => omega
           exact ⟨l ++ [c], _, A', n', a6, mI, 1, av, by simpa using HP8, lH hM8.out.weak, hO3, lH (fun _ => ⟨aJ, rfl⟩), lH aJ, lH rfl⟩
          go_roundg (2 * (ts.length - a6) + 0)
          case measure => omega
          exact ⟨l ++ [c], _, A', n', a6, mI, 0, av, by simpa using HP8, lH hM8.out.weak, hO3, lH (fun e => absurd e h0), lH aJ, lH rfl⟩
        | false =>
          go_wp2_with fail
          refine (jJ hM8.out.ps HT.out).mono ?_
          rintro e w9 ⟨Xr, rfl, hmv, h0⟩
          have hM9 := lH (hM8.out.step hmv)
          have HP9 := lH (HP8.out.box hmv.gr lp)
          have H0 := lH h0
          clear hmv h0 HP8
          go_wp2_with fail
          go_roundg (2 * (ts.length - a6) + 0)
          case measure => omega
          exact ⟨l ++ [c], _, A', n', a6, Xr, 0, av, by simpa using HP9, lH hM9.out.weak, hO3, lH (fun e => absurd e H0.out), lH aJ, lH rfl⟩
 have c0 : (j5 == 0) = false := by simp [hz]
 have HZ := lH hz
 clear hz
 go_wp2_with fail
 go_ret
 exact ⟨l, _, _, _, _, rfl, hM.out.fail HZ.out true, hl2.out, hO.out, hP.out.made⟩
end
section
open Go Go.RowKit
def tK (deep : Int) : Prop := ∀ {p : Nat} {ts : List eX} {a : Nat} {bad : Int} {w : World}, Ps p ts w a bad → wM ts →
 Calls Tryz.prog 207 (jW (some (aj p 0)) deep) w (KY p ts a bad (deep ≤ 200) w)
def GY (deep : Int) : Prop := ∀ {p : Nat} {ts : List eX} {a : Nat} {w : World}, Ps p ts w a 0 → wM ts →
 Calls Tryz.prog 223 (jW (some (aj p 0)) deep) w (KY p ts a 0 True w)
theorem y8 {ts : List eX} (hT : wM ts) (a : Nat) : (gY ts a).text.size ≤ 100000 ∧ 0 ≤ (gY ts a).line ∧ (gY ts a).line ≤ 100000 := by
 have h := xL hT.ok a
 refine ⟨?_, ah, h.2⟩
 unfold gY
 split
 ·rename_i ha
  rw [List.getD_eq_getElem?_getD, gE ha]
  exact (hT.ok _ (List.getElem_mem ha)).2.2
 show (0 : Nat) ≤ _; omega
theorem xM {ts : List eX} {a : Nat} (h : ¬ (gY ts a).kind = 0) : a < ts.length := by
 by_cases ha : a < ts.length
 ·exact ha
 exact absurd (by unfold gY; rw [if_neg ha]) h
abbrev gU (w : World) (g : Nat) (v0 v1 v2 v3 v4 : Value) : World := ((((w.setCell (aj g 0) v0).setCell (aj g 1) v1).setCell (aj g 2) v2).setCell (aj g 3) v3).setCell (aj g 4) v4
section
variable {p : Nat} {ts : List eX} {w w1 : World} {a a1 g B : Nat} {bad gZ : Int} {s : Bool} {X : List Nat} {ds : List Dat} {vs : List Value} {v0 v1 v2 v3 v4 : Value}
theorem Mv.gU (h : Mv p ts w a bad s w1 a1 gZ) (hp : p < w.heap.size) (hg : w.heap.size ≤ g) : Mv p ts w a bad s (gU w1 g v0 v1 v2 v3 v4) a1 gZ :=
 ((((h.far hp (q := ⟨g, 0, none⟩) hg v0).far hp (q := ⟨g, 1, none⟩) hg v1).far hp (q := ⟨g, 2, none⟩) hg v2).far hp (q := ⟨g, 3, none⟩) hg v3).far hp (q := ⟨g, 4, none⟩) hg v4
theorem gJ.gU (h : gJ w B X ds vs) (hg : g ∈ X ∨ g < B) : gJ (gU w g v0 v1 v2 v3 v4) B X ds vs :=
 ((((h.set (q := ⟨g, 0, none⟩) hg v0).set (q := ⟨g, 1, none⟩) hg v1).set (q := ⟨g, 2, none⟩) hg v2).set (q := ⟨g, 3, none⟩) hg v3).set (q := ⟨g, 4, none⟩) hg v4
theorem Blk.gU {t : TypeId} {u0 u1 u2 u3 u4 : Value} (h : Blk w g t #[u0, u1, u2, u3, u4]) : Blk (gU w g v0 v1 v2 v3 v4) g t #[v0, v1, v2, v3, v4] :=
 ((((h.aF 0 v0).aF 1 v1).aF 2 v2).aF 3 v3).aF 4 v4
theorem Blk.zM {g' : Nat} {t : TypeId} {cs : Array Value} (h : Blk w g' t cs) (hg : g' ≠ g) : Blk (Go.Proofs.YthbcamfejgghhaaGreatDoor.gU w g v0 v1 v2 v3 v4) g' t cs :=
 ((((h.far (p := ⟨g, 0, none⟩) hg v0).far (p := ⟨g, 1, none⟩) hg v1).far (p := ⟨g, 2, none⟩) hg v2).far (p := ⟨g, 3, none⟩) hg v3).far (p := ⟨g, 4, none⟩) hg v4
end
theorem dL.gU {α : Type} {f : α → List Dat} {K B g : Nat} {X : List Nat} {e : TypeId} {w : World} {l : List α} {v : Value} {vs : List Value} {v0 v1 v2 v3 v4 : Value} (h : dL B X e K f w l v vs) (hg : g ∈ X ∨ g < B) : dL B X e K f (Go.Proofs.YthbcamfejgghhaaGreatDoor.gU w g v0 v1 v2 v3 v4) l v vs :=
 ((((h.set (q := ⟨g, 0, none⟩) hg v0).set (q := ⟨g, 1, none⟩) hg v1).set (q := ⟨g, 2, none⟩) hg v2).set (q := ⟨g, 3, none⟩) hg v3).set (q := ⟨g, 4, none⟩) hg v4
theorem nY (k : Int) (t : ByteArray) (m line : Int) (l : List aH) (h1 : t.size ≤ 100000) (h2 : 0 ≤ line ∧ line ≤ 100000) (h3 : -999999999999 ≤ m ∧ m ≤ 999999999999) (h4 : k = 20 → 0 < l.length ∧ (m = 1 → 1 < l.length)) (h5 : l.length ≤ 100000) (h6 : 0 ≤ k ∧ k ≤ 100) (h : ∀ x ∈ l, aH.Ok x) : (aH.mk k t m line l).Ok := .mk h1 h2 h3 h4 h5 h6 h
theorem ok1 {c : aH} (h : c.Ok) : ∀ x ∈ [c], aH.Ok x := fun x hx => by rw [mS hx]; exact h
theorem ok2 {c d : aH} (h : c.Ok) (h' : d.Ok) : ∀ x ∈ [c, d], aH.Ok x := fun x hx => by
 rcases mC hx with rfl | hx
 ·exact h
 exact ok1 h' x hx
theorem ok3 {c d e : aH} (h : c.Ok) (h' : d.Ok) (h'' : e.Ok) : ∀ x ∈ [c, d, e], aH.Ok x := fun x hx => by
 rcases mC hx with rfl | hx
 ·exact h
 exact ok2 h' h'' x hx
theorem Pf : (aH.mk 0 aC 0 0 []).Ok := nY _ _ _ _ _ (nZ _) aA aA l8 av aA av
theorem gq.row {w : World} {B : Nat} {X : List Nat} {l : List aH} {vs : List Value} {e : TypeId} (h : gJ w B X (flat aH.aG l) vs) (hv : vs.length = l.length * 5) (hB : B ≤ w.heap.size) (hX : ∀ x ∈ X, x < w.heap.size) (hl : l.length ≤ 1000) (k : Int) (t : ByteArray) (m line : Int) :
 gq (w.alloc (.cells vs.toArray e)) B X (.mk k t m line l) (some (aj w.heap.size 0)) l.length :=
 gq.node (dL.lit h hv hB hX jG).row k t m line
theorem gJ.two {w : World} {B : Nat} {X : List Nat} {c d : aH} {A A' : Option Addr} {n n' : Nat} (h : gJ w B X (c.aG ++ d.aG) (c.cells A n ++ d.cells A' n')) : gJ w B X (flat aH.aG [c, d]) (c.cells A n ++ d.cells A' n') := by
 rw [cK, cK, fC, List.append_nil]; exact h
theorem gJ.three {w : World} {B : Nat} {X : List Nat} {c d b : aH} {A A' A'' : Option Addr} {n n' n'' : Nat} (h : gJ w B X ((c.aG ++ d.aG) ++ b.aG) ((c.cells A n ++ d.cells A' n') ++ b.cells A'' n'')) : gJ w B X (flat aH.aG [c, d, b]) ((c.cells A n ++ d.cells A' n') ++ b.cells A'' n'') := by
 rw [cK, cK, cK, fC, List.append_nil, ← List.append_assoc]; exact h
theorem dL.joined {α : Type} {f : α → List Dat} {K : Nat} {w w2 : World} {B : Nat} {X Y : List Nat} {e : TypeId} {l : List α} {v v' : Value} {vs : List Value} (hF : gJ w B Y (flat f l) vs) (hXY : ∀ x ∈ X, x ∈ Y) (hX : ∀ x ∈ X, x < w.heap.size)
 (hv : ∀ g, v.ownBlock = some g → g ∈ Y ∧ g ∉ X) (ho : w2.ownsRow B e K v' l.length vs) (hgr : w.grownBy w2 v.ownBlock) (hat : v'.ownBlock = v.ownBlock ∨ ∃ k, v'.ownBlock = some k ∧ w.heap.size ≤ k) : dL B X e K f w2 l v' vs := by
 obtain ⟨F, h1, h2, h3⟩ := hF
 refine ⟨F, ho, h1.kept fun g hg => hgr.block g (h1.lt g hg) (fun e => (h3 g hg).2 (hv g e.symm).1), h2, fun g hg => ⟨(h3 g hg).1, fun hx => (h3 g hg).2 (hXY g hx)⟩, fun g hg => ?_⟩
 rcases hat with e | ⟨k, e, hk⟩
 ·have := hv g (by rw [← e]; exact hg)
  exact ⟨fun hm => (h3 g hm).2 this.1, this.2⟩
 rw [e] at hg; injection hg with hg; subst hg
 exact ⟨fun hm => by have := h1.lt _ hm; omega, fun hm => by have := hX _ hm; omega⟩
end
section
open Go.RowKit
mutual
def ak.nodes : ak → Nat
 | .mk _ _ _ _ _ kids => 1 + fq kids
def fq : List ak → Nat
 | [] => 0
 | c :: cs => c.nodes + fq cs
end
theorem ak.eG (c : ak) : c.nodes = 1 + fq c.kids := by cases c; simp only [ak.nodes, ak.kids]
theorem Dl (a b : List ak) : fq (a ++ b) = fq a + fq b := by
 induction a with
 | nil => simp [fq]
 | cons c l ih => simp [fq, ih]; omega
theorem o7 {l : List ak} {j : Nat} {c : ak} (h : l[j]? = some c) : fq (l.take (j + 1)) = fq (l.take j) + c.nodes := by
 rw [gB h, Dl]; simp [fq]
theorem nI (l : List ak) (j : Nat) : fq (l.take j) ≤ fq l := by
 have := Dl (l.take j) (l.drop j)
 rw [List.take_append_drop] at this
 omega
theorem Qd (l : List ak) (h : ∀ c ∈ l, c.nodes ≤ c.bI + 1) : fq l ≤ l.length + eT l := by
 induction l with
 | nil => simp [fq]
 | cons c l ih =>
   have h1 := h c (List.mem_cons_self)
   have h2 := ih fun x hx => h x (List.mem_cons_of_mem _ hx)
   simp only [fq, eT, List.length_cons]
   omega
theorem y9 (c : ak) : c.nodes ≤ c.bI + 1 := ak.ind (P := fun c => c.nodes ≤ c.bI + 1) (fun c h => by
 have := Qd c.kids h
 rw [c.eG, c.kX]; omega) c
mutual
def ak.depth : ak → Nat
 | .mk _ _ _ _ _ kids => gI kids + 1
def gI : List ak → Nat
 | [] => 0
 | c :: cs => max c.depth (gI cs)
end
theorem ak.uO (c : ak) : c.depth = gI c.kids + 1 := by cases c; simp only [ak.depth, ak.kids]
theorem MU (a b : List ak) : gI (a ++ b) = max (gI a) (gI b) := by
 induction a with
 | nil => simp [gI]
 | cons c l ih => simp only [gI, List.cons_append, ih]; omega
theorem K4 {l : List ak} {j : Nat} {c : ak} (h : l[j]? = some c) : gI (l.take (j + 1)) = max (gI (l.take j)) c.depth := by
 rw [gB h, MU]; simp [gI]
theorem FL (l : List ak) (h : ∀ c ∈ l, c.depth ≤ c.nodes) : gI l ≤ fq l := by
 induction l with
 | nil => simp [gI]
 | cons c l ih =>
   have h1 := h c (List.mem_cons_self)
   have h2 := ih fun x hx => h x (List.mem_cons_of_mem _ hx)
   simp only [fq, gI]
   omega
theorem RF (c : ak) : c.depth ≤ c.nodes := ak.ind (P := fun c => c.depth ≤ c.nodes) (fun c h => by
 have := FL c.kids h
 rw [c.eG, c.uO]; omega) c
theorem Qe (l : List ak) : gI l ≤ fq l := FL l fun c _ => RF c
def p8 (F : Nat) (m : ak → Nat) (c : ak) : Prop := ∀ (x : Value) (w : World) (lo hi : Nat), gX w lo hi x c → hi ≤ w.heap.size → c.bI ≤ 34359738368 →
 Calls Tryz.prog F #[x] w fun e w' => e = .returned (.int i64 (m c)) ∧ Below w.heap.size w w'
theorem za (c : ak) (H : ∀ x ∈ c.kids, p8 15 ak.nodes x) : p8 15 ak.nodes c := by
 intro x w lo hi h hhi hbk
 obtain ⟨A, cap, rfl, hk, hc1, hc2⟩ := h.form
 unfold maxLen at hc2
 have HH := lH H
 have HN := lH c.eG
 have hnb := y9 c
 rw [c.eG] at hnb
 have hbb : eT c.kids ≤ 34359738368 := by rw [c.kX] at hbk; omega
 clear H h
 go_in
 go_wp2_with fail
 go_loopw [3, 9] (fun n i wr => ∃ k : Nat, k ≤ c.kids.length ∧ i = .int i64 k ∧ n = .int i64 ((1 + fq (c.kids.take k) : Nat) : Int) ∧ Below w.heap.size w wr) (fun _ i _ => c.kids.length - (intOf i).toNat)
 case atStart => exact ⟨0, nZ _, rfl, by simp [fq], bA _ _⟩
 obtain ⟨k, hk', rfl, rfl, hb⟩ := hrel
 obtain ⟨wo, rfl⟩ := nW wr
 have hz := hb.size
 by_cases hlt : k < c.kids.length
 ·obtain ⟨g, off, kd, B, d, rfl, hg1, hg2, hkd, hmem, hrep, c0, c1, c2, c3, c4, c5⟩ := (hk.below hb hhi).kid hlt
  have hs := HH.out kd hmem
  have hbm := qo hmem
  have HS := lH (o7 hkd)
  have hle := nI c.kids (k + 1)
  rw [o7 hkd] at hle
  clear hkd
  go_wp2_with fail
  refine (hs _ _ _ _ (hrep.alloc ah _) aJ ah).mono ?_; rintro e w1 ⟨rfl, hb1⟩
  have hb2 : Below w.heap.size w w1 := (hb.alloc hz _).trans (hb1.mono aJ)
  clear c0 c1 c2 c3 c4 c5 hrep hb1
  go_wp2_with fail
  go_roundw
  case rel => exact ⟨k + 1, ah, by go_num, by rw [HS.out]; go_num, hb2⟩
  simp [intOf]; omega
 exact Jd
theorem qz (c : ak) : p8 15 ak.nodes c := ak.ind za c
theorem ze (c : ak) (H : ∀ x ∈ c.kids, p8 51 ak.depth x) : p8 51 ak.depth c := by
 intro x w lo hi h hhi hbk
 obtain ⟨A, cap, rfl, hk, hc1, hc2⟩ := h.form
 unfold maxLen at hc2
 have HH := lH H
 have HN := lH c.uO
 have hnb := y9 c
 have hbb : eT c.kids ≤ 34359738368 := by rw [c.kX] at hbk; omega
 have hdl := fun k => nT (Qe (c.kids.take k)) (nI c.kids k)
 have hnn := c.eG
 have HD : Hid (∀ k, gI (c.kids.take k) ≤ 34359738369) := fun k => by have := hdl k; omega
 clear H h hdl hnn hnb
 go_in
 go_wp2_with fail
 go_loopw [3, 9] (fun n i wr => ∃ k : Nat, k ≤ c.kids.length ∧ i = .int i64 k ∧ n = .int i64 (gI (c.kids.take k)) ∧ Below w.heap.size w wr) (fun _ i _ => c.kids.length - (intOf i).toNat)
 case atStart => exact ⟨0, nZ _, rfl, by simp [gI], bA _ _⟩
 obtain ⟨k, hk', rfl, rfl, hb⟩ := hrel
 obtain ⟨wo, rfl⟩ := nW wr
 have hz := hb.size
 have hd1 := HD.out k
 by_cases hlt : k < c.kids.length
 ·obtain ⟨g, off, kd, B, d, rfl, hg1, hg2, hkd, hmem, hrep, c0, c1, c2, c3, c4, c5⟩ := (hk.below hb hhi).kid hlt
  have hs := HH.out kd hmem
  have hbm := qo hmem
  have HS := lH (K4 hkd)
  clear hkd
  go_wp2_with fail
  refine (hs _ _ _ _ (hrep.alloc ah _) aJ ah).mono ?_; rintro e w1 ⟨rfl, hb1⟩
  have hb2 : Below w.heap.size w w1 := (hb.alloc hz _).trans (hb1.mono aJ)
  clear c0 c1 c2 c3 c4 c5 hrep hb1
  by_cases hm : (gI (c.kids.take k) : Int) < kd.depth
  ·go_wp2_with fail
   go_roundw
   case rel => exact ⟨k + 1, ah, by go_num, by rw [HS.out]; first | (rw [Nat.max_eq_right ah]; done) | (congr 1; omega), hb2⟩
   simp [intOf]; omega
  go_wp2_with fail
  go_roundw
  case rel => exact ⟨k + 1, ah, by go_num, by rw [HS.out]; first | (rw [Nat.max_eq_left ah]; done) | (congr 1; omega), hb2⟩
  simp [intOf]; omega
 obtain rfl : k = c.kids.length := by omega
 rw [List.take_length] at hd1 ⊢
 go_wp2_with fail
 go_ret
 exact ⟨pU (by rw [HN.out]; go_num), hb⟩
theorem Dm (c : ak) : p8 51 ak.depth c := ak.ind ze c
theorem zf (c : ak) (H : ∀ x ∈ c.kids, p8 38 ak.nodes x) : p8 38 ak.nodes c := by
 intro x w lo hi h hhi hbk
 obtain ⟨A, cap, rfl, hk, hc1, hc2⟩ := h.form
 unfold maxLen at hc2
 have HH := lH H
 have HN := lH c.eG
 have hnb := y9 c
 rw [c.eG] at hnb
 have hbb : eT c.kids ≤ 34359738368 := by rw [c.kX] at hbk; omega
 clear H h
 go_in
 go_wp2_with fail
 go_loopw [3, 4] (fun n i wr => ∃ k : Nat, k ≤ c.kids.length ∧ i = .int i64 k ∧ n = .int i64 ((1 + fq (c.kids.take k) : Nat) : Int) ∧ Below w.heap.size w wr ∧ Blk wr w.heap.size 43 (aB c.kind c.op c.number c.line c.text A c.kids.length cap)) (fun _ i _ => c.kids.length - (intOf i).toNat)
 case atStart => exact ⟨0, nZ _, rfl, by simp [fq], bA _ _, Blk.new w _ _⟩
 obtain ⟨k, hk', rfl, rfl, hb, ha⟩ := hrel
 obtain ⟨wo, rfl⟩ := nW wr
 have hz := hb.size
 have ca := ha.cell 5
 simp only [List.getElem?_toArray, List.getElem?_cons_succ, List.getElem?_cons_zero] at ca
 by_cases hlt : k < c.kids.length
 ·obtain ⟨g, off, kd, B, d, rfl, hg1, hg2, hkd, hmem, hrep, c0, c1, c2, c3, c4, c5⟩ := (hk.below hb hhi).kid hlt
  have hs := HH.out kd hmem
  have hbm := qo hmem
  have HS := lH (o7 hkd)
  have hle := nI c.kids (k + 1)
  rw [o7 hkd] at hle
  clear hkd
  go_wp2_with fail
  refine (hs _ _ _ _ hrep ah ah).mono ?_; rintro e w1 ⟨rfl, hb1⟩
  have hb2 : Below w.heap.size w w1 := hb.trans (hb1.mono hz)
  have ha1 := ha.later hb1
  clear c0 c1 c2 c3 c4 c5 hrep hb1 ca ha
  go_wp2_with fail
  go_roundw
  case rel => exact ⟨k + 1, ah, by go_num, by rw [HS.out]; go_num, hb2, ha1⟩
  simp [intOf]; omega
 exact Jd
theorem Dn (c : ak) : p8 38 ak.nodes c := ak.ind zf c
end
end Go.Proofs.YthbcamfejgghhaaGreatDoor
