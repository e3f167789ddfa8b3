/- The oZ state: its tokens, where it stands, where it has failed. The walk of Zb inside the row. The oZ small functions: what they leave of its st -/
import Derived.Test.YthbcamfejgghhaaGreatDoorQ09
import Derived.Test.YthbcamfejgghhaaGreatDoorQ13
set_option maxRecDepth 100000
set_option maxHeartbeats 8000000
set_option linter.unusedVariables false
set_option linter.unusedSimpArgs false
namespace Go.Proofs.YthbcamfejgghhaaGreatDoor
open Go.IntKind (i64)
section
open Go Go.RowKit
def Ps (p : Nat) (ts : List eX) (w : World) (a : Nat) (bad : Int) : Prop := ∃ (A : Option Addr) (n : Nat), Blk w p 169 (jT A ts.length n a bad) ∧ aW w 0 p 3 eX.aG (.slice A ts.length n) ts ∧ ts.length ≤ n ∧ n ≤ maxLen ∧ a ≤ ts.length
structure Pt (p : Nat) (ts : List eX) (w0 w : World) (a : Nat) (bad : Int) : Prop where
 gr : w0.grownBy w (some p)
 ps : Ps p ts w a bad
def gY (ts : List eX) (a : Nat) : eX := if a < ts.length then ts.getD a ⟨0, aC, 1⟩ else ⟨0, aC, (ts.getLastD ⟨0, aC, 1⟩).line⟩
theorem xL {ts : List eX} (h : ∀ t ∈ ts, t.Ok) (a : Nat) : 1 ≤ (gY ts a).line ∧ (gY ts a).line ≤ 100000 := by
 unfold gY
 split
 ·rename_i hl
  rw [List.getD_eq_getElem?_getD, gE hl]
  have := h _ (List.getElem_mem hl)
  exact ⟨this.1, this.2.1⟩
 cases ts with
 | nil => exact ⟨aA, aA⟩
 | cons t ts =>
   have := h _ (List.getLast_mem (List.cons_ne_nil t ts))
   rw [List.getLastD_eq_getLast?, List.getLast?_eq_some_getLast (List.cons_ne_nil t ts)]
   exact ⟨this.1, this.2.1⟩
theorem Ps.below {p : Nat} {ts : List eX} {w w' : World} {a : Nat} {bad : Int} (h : Ps p ts w a bad) (hb : Below w.heap.size w w') : Ps p ts w' a bad := by
 obtain ⟨A, n, h1, h2, h3⟩ := h
 exact ⟨A, n, h1.later hb, h2.below hb (Nat.le_of_lt h1.lt), h3⟩
theorem Pt.below {p : Nat} {ts : List eX} {w0 w w' : World} {a : Nat} {bad : Int} (h : Pt p ts w0 w a bad) (hb : Below w.heap.size w w') : Pt p ts w0 w' a bad := ⟨dJ h.gr (iE hb _), h.ps.below hb⟩
theorem Di {w : World} {o : Obj} {n g i : Nat} (u0 u1 u2 : Value) (hg : g < w.heap.size) : (((((w.alloc o).drewN n).setCell (aj w.heap.size 0) u0).setCell (aj w.heap.size 1) u1).setCell (aj w.heap.size 2) u2).cell? (aj g i) = w.cell? (aj g i) :=
 (((((bR w.heap.size w).alloc (nR _) o).trans ((Same.refl _).drewN n |>.below _)).setCell (p := ⟨w.heap.size, 0, none⟩) (nR _) u0).setCell (p := ⟨w.heap.size, 1, none⟩) (nR _) u1).setCell (p := ⟨w.heap.size, 2, none⟩) (nR _) u2 |>.cell (p := ⟨g, i, none⟩) hg
theorem ML {w : World} {o : Obj} {n : Nat} (u0 u1 u2 : Value) : Below w.heap.size w (((((w.alloc o).drewN n).setCell (aj w.heap.size 0) u0).setCell (aj w.heap.size 1) u1).setCell (aj w.heap.size 2) u2) :=
 (((((bR w.heap.size w).alloc (nR _) o).trans ((Same.refl _).drewN n |>.below _)).setCell (p := ⟨w.heap.size, 0, none⟩) (nR _) u0).setCell (p := ⟨w.heap.size, 1, none⟩) (nR _) u1).setCell (p := ⟨w.heap.size, 2, none⟩) (nR _) u2
theorem Tz (p : Nat) (ts : List eX) (a : Nat) (bad : Int) (w : World) (h : Ps p ts w a bad) (hl : ts.length ≤ 12000) (ha : a < ts.length) :
 Calls Tryz.prog 115 #[.pointer (some (aj p 0))] w fun e w' => e = .returned (.agg (aV ((gY ts a).kind) ((gY ts a).text) ((gY ts a).line))) ∧ Below w.heap.size w w' := by
 obtain ⟨A, n, hb, hr, hn, hm, -⟩ := h
 have hc : ts[a]? = some (gY ts a) := by unfold gY; rw [if_pos ha, List.getD_eq_getElem?_getD, gE ha]; rfl
 generalize gY ts a = t at hc ⊢
 obtain ⟨g, off, rfl, -, hg, -, -, t0, t1, t2⟩ := eX.at_ hr hc
 have hpl := hb.lt
 have hgl : g < w.heap.size := ah
 have p0 : w.cell? (aj p 0) = some (.slice (some (aj g off)) ts.length n) := hb.cell 0
 have p1 : w.cell? (aj p 1) = some (.int i64 a) := hb.cell 1
 have a0 : (0 : Int) ≤ (a : Int) := ah
 have a1 : (a : Int) < (ts.length : Int) := ah
 unfold maxLen at hm
 clear hc hr hb
 go_in
 go_wp2_with fail
 go_quiet (fail)
 go_wp2_with fail
 have np : p ≠ w.heap.size := ah
 have ng : g ≠ w.heap.size := ah
 go_region_held3 (fun w' => w'.cell? (aj p 0) = some (.slice (some (aj g off)) ts.length n) ∧ w'.cell? (aj p 1) = some (.int i64 a) ∧ w'.cell? (aj g (off + a * 3)) = some (.int i64 t.kind) ∧ w'.cell? (aj g (off + a * 3 + 1)) = some (.string t.text) ∧ w'.cell? (aj g (off + a * 3 + 2)) = some (.int i64 t.line)) (first | go_keep | exact ⟨(Di _ _ _ hpl).trans p0, (Di _ _ _ hpl).trans p1, (Di _ _ _ hgl).trans t0, (Di _ _ _ hgl).trans t1, (Di _ _ _ hgl).trans t2⟩) (fail)
 go_wp2_with fail
 refine bodyPost_ret (v := .agg (aV t.kind t.text t.line)) ?_ rfl ⟨rfl, ?_⟩
 ·simp [results, Tryz.results115, go_sem]
 exact ML _ _ _
end
section
open Go Go.RowKit
section
variable {p : Nat} {ts : List eX} {w w' w0 w1 w2 : World} {a a' a0 a1 a2 : Nat} {bad mR : Int}
theorem Ps.lt (h : Ps p ts w a bad) : p < w.heap.size := by obtain ⟨A, n, h1, -⟩ := h; exact h1.lt
theorem Ps.le (h : Ps p ts w a bad) : a ≤ ts.length := by obtain ⟨A, n, h1, h2, h3, h4, h5⟩ := h; exact h5
theorem Ps.at1 (h : Ps p ts w a bad) : w.cell? (aj p 1) = some (.int i64 a) := by obtain ⟨A, n, h1, -⟩ := h; exact h1.cell 1
theorem Ps.j5 (h : Ps p ts w a bad) : w.cell? (aj p 2) = some (.int i64 bad) := by obtain ⟨A, n, h1, -⟩ := h; exact h1.cell 2
theorem Ps.frz (h : Ps p ts w a bad) (i : Nat) : w.frozen? (aj p i) = false := by obtain ⟨A, n, h1, -⟩ := h; exact h1.frozen i
theorem Ps.setAt (h : Ps p ts w a bad) {x : Int} (hx : x = (a' : Int)) (ha : a' ≤ ts.length) : Ps p ts (w.setCell (aj p 1) (.int i64 x)) a' bad := by
 subst hx
 obtain ⟨A, n, h1, h2, h3, h4, h5⟩ := h
 exact ⟨A, n, h1.aF 1 _, h2.gQ (.inr (nR _)) _, h3, h4, ha⟩
theorem Ps.zY (h : Ps p ts w a bad) (mR : Int) : Ps p ts (w.setCell (aj p 2) (.int i64 mR)) a mR := by
 obtain ⟨A, n, h1, h2, h3, h4, h5⟩ := h
 exact ⟨A, n, h1.aF 2 _, h2.gQ (.inr (nR _)) _, h3, h4, h5⟩
theorem jk (w : World) (p i : Nat) (u : Value) : w.grownBy (w.setCell (aj p i) u) (some p) := ⟨rfl, rfl, rfl, by simp [World.setCell], fun g hg hne => Below.heap_setCell w (aj p i) u g (fun e => hne (by rw [e]))⟩
theorem Ps.pt (h : Ps p ts w a bad) : Pt p ts w w a bad := ⟨World.grownBy.refl w _, h⟩
theorem Pt.trans (h : Pt p ts w0 w1 a1 bad) (k : Pt p ts w1 w2 a2 mR) : Pt p ts w0 w2 a2 mR := ⟨dJ h.gr k.gr, k.ps⟩
theorem Pt.setAt (h : Pt p ts w0 w a bad) {x : Int} (hx : x = (a' : Int)) (ha : a' ≤ ts.length) : Pt p ts w0 (w.setCell (aj p 1) (.int i64 x)) a' bad := ⟨dJ h.gr (jk _ _ _ _), h.ps.setAt hx ha⟩
theorem Pt.zY (h : Pt p ts w0 w a bad) (mR : Int) : Pt p ts w0 (w.setCell (aj p 2) (.int i64 mR)) a mR := ⟨dJ h.gr (jk _ _ _ _), h.ps.zY mR⟩
theorem Pt.of_below (h : Ps p ts w a bad) (hb : Below w.heap.size w w') : Pt p ts w w' a bad := h.pt.below hb
end
structure wM (ts : List eX) : Prop where
 len : ts.length ≤ 12000
 ok : ∀ t ∈ ts, t.Ok
structure Mv (p : Nat) (ts : List eX) (w : World) (a : Nat) (bad : Int) (s : Bool) (w' : World) (a' : Nat) (mR : Int) : Prop where
 pt : Pt p ts w w' a' mR
 le : a ≤ a'
 no : mR = 0 → bad = 0
 on : s = true → mR = 0 → a < a'
section
variable {p : Nat} {ts : List eX} {w w' w1 w2 : World} {a a1 a2 : Nat} {bad gZ j5 : Int} {s t : Bool} {row : Option Nat}
theorem Ps.grown (h : Ps p ts w a bad) (hg : w.grownBy w' row) (hr : ∀ g, row = some g → p < g) : Ps p ts w' a bad := by
 have hp := h.lt
 obtain ⟨A, n, h1, h2, h3⟩ := h
 exact ⟨A, n, h1.grown hg Gr, h2.grown hg (Nat.le_of_lt hp) (fun g hgr => .inr (Nat.le_of_lt (hr g hgr))), h3⟩
theorem Mv.start (h : Ps p ts w a bad) : Mv p ts w a bad false w a bad := ⟨h.pt, nR _, id, fun h => by cases h⟩
theorem Mv.ps (h : Mv p ts w a bad s w1 a1 gZ) : Ps p ts w1 a1 gZ := h.pt.ps
theorem Mv.gr (h : Mv p ts w a bad s w1 a1 gZ) : w.grownBy w1 (some p) := h.pt.gr
theorem Mv.size (h : Mv p ts w a bad s w1 a1 gZ) : w.heap.size ≤ w1.heap.size := h.pt.gr.size
theorem Mv.top (h : Mv p ts w a bad s w1 a1 gZ) : a1 ≤ ts.length := h.pt.ps.le
theorem Mv.step (h : Mv p ts w a bad s w1 a1 gZ) (k : Mv p ts w1 a1 gZ t w2 a2 j5) : Mv p ts w a bad (s || t) w2 a2 j5 :=
 ⟨h.pt.trans k.pt, nT h.le k.le, fun e => h.no (k.no e), fun hs e => by
  have h1 := h.le; have h2 := k.le
  cases s with
  | true => have := h.on rfl (k.no e); omega
  | false => have := k.on hs e; omega⟩
theorem Mv.weak (h : Mv p ts w a bad s w1 a1 gZ) : Mv p ts w a bad false w1 a1 gZ := ⟨h.pt, h.le, h.no, fun h => by cases h⟩
theorem Mv.fail (h : Mv p ts w a bad s w1 a1 gZ) (hb : gZ ≠ 0) (t : Bool) : Mv p ts w a bad t w1 a1 gZ := ⟨h.pt, h.le, h.no, fun _ e => absurd e hb⟩
theorem Mv.below (h : Mv p ts w a bad s w1 a1 gZ) (hb : Below w1.heap.size w1 w2) : Mv p ts w a bad s w2 a1 gZ := ⟨h.pt.below hb, h.le, h.no, h.on⟩
theorem Mv.own (h : Mv p ts w a bad s w1 a1 gZ) (hp : p < w.heap.size) (hg : w1.grownBy w2 row) (hr : ∀ g, row = some g → w.heap.size ≤ g) : Mv p ts w a bad s w2 a1 gZ :=
 ⟨⟨⟨hg.os.trans h.gr.os, hg.tape.trans h.gr.tape, hg.output.trans h.gr.output, nT h.gr.size hg.size, fun i hi hne => (hg.block i (nL hi h.gr.size) Gr).trans (h.gr.block i hi hne)⟩, h.ps.grown hg fun g e => nL hp (hr g e)⟩, h.le, h.no, h.on⟩
theorem Mv.far (h : Mv p ts w a bad s w1 a1 gZ) (hp : p < w.heap.size) {q : Addr} (hq : w.heap.size ≤ q.block) (u : Value) : Mv p ts w a bad s (w1.setCell q u) a1 gZ :=
 h.own hp (row := some q.block) ⟨rfl, rfl, rfl, by simp [World.setCell], fun g hg hne => Below.heap_setCell w1 q u g (fun e => hne (by rw [e]))⟩ fun g e => by injection e with e; omega
theorem Mv.setAt (h : Mv p ts w a bad s w1 a1 gZ) {x : Int} (hx : x = ((a1 + 1 : Nat) : Int)) (ha : a1 < ts.length) : Mv p ts w a bad true (w1.setCell (aj p 1) (.int i64 x)) (a1 + 1) gZ :=
 ⟨h.pt.setAt hx ha, Nat.le_succ_of_le h.le, h.no, fun _ _ => Nat.lt_succ_of_le h.le⟩
end
def Pd (ts : List eX) (a : Nat) (w : World) (e : Ending) (w' : World) : Prop := e = .returned (.agg (aV ((gY ts a).kind) ((gY ts a).text) ((gY ts a).line))) ∧ Below w.heap.size w w'
def Xi (p : Nat) (ts : List eX) (a : Nat) (bad : Int) (w : World) (e : Ending) (w' : World) : Prop := ∃ mR, e = .returned (.tuple #[]) ∧ Mv p ts w a bad true w' a mR ∧ mR ≠ 0
def IsP (ts : List eX) (a : Nat) (w : World) (e : Ending) (w' : World) : Prop := ∃ b, e = .returned (.bool b) ∧ Below w.heap.size w w' ∧ (b = true → a < ts.length)
def Xj (p : Nat) (ts : List eX) (a : Nat) (bad : Int) (w : World) (e : Ending) (w' : World) : Prop := ∃ b a', e = .returned (.bool b) ∧ Mv p ts w a bad b w' a' bad ∧ (b = true → bad = 0) ∧ (b = false → a' = a) ∧ a' ≤ a + 1
def Xk (p : Nat) (ts : List eX) (a : Nat) (bad : Int) (w : World) (e : Ending) (w' : World) : Prop := ∃ a' mR, e = .returned (.tuple #[]) ∧ Mv p ts w a bad true w' a' mR ∧ a' ≤ a + 1
def Xl (p : Nat) (ts : List eX) (a : Nat) (bad : Int) (w : World) (e : Ending) (w' : World) : Prop := ∃ s a' mR, e = .returned (.string s) ∧ s.size ≤ 100000 ∧ Mv p ts w a bad true w' a' mR ∧ a' ≤ a + 1
theorem Ry (p : Nat) (ts : List eX) (a : Nat) (bad : Int) (w : World) (h : Ps p ts w a bad) (hl : ts.length ≤ 12000) (ha : ¬ a < ts.length) :
 Calls Tryz.prog 115 #[.pointer (some (aj p 0))] w (Pd ts a w) := by
 obtain ⟨A, n, hb, hr, hn, hm, hle⟩ := h
 have hpl := hb.lt
 obtain rfl : a = ts.length := by omega
 have p0 : w.cell? (aj p 0) = some (.slice A ts.length n) := hb.cell 0
 have p1 : w.cell? (aj p 1) = some (.int i64 ts.length) := hb.cell 1
 unfold maxLen at hm
 have np : p ≠ w.heap.size := ah
 by_cases h0 : ts.length = 0
 ·have ht : gY ts ts.length = ⟨0, aC, 1⟩ := by rw [List.eq_nil_of_length_eq_zero h0]; rfl
  unfold Pd
  rw [ht]
  rw [h0] at p0 p1
  clear hb hr hn hl ha hle ht
  go_in
  go_wp2_with fail
  go_quiet (fail)
  go_wp2_with fail
  refine bodyPost_ret (v := .agg (aV 0 aC 1)) ?_ rfl ⟨rfl, ?_⟩
  ·simp [results, Tryz.results115, go_sem]
  exact ML _ _ _
 obtain ⟨t, ht⟩ : ∃ t, ts[ts.length - 1]? = some t := ⟨_, gE ah⟩
 have hta : gY ts ts.length = ⟨0, aC, t.line⟩ := by
  unfold gY
  rw [if_neg (Nat.lt_irrefl _), List.getLastD_eq_getLast?, List.getLast?_eq_getElem?, ht]; rfl
 obtain ⟨g, off, rfl, -, hg, -, -, t0, t1, t2⟩ := eX.at_ hr ht
 have hgl : g < w.heap.size := ah
 have ng : g ≠ w.heap.size := ah
 have e1 : IntKind.i64.wrap ((ts.length : Int) - 1) = (ts.length : Int) - 1 := IntWalk.i64_in _ ah
 have e2 : (0 : Int) ≤ (ts.length : Int) - 1 := ah
 have e3 : (ts.length : Int) - 1 < (ts.length : Int) := ah
 have e4 : ((ts.length : Int) - 1).toNat = ts.length - 1 := ah
 have e5 : (0 : Int) < (ts.length : Int) := ah
 have e6 : (1 : Int) ≤ (ts.length : Int) := ah
 have e7 : 1 ≤ ts.length := ah
 have H0 := lH h0
 unfold Pd
 rw [hta]
 clear hb hr ha hle hta ht h0
 go_in
 go_wp2_with fail
 go_quiet (fail)
 go_wp2_with fail
 go_region_held3 (fun w' => w'.cell? (aj p 0) = some (.slice (some (aj g off)) ts.length n) ∧ w'.cell? (aj g (off + (ts.length - 1) * 3 + 2)) = some (.int i64 t.line)) (first | go_keep | exact ⟨(Di _ _ _ hpl).trans p0, (Di _ _ _ hgl).trans t2⟩) (fail)
 go_wp2_with fail
 refine bodyPost_ret (v := .agg (aV 0 aC t.line)) ?_ rfl ⟨rfl, ?_⟩
 ·simp [results, Tryz.results115, go_sem]
 exact ML _ _ _
theorem jL {p : Nat} {ts : List eX} {a : Nat} {bad : Int} {w : World} (h : Ps p ts w a bad) (hT : wM ts) :
 Calls Tryz.prog 115 #[.pointer (some (aj p 0))] w (Pd ts a w) := by
 by_cases ha : a < ts.length
 ·exact Tz p ts a bad w h hT.len ha
 exact Ry p ts a bad w h hT.len ha
theorem tF (a c : Int) (b : ByteArray) (w : World) : (Instr.field 171 (.agg (aV a b c)) 2).run Tryz.prog w = .ok (.int i64 c) w := aI
theorem jJ {p : Nat} {ts : List eX} {a : Nat} {bad : Int} {w : World} (h : Ps p ts w a bad) (hT : wM ts) :
 Calls Tryz.prog 121 #[.pointer (some (aj p 0))] w (Xi p ts a bad w) := by
 have H := lH h
 have p2 := h.j5
 have hTl := (xL hT.ok a).1
 have HT := lH hT
 have lp := h.lt
 clear h hT
 by_cases hb : bad = 0
 ·subst hb
  go_in
  go_wp2_with fail
  refine (jL H.out HT.out).mono ?_
  rintro e w1 ⟨rfl, hb1⟩
  have ps1 := H.out.below hb1
  have q2 := ps1.j5
  have f2 := ps1.frz 2
  have PT := lH (Pt.of_below H.out hb1)
  clear p2 ps1 hb1
  have hfd := tF (gY ts a).kind (gY ts a).line (gY ts a).text
  go_wp2_with fail
  go_end0
  exact ⟨_, rfl, ⟨PT.out.zY _, nR _, fun h => ah, fun _ h => ah⟩, ah⟩
 have c0 : (bad == 0) = false := by simp [hb]
 have HB := lH hb
 clear hb
 go_in
 go_wp2_with fail
 go_end0
 exact ⟨_, rfl, ⟨H.out.pt, nR _, id, fun _ h => absurd h HB.out⟩, HB.out⟩
theorem mK {p : Nat} {ts : List eX} {a : Nat} {bad : Int} {w : World} (s : ByteArray) (h : Ps p ts w a bad) (hT : wM ts) :
 Calls Tryz.prog 159 #[.pointer (some (aj p 0)), s] w (IsP ts a w) := by
 have H := lH h
 have HT := lH hT
 have lp := h.lt
 have HK : Hid (¬ a < ts.length → (gY ts a).kind = 0) := fun hn => by unfold gY; rw [if_neg hn]
 clear h hT
 go_in
 go_wp2_with fail
 refine (jL H.out HT.out).mono ?_
 rintro e w1 ⟨rfl, hb1⟩
 generalize gY ts a = t at *
 have hbw : Below w.heap.size w (w1.alloc (.cells (aV t.kind t.text t.line) 171)) := hb1.alloc hb1.size _
 cases k2 : (t.kind == 2)
 ·cases k7 : (t.kind == 7)
  ·go_wp2_with fail
   go_ret
   exact ⟨_, rfl, hbw, fun h => by cases h⟩
  have hk : a < ts.length := by
   by_cases hn : a < ts.length
   ·exact hn
   have := HK.out hn; rw [this] at k7; cases k7
  have HA := lH hk
  clear hk
  go_wp2_with fail
  go_ret
  exact ⟨_, rfl, hbw, fun _ => HA.out⟩
 have hk : a < ts.length := by
  by_cases hn : a < ts.length
  ·exact hn
  have := HK.out hn; rw [this] at k2; cases k2
 have HA := lH hk
 clear hk
 go_wp2_with fail
 go_ret
 exact ⟨_, rfl, hbw, fun _ => HA.out⟩
theorem dP {p : Nat} {ts : List eX} {a : Nat} {bad : Int} {w : World} (s : ByteArray) (h : Ps p ts w a bad) (hT : wM ts) :
 Calls Tryz.prog 116 #[.pointer (some (aj p 0)), s] w (Xj p ts a bad w) := by
 have H := lH h
 have p1 := h.at1
 have p2 := h.j5
 have HT := lH hT
 have lp := h.lt
 have hle := h.le
 have hl := hT.len
 clear h hT
 by_cases hb : bad = 0
 ·subst hb
  go_in
  go_wp2_with fail
  refine (mK s H.out HT.out).mono ?_
  rintro e w1 ⟨b, rfl, hb1, hlt⟩
  have ps1 := H.out.below hb1
  have q1 := ps1.at1
  have f1 := ps1.frz 1
  have PT := lH (Pt.of_below H.out hb1)
  clear p1 p2 ps1 hb1
  have HL := lH hlt
  clear hlt
  cases b with
  | true =>
    have hw : IntKind.i64.wrap ((a : Int) + 1) = (a : Int) + 1 := IntWalk.i64_in _ ah
    go_wp2_with fail
    go_ret
    exact ⟨true, a + 1, rfl, ⟨PT.out.setAt ah (by have := HL.out trivial; omega), ah, id, fun _ _ => ah⟩, av, av, nR _⟩
  | false =>
    go_wp2_with fail
    go_ret
    exact ⟨false, a, rfl, ⟨PT.out, nR _, id, fun h => by cases h⟩, av, av, ah⟩
 have c0 : (bad == 0) = false := by simp [hb]
 have HB := lH hb
 clear hb
 go_in
 go_wp2_with fail
 go_ret
 exact ⟨false, a, rfl, .start H.out, av, av, ah⟩
theorem iP {p : Nat} {ts : List eX} {a : Nat} {bad : Int} {w : World} (s : ByteArray) (h : Ps p ts w a bad) (hT : wM ts) :
 Calls Tryz.prog 160 #[.pointer (some (aj p 0)), s] w (Xk p ts a bad w) := by
 go_in
 go_wp2_with fail
 refine (dP s h hT).mono ?_
 rintro e w1 ⟨b, a', rfl, ht, hy, hn, hle⟩
 have HN := lH hn
 have HP := lH ht
 have HE := lH hle
 clear hy hn ht hle
 cases b with
 | true =>
   go_wp2_with fail
   go_end0
   exact ⟨_, _, rfl, HP.out, HE.out⟩
 | false =>
   go_wp2_with fail
   refine (jJ HP.out.ps hT).mono ?_
   rintro e w2 ⟨mR, rfl, hp2, hb2⟩
   have HP2 := lH hp2
   clear hp2 hb2
   go_wp2_with fail
   go_end0
   exact ⟨_, _, rfl, HP.out.step HP2.out, HE.out⟩
theorem mM {p : Nat} {ts : List eX} {a : Nat} {bad : Int} {w : World} (h : Ps p ts w a bad) (hT : wM ts) :
 Calls Tryz.prog 117 #[.pointer (some (aj p 0))] w (Xl p ts a bad w) := by
 have H := lH h
 have HT := lH hT
 have lp := h.lt
 have hl := hT.len
 have HK : Hid (¬ a < ts.length → (gY ts a).kind = 0) := fun hn => by unfold gY; rw [if_neg hn]
 have HX : Hid (a < ts.length → (gY ts a).text.size ≤ 100000) := fun ha => by
  unfold gY
  rw [if_pos ha, List.getD_eq_getElem?_getD, gE ha]
  exact (hT.ok _ (List.getElem_mem ha)).2.2
 clear h hT
 go_in
 go_wp2_with fail
 refine (jL H.out HT.out).mono ?_
 rintro e w1 ⟨rfl, hb1⟩
 generalize gY ts a = t at *
 have hbw : Below w.heap.size w (w1.alloc (.cells (aV t.kind t.text t.line) 171)) := hb1.alloc hb1.size _
 have ps1 := H.out.below hbw
 have PT := lH (Pt.of_below H.out hbw)
 have q1 := ps1.at1
 have q2 := ps1.j5
 have f1 := ps1.frz 1
 have bx := Blk.new w1 171 (aV t.kind t.text t.line)
 by_cases hb : bad = 0
 ·subst hb
  cases k1 : (t.kind != 1)
  ·have hk : a < ts.length := by
    by_cases hn : a < ts.length
    ·exact hn
    have := HK.out hn; rw [this] at k1; cases k1
   have hw : IntKind.i64.wrap ((a : Int) + 1) = (a : Int) + 1 := IntWalk.i64_in _ ah
   have HA := lH hk
   have HS := lH (HX.out hk)
   have bx1 := bx.far (p := ⟨p, 1, none⟩) (by have := hb1.size; simp; omega) (.int i64 ((a : Int) + 1))
   have c1 := bx1.cell 1
   clear hk
   go_wp2_with fail
   go_ret
   exact ⟨_, a + 1, 0, rfl, HS.out, ⟨PT.out.setAt ah (by have := HA.out; omega), ah, id, fun _ _ => ah⟩, nR _⟩
  go_wp2_with fail
  refine (jJ ps1 HT.out).mono ?_
  rintro e w2 ⟨mR, rfl, hp2, hb2⟩
  have HP2 := lH hp2
  have HB2 := lH hb2
  clear hp2 hb2
  go_wp2_with fail
  go_ret
  exact ⟨_, _, _, rfl, by show (0 : Nat) ≤ _; omega, (Mv.start H.out).below hbw |>.step HP2.out, ah⟩
 have c0 : (bad != 0) = true := by simp [hb]
 clear hb
 go_wp2_with fail
 refine (jJ ps1 HT.out).mono ?_
 rintro e w2 ⟨mR, rfl, hp2, hb2⟩
 have HP2 := lH hp2
 have HB2 := lH hb2
 clear hp2 hb2
 go_wp2_with fail
 go_ret
 exact ⟨_, _, _, rfl, by show (0 : Nat) ≤ _; omega, (Mv.start H.out).below hbw |>.step HP2.out, ah⟩
end
end Go.Proofs.YthbcamfejgghhaaGreatDoor
