/- Is a unit VH What is returned is not told, but that a valid one is small. Which RV are valid: the plain law. YU: what it needs of a tree, and wha -/
import Derived.Test.YthbcamfejgghhaaGreatDoorQ24
import Derived.Test.YthbcamfejgghhaaGreatDoorQ25
import Derived.Test.YthbcamfejgghhaaGreatDoorQ28
set_option maxRecDepth 100000
set_option maxHeartbeats 8000000
set_option linter.unusedVariables false
set_option linter.unusedSimpArgs false
namespace Go.Proofs.YthbcamfejgghhaaGreatDoor
open Go.IntKind (i64)
section
open Go Go.RowKit
def fE.Small (u : fE) : Prop := u.records.length ≤ 8 ∧ u.globals.length ≤ 12 ∧ u.procedures.length ≤ 12 ∧ (∀ r ∈ u.records, r.fields.length ≤ 6) ∧ ∀ q ∈ u.procedures, q.params.length ≤ 6 ∧ q.locals.length ≤ 8 ∧ q.body.nodes ≤ 600
def XJ (u : fE) (w : World) (e : Ending) (w' : World) : Prop := ∃ b : Bool, e = .returned (.bool b) ∧ Below w.heap.size w w' ∧ (b = true → u.Small)
theorem Hw {l : List ByteArray} {m : Nat} {v : Bool} (h : (l.all bJ && decide (l.length ≤ m)) = v) : v = true → l.length ≤ m := fun e => by
 rw [e, Bool.and_eq_true, decide_eq_true_eq] at h; exact h.2
theorem Ew {α : Type} {l : List α} {j : Nat} {c : α} {P : α → Prop} (hc : l[j]? = some c) (h : ∀ x ∈ l.take j, P x) (h' : P c) : ∀ x ∈ l.take (j + 1), P x := fun x hx => by
 rw [gB hc] at hx
 rcases mA hx with hx | hx
 ·exact h x hx
 rw [mS hx]; exact h'
theorem oz (u : fE) (A1 A2 A3 : Option Addr) (n1 n2 n3 : Nat) (w : World) (lo hi : Nat) (h : dZ w lo hi fE.aG (.agg (aQ A1 u.records.length n1 A2 u.globals.length n2 A3 u.procedures.length n3)) u) (hhi : hi ≤ w.heap.size) (hok : ∀ q ∈ u.procedures, q.body.Ok) :
 Calls Tryz.prog 122 #[.agg (aQ A1 u.records.length n1 A2 u.globals.length n2 A3 u.procedures.length n3)] w (XJ u w) := by
 obtain ⟨hr, hg, hp⟩ := fE.rows h
 obtain ⟨_, _, e1, hr1, hr2⟩ := hr.shape
 injection e1 with e1 _ e2
 subst e1 e2
 obtain ⟨_, _, e1, hg1, hg2⟩ := hg.shape
 injection e1 with e1 _ e2
 subst e1 e2
 obtain ⟨_, _, e1, hp1, hp2⟩ := hp.shape
 injection e1 with e1 _ e2
 subst e1 e2
 unfold maxLen at hr2 hg2 hp2
 have HR := lH hr
 have HG := lH hg
 have HP := lH hp
 have HOK := lH hok
 clear h hr hg hp hok
 obtain ⟨b0, hb0⟩ := dQ w 122 (aQ A1 u.records.length n1 A2 u.globals.length n2 A3 u.procedures.length n3)
 go_in
 go_upto_region 1 with fail
 generalize w.alloc (.cells (aQ A1 u.records.length n1 A2 u.globals.length n2 A3 u.procedures.length n3) 122) = W at *
 have c0 := b0.cell
 go_cut [22] (fun v wx => ∃ b : Bool, v = .bool b ∧ Below W.heap.size W wx ∧ Hid (b = false → u.records.length ≤ 8 ∧ u.globals.length ≤ 12 ∧ u.procedures.length ≤ 12))
 case first =>
  have C := lH (jZ u.globals 12 _ W lo hi (HG.out.below hb0 hhi) (nT hhi hb0.size))
  obtain ⟨v, hv⟩ : ∃ v, (u.globals.all bJ && decide (u.globals.length ≤ 12)) = v := ⟨_, rfl⟩
  rw [hv] at C
  have HV := lH (Hw hv)
  clear hv
  by_cases h8 : 8 < (u.records.length : Int)
  ·exact Cz
  by_cases h12 : 12 < (u.procedures.length : Int)
  ·exact Cz
  have H8 : Hid (u.records.length ≤ 8) := (by omega : u.records.length ≤ 8)
  have H12 : Hid (u.procedures.length ≤ 12) := (by omega : u.procedures.length ≤ 12)
  go_wp2_with fail
  refine C.out.mono ?_
  rintro e w1 ⟨rfl, hb⟩
  go_wp2_with fail
  go_meet
  exact ⟨_, rfl, hb, lH (fun h => ⟨H8.out, HV.out (by simpa using h), H12.out⟩)⟩
 obtain ⟨b, rfl, hbx, HL⟩ := hcut
 have bx := b0.later hbx
 have hbX := hb0.trans (hbx.mono hb0.size)
 clear b0 c0 hbx hb0
 cases b with
 | true =>
   go_wp2_with fail
   go_ret
   exact ⟨false, rfl, hbX, fun h => by cases h⟩
 | false =>
   obtain ⟨hl8, hl12, hlp⟩ := HL.out rfl
   go_wp2_with fail
   go_loopw [3] (fun k wx => ∃ (j : Nat), j ≤ u.records.length ∧ k = .int i64 j ∧ Blk wx w.heap.size 122 (aQ A1 u.records.length n1 A2 u.globals.length n2 A3 u.procedures.length n3) ∧ Below w.heap.size w wx ∧ Hid (∀ r ∈ u.records.take j, r.fields.length ≤ 6)) (fun k _ => u.records.length - (intOf k).toNat)
   case atStart => exact ⟨0, nZ _, rfl, bx, hbX, lH av⟩
   clear bx hbX
   obtain ⟨j, hj, rfl, bx, hbX, hF⟩ := hrel
   have cx := bx.cell
   by_cases hlt : j < u.records.length
   ·obtain ⟨c, hc⟩ : ∃ c, u.records[j]? = some c := ⟨_, gE hlt⟩
    obtain ⟨g, off, Af, nf, rfl, -, hg3, hm, hs, t0, t1, t2⟩ := ep.at_ (HR.out.below hbX hhi) hc
    have hff := ep.rows hs
    have HFF := lH hff
    have HC := lH hc
    have lg : g < wr.heap.size := nL hg3 (nT hhi hbX.size)
    have br := Blk.new wr 78 (dS c.name Af c.fields.length nf c.line)
    have hb2 : Below wr.heap.size wr (wr.alloc (.cells (dS c.name Af c.fields.length nf c.line) 78)) := bA _ _
    clear hc hm hs hff
    go_upto_region 7 with fail
    generalize wr.alloc (.cells (dS c.name Af c.fields.length nf c.line) 78) = W1 at *
    have cr := br.cell
    have hbW := hbX.trans (hb2.mono hbX.size)
    go_cut [49] (fun v wx => ∃ b : Bool, v = .bool b ∧ Below W1.heap.size W1 wx ∧ Hid (b = false → c.fields.length ≤ 6))
    case first =>
     have C1 := lH (iH c.name W1)
     generalize bJ c.name = v1 at C1
     cases v1 with
     | false =>
       exact I9
     | true =>
       go_wp2_with fail
       refine C1.out.mono ?_
       rintro e w3 ⟨rfl, hb3⟩
       have hw3 := hbW.trans (hb3.mono hbW.size)
       have C := lH (jZ c.fields 6 _ w3 lo hi (HFF.out.below (hb2.trans (hb3.mono hb2.size)) (nT hhi hbX.size)) (nT hhi hw3.size))
       obtain ⟨v, hv⟩ : ∃ v, (c.fields.all bJ && decide (c.fields.length ≤ 6)) = v := ⟨_, rfl⟩
       rw [hv] at C
       have HV := lH (Hw hv)
       have br3 := br.later hb3
       clear hv cr
       have cr := br3.cell
       cases v with
       | false =>
         go_wp2_with fail
         refine C.out.mono ?_
         rintro e w4 ⟨rfl, hb4⟩
         go_wp2_with fail
         go_meet
         exact ⟨true, rfl, hb3.trans (hb4.mono hb3.size), lH (fun h => by cases h)⟩
       | true =>
         go_wp2_with fail
         refine C.out.mono ?_
         rintro e w4 ⟨rfl, hb4⟩
         have br4 := br3.later hb4
         clear cr
         have cr := br4.cell
         go_wp2_with fail
         go_meet
         exact ⟨_, rfl, hb3.trans (hb4.mono hb3.size), lH (fun _ => HV.out fB)⟩
    obtain ⟨b, rfl, hb5, HLL⟩ := hcut
    have bxx := (bx.later hb2).later hb5
    have hbE := hbW.trans (hb5.mono hbW.size)
    clear cx cr bx br hb5 hb2 t0 t1 t2
    exact Ol
   obtain rfl : j = u.records.length := by omega
   have ad7 := lH hF.out
   clear hF hlt
   go_wp2_with fail
   clear cx
   go_loopw [5] (fun k wx => ∃ (j : Nat), j ≤ u.procedures.length ∧ k = .int i64 j ∧ Blk wx w.heap.size 122 (aQ A1 u.records.length n1 A2 u.globals.length n2 A3 u.procedures.length n3) ∧ Below w.heap.size w wx ∧ Hid (∀ r ∈ u.procedures.take j, r.params.length ≤ 6 ∧ r.locals.length ≤ 8 ∧ r.body.nodes ≤ 600)) (fun k _ => u.procedures.length - (intOf k).toNat)
   case atStart => exact ⟨0, nZ _, rfl, bx, hbX, lH av⟩
   clear bx hbX
   obtain ⟨j, hj, rfl, bx, hbX, hF⟩ := hrel
   have cx := bx.cell
   by_cases hlt : j < u.procedures.length
   ·obtain ⟨c, hc⟩ : ∃ c, u.procedures[j]? = some c := ⟨_, gE hlt⟩
    obtain ⟨g, off, Ap, np, Al, nl, Ab, nb, rfl, -, hg3, hm, hs, t0, t1, t2, t3, t4, t5, t6, t7, t8⟩ := iU.at_ (HP.out.below hbX hhi) hc
    obtain ⟨hpp, hpl, hpb⟩ := iU.rows hs
    have HPP := lH hpp
    have HPL := lH hpl
    have HPB := lH hpb
    have HC := lH hc
    have RX := lH (HOK.out c hm)
    have br := Blk.new wr 181 (dG c.name Ap c.params.length np Al c.locals.length nl c.bQ c.bU c.aZ c.bV Ab c.aT.length nb c.line)
    have hb2 : Below wr.heap.size wr (wr.alloc (.cells (dG c.name Ap c.params.length np Al c.locals.length nl c.bQ c.bU c.aZ c.bV Ab c.aT.length nb c.line) 181)) := bA _ _
    clear hc hm hs hpp hpl hpb
    go_upto_region 13 with fail
    generalize wr.alloc (.cells (dG c.name Ap c.params.length np Al c.locals.length nl c.bQ c.bU c.aZ c.bV Ab c.aT.length nb c.line) 181) = W1 at *
    have cr := br.cell
    have hbW := hbX.trans (hb2.mono hbX.size)
    clear t0 t1 t2 t3 t4 t5 t6 t7 t8 cx
    go_cut [94] (fun v wx => ∃ b : Bool, v = .bool b ∧ Below W1.heap.size W1 wx ∧ Hid (b = false → c.params.length ≤ 6 ∧ c.locals.length ≤ 8 ∧ c.body.nodes ≤ 600))
    case first =>
     have C1 := lH (iH c.name W1)
     generalize bJ c.name = v1 at C1
     cases v1 with
     | false =>
       exact I9
     | true =>
       go_wp2_with fail
       refine C1.out.mono ?_
       rintro e w3 ⟨rfl, hb3⟩
       have hbs := hb3
       have ad8 := hbW.trans (hb3.mono hbW.size)
       have C := lH (jZ c.params 6 _ w3 lo hi (HPP.out.below (hb2.trans (hb3.mono hb2.size)) (nT hhi hbX.size)) (nT hhi ad8.size))
       obtain ⟨v, hv⟩ : ∃ v, (c.params.all bJ && decide (c.params.length ≤ 6)) = v := ⟨_, rfl⟩
       rw [hv] at C
       have HV1 := lH (Hw hv)
       have br3 := br.later hbs
       clear hv cr
       have cr := br3.cell
       cases v with
       | false =>
         go_wp2_with fail
         refine C.out.mono ?_
         rintro e w4 ⟨rfl, hbs⟩
         have hb4 := hb3.trans (hbs.mono hb3.size)
         go_wp2_with fail
         go_meet
         exact ⟨true, rfl, hb4, lH (fun h => by cases h)⟩
       | true =>
         go_wp2_with fail
         refine C.out.mono ?_
         rintro e w4 ⟨rfl, hbs⟩
         have hb4 := hb3.trans (hbs.mono hb3.size)
         have ad9 := hbW.trans (hb4.mono hbW.size)
         have C := lH (jZ c.locals 8 _ w4 lo hi (HPL.out.below (hb2.trans (hb4.mono hb2.size)) (nT hhi hbX.size)) (nT hhi ad9.size))
         obtain ⟨v, hv⟩ : ∃ v, (c.locals.all bJ && decide (c.locals.length ≤ 8)) = v := ⟨_, rfl⟩
         rw [hv] at C
         have HV2 := lH (Hw hv)
         have br4 := br3.later hbs
         clear hv cr
         have cr := br4.cell
         cases v with
         | false =>
           go_wp2_with fail
           refine C.out.mono ?_
           rintro e w5 ⟨rfl, hbs⟩
           have hb5 := hb4.trans (hbs.mono hb4.size)
           go_wp2_with fail
           go_meet
           exact ⟨true, rfl, hb5, lH (fun h => by cases h)⟩
         | true =>
           go_wp2_with fail
           refine C.out.mono ?_
           rintro e w5 ⟨rfl, hbs⟩
           have hb5 := hb4.trans (hbs.mono hb4.size)
           have br5 := br4.later hbs
           clear cr
           have cr := br5.cell
           by_cases hl0 : c.line < 0
           have HL0 := lH hl0
           rotate_left
           rcases (Classical.em (c.bQ = 14)).symm with hk | hk
           have ck : (c.bQ != 14) = true := by simp [hk]
           clear hk
           rotate_left
           rotate_right 2
           iterate 2 focus
            go_wp2_with fail
            go_meet
            exact ⟨true, rfl, hb5, lH (fun h => by cases h)⟩
           have ck : (c.bQ != 14) = false := by simp [hk]
           clear hk
           have aea := hbW.trans (hb5.mono hbW.size)
           have CE := lH (Ah c.body Ab nb w5 lo hi (HPB.out.below (hb2.trans (hb5.mono hb2.size)) (nT hhi hbX.size)) (nT hhi aea.size) RX.out)
           go_wp2_with fail
           refine CE.out.mono ?_
           rintro e w6 ⟨b, rfl, hb6, hn⟩
           have HN := lH hn
           clear hn
           go_wp2_with fail
           go_meet
           exact ⟨_, rfl, hb5.trans (hb6.mono hb5.size), lH (fun h => ⟨HV1.out fB, HV2.out fB, HN.out (by simp at h; first | exact h.2 | exact h)⟩)⟩
    obtain ⟨b, rfl, hb7, HLL⟩ := hcut
    have bxx := (bx.later hb2).later hb7
    have hbE := hbW.trans (hb7.mono hbW.size)
    clear cr bx br hb7 hb2
    exact Ol
   obtain rfl : j = u.procedures.length := by omega
   go_wp2_with fail
   go_ret
   exact ⟨true, rfl, hbX, fun _ => ⟨hl8, hl12, hlp, by have := ad7.out; rwa [List.take_length] at this, by have := hF.out; rwa [List.take_length] at this⟩⟩
end
section
open Go.RowKit
noncomputable def jr (s : ByteArray) : Bool := s.toList.isEmpty || bJ s
def lQ (p : bg) (r : bO) : WdT := ⟨r.slots.length, p.globals.length, p.au.length, p.records.length⟩
noncomputable def jv (p : bg) (r : bO) : Bool := bJ r.name && decide (r.slots.length ≤ 24) && decide (0 ≤ r.params) && decide (r.params ≤ r.slots.length) && r.slots.all jr && decide (r.body.depth ≤ 400) && dW (lQ p r) r.body false false
def lW (p : bg) : Bool := decide (0 ≤ p.main) && decide (p.main < p.au.length) && (match p.au[p.main.toNat]? with | some r => decide (r.params = 0) | none => false)
noncomputable def jR (p : bg) : Bool := decide (1 ≤ p.au.length) && decide (p.au.length ≤ 12) && jO p.records && decide (p.globals.length ≤ 12) && p.globals.all bJ
def fK (r : bO) : Nat := r.body.nodes
noncomputable def aS (p : bg) : Bool := jR p && lW p && p.au.all (jv p) && decide (sumOf fK p.au ≤ 40000)
theorem vR {p : bg} (h : jR p = false) : aS p = false := by unfold aS; rw [h]; rfl
theorem zo {p : bg} (h : lW p = false) : aS p = false := by unfold aS; rw [h, Bool.and_false]; rfl
theorem Po {p : bg} (h : p.au.all (jv p) = false) : aS p = false := by unfold aS; rw [h, Bool.and_false]; rfl
theorem RY {p : bg} (h1 : jR p = true) (h2 : lW p = true) (h3 : p.au.all (jv p) = true) : aS p = decide (sumOf fK p.au ≤ 40000) := by unfold aS; rw [h1, h2, h3]; rfl
theorem Hy {p : bg} (h : jO p.records = false) : aS p = false := by apply vR; unfold jR; rw [h]; simp
theorem RZ {l : List ep} (h : 8 < l.length) : jO l = false := by rw [jO, dF ah, Bool.and_false]
theorem TS {l : List ep} (h : l.all uh = false) : jO l = false := by rw [jO, h]; rfl
theorem in_lt (a n : Int) : inB a 0 (n - 1) = (decide (0 ≤ a) && decide (a < n)) := by
 unfold inB
 congr 1
 rw [Bool.eq_iff_iff, decide_eq_true_eq, decide_eq_true_eq]; omega
theorem Rc (l : List bO) (h : ∀ r ∈ l, r.body.bI ≤ 34359738368) : sumOf fK l ≤ l.length * 34359738369 := by
 induction l with
 | nil => simp [sumOf]
 | cons r l ih =>
   have h1 := h r List.mem_cons_self
   have h2 := ih fun x hx => h x (List.mem_cons_of_mem _ hx)
   have h3 := y9 r.body
   simp only [sumOf, fK, List.length_cons] at *
   omega
end
section
open Go.RowKit
theorem Pp (n : Int) : (mQ n).1.Ok := by
 unfold mQ
 split
 ·next h => exact h
 trivial
theorem Pq {a : Int} : ∀ (k : Nat) (n m : Int), -999999999999 ≤ n → n ≤ 999999999999 → wO a k n = some m → -999999999999 ≤ m ∧ m ≤ 999999999999
 | 0, n, m, h1, h2, h => by simp only [wO, Option.some.injEq] at h; omega
 | k + 1, n, m, h1, h2, h => by
   rw [wO] at h
   split at h
   ·cases h
   next hn =>
   have h3 : (n * a).natAbs = n.natAbs * a.natAbs := Int.natAbs_mul n a
   exact Pq k (n * a) m ah ah h
theorem TT (a b : Int) : (og a b).1.Ok := by
 unfold og
 split
 ·trivial
 split
 ·show -999999999999 ≤ _ ∧ _ ≤ 999999999999
  split <;> omega
 split
 ·exact ⟨ah, ah⟩
 split
 ·exact ⟨ah, ah⟩
 split
 ·trivial
 next m hm => exact Pq _ _ _ ah ah hm
theorem Qs {op x y : Int} (hx : -999999999999 ≤ x ∧ x ≤ 999999999999) : (iR op x y).1.Ok := by
 unfold iR
 split
 ·exact Pp _
 split
 ·exact Pp _
 split
 ·split
  ·trivial
  next h =>
  have h3 : (x * y).natAbs = x.natAbs * y.natAbs := Int.natAbs_mul x y
  exact CP
 split
 ·exact TT _ _
 split
 ·trivial
 split
 ·have h3 := Int.natAbs_tdiv_le_natAbs x y
  exact CP
 have h3 : (x.tmod y).natAbs ≤ x.natAbs := by rw [Int.natAbs_tmod]; exact Nat.mod_le _ _
 exact CP
theorem DV {s : ByteArray} {n : Int} (h : eB s = some n) : -999999999999 ≤ n ∧ n ≤ 999999999999 := by
 have := kY h; omega
theorem sw {v : aY} {n : Int} (hv : v.Ok) (h : v.toInt = some n) : -999999999999 ≤ n ∧ n ≤ 999999999999 := by
 cases v with
 | null => cases h
 | int m => simp only [aY.toInt, Option.some.injEq] at h; subst h; exact hv
 | text s => exact DV h
 | set c =>
   simp only [aY.toInt] at h
   split at h
   ·exact DV h
   cases h
theorem Aw {v : aY} {s : ByteArray} (hv : v.Ok) (h : v.toText = some s) : s.size ≤ 120 := by
 cases v with
 | null => cases h
 | int m =>
   simp only [aY.toText, Option.some.injEq] at h; subst h
   have := jY m (by have := hv.1; omega) (by have := hv.2; omega)
   omega
 | text s => simp only [aY.toText, Option.some.injEq] at h; subst h; exact hv
 | set c =>
   simp only [aY.toText] at h
   split at h
   ·next h1 => simp only [Option.some.injEq] at h; subst h; exact h1
   cases h
theorem TU {op : Int} {a b : aY} (ha : a.Ok) (hb : b.Ok) : (qC op a b).1.Ok := by
 unfold qC
 split
 ·cases h1 : a.toInt with
  | none => simp only [uE]; trivial
  | some x => cases h2 : b.toInt with
    | none => simp only [uE]; trivial
    | some y =>
      simp only [uE]
      split
      ·exact Qs (sw ha h1)
      split
      ·exact sw hb h2
      trivial
 split
 ·split
  ·exact hb
  trivial
 split
 ·cases h1 : a.toText with
  | none => simp only [om]; trivial
  | some x => cases h2 : b.toText with
    | none => simp only [om]; trivial
    | some y =>
      simp only [om]
      split
      ·split
       ·next h => show (x ++ y).size ≤ 120; rw [ByteArray.size_append]; exact h
       trivial
      split
      ·exact Aw hb h2
      trivial
 cases h1 : a.mO with
 | none => simp only [qB]; trivial
 | some x => cases h2 : b.mO with
   | none => simp only [qB]; trivial
   | some y => simp only [qB]; trivial
theorem VU {op : Int} {v : aY} (hv : v.Ok) : (unR op v).1.Ok := by
 unfold unR
 split
 ·split <;> trivial
 split
 ·next n h =>
  have := sw hv h
  show -999999999999 ≤ _ ∧ _ ≤ 999999999999
  split <;> omega
 trivial
def zq (c : ak) : Prop := (jP c).Ok ∧ c.text.size ≤ 1048576
inductive kg : ak → Prop
 | mk {c : ak} (h13 : c.kind = 13 → c.kids.length = 2) (h17 : c.kind = 17 → c.kids.length = 3) (h11 : c.kind = 11 → sU c.op = true ∧ dH c.op ≤ c.kids.length ∧ (c.kids.length : Int) ≤ dM c.op) (hl : zq c) (hk : ∀ x ∈ c.kids, kg x) : kg c
theorem kg.k13 {c : ak} (h : kg c) : c.kind = 13 → c.kids.length = 2 := by cases h; assumption
theorem kg.k17 {c : ak} (h : kg c) : c.kind = 17 → c.kids.length = 3 := by cases h; assumption
theorem kg.k11 {c : ak} (h : kg c) : c.kind = 11 → sU c.op = true ∧ dH c.op ≤ c.kids.length ∧ (c.kids.length : Int) ≤ dM c.op := by cases h; assumption
theorem kg.lit {c : ak} (h : kg c) : zq c := by cases h; assumption
theorem kg.kids {c : ak} (h : kg c) : ∀ x ∈ c.kids, kg x := by cases h; assumption
theorem rM (c : cB) : (dN c).size ≤ 128 := by
 unfold dN strOfNums
 have h1 := pW c 128
 show (_ : Array UInt8).size ≤ 128
 simpa using h1
theorem Qt {v : aY} (hv : v.Ok) (line : Int) : zq (jF line v) := by
 cases v with
 | null => exact ⟨trivial, (nZ _ : (⟨#[]⟩ : ByteArray).size ≤ 1048576)⟩
 | int n => exact ⟨hv, (nZ _ : (⟨#[]⟩ : ByteArray).size ≤ 1048576)⟩
 | text s => exact ⟨hv, by have : s.size ≤ 120 := hv; show s.size ≤ 1048576; omega⟩
 | set c => exact ⟨trivial, by have := rM c; show (dN c).size ≤ 1048576; omega⟩
theorem R5 {c : ak} (hk : ∀ x ∈ c.kids, zq x) : (opR c).1.Ok := by
 unfold opR
 split
 ·next a h => split
              ·exact VU (hk a pV).1
              trivial
 ·next a b h => split
                ·exact TU (hk a pV).1 (hk b pV).1
                trivial
 trivial
theorem Qu {c : ak} (hc : zq c) (hk : ∀ x ∈ c.kids, zq x) : zq (eH c) := by
 unfold eH
 split
 ·unfold lG
  split
  ·split
   ·exact ⟨trivial, (nZ _ : (aC : ByteArray).size ≤ 1048576)⟩
   split
   ·exact Qt (R5 hk) _
   exact hc
  exact hc
 split
 ·unfold tQ
  split
  ·next a b h => split
                 ·exact hk b pV
                 split
                 ·exact hk a pV
                 exact hc
  exact hc
 split
 ·unfold iL
  have hm : ∀ (n i : Nat) (l : List ak), ∀ x ∈ fF n i l, x ∈ l := by
   intro n i l
   induction l generalizing i with
   | nil => intro x hx; simp [fF] at hx
   | cons y l ih =>
     intro x hx
     rw [fF] at hx
     split at hx
     ·rcases mC hx with rfl | hx
      ·exact List.mem_cons_self
      exact List.mem_cons_of_mem _ (ih _ x hx)
     exact List.mem_cons_of_mem _ (ih _ x hx)
  split
  ·next x h => exact hk x (hm _ _ _ x pV)
  exact hc
 split
 ·unfold xN
  split
  ·next a b d h => split
                   ·exact hk b pV
                   split
                   ·exact hk d pV
                   exact hc
  exact hc
 exact hc
theorem wE {c : ak} (h : kg c) : zq (aX c) := by
 refine ak.ind (P := fun c => kg c → zq (aX c)) (fun c ih h => ?_) c h
 rw [pE]
 refine Qu (c := c.with (c.kids.map aX)) h.lit fun x hx => ?_
 obtain ⟨y, hy, rfl⟩ := List.mem_map.1 hx
 exact ih y hy (h.kids y hy)
theorem DW {d : WdT} (c : ak) : ∀ loop create, dW d c loop create = true → kg c := by
 refine ak.ind (P := fun c => ∀ loop create, dW d c loop create = true → kg c) (fun c ih loop create h => ?_) c
 obtain ⟨hn, hk⟩ := (fV d c loop create).1 h
 unfold iI iT at hn
 simp only [Bool.and_eq_true, decide_eq_true_eq] at hn
 obtain ⟨⟨⟨⟨⟨⟨⟨⟨⟨h1, h2⟩, h3⟩, h4⟩, h5⟩, h6⟩, hlf⟩, htx⟩, -⟩, -⟩ := hn
 refine .mk (fun e => ?_) (fun e => ?_) (fun e => ?_) ?_ fun x hx => ?_
 ·rw [e] at h4 h5; simp only [dw, dx] at h4 h5; simp at h4 h5; omega
 ·rw [e] at h4 h5; simp only [dw, dx] at h4 h5; simp at h4 h5; omega
 ·rw [(sV e).1] at h4
  rw [(sV e).2] at h5
  refine ⟨?_, h4, h5⟩
  cases hop : sU c.op with
  | true => rfl
  | false =>
    have : dM c.op = -1 := by simp [dM, hop]
    omega
 ·constructor
  ·unfold jP
   split
   ·next e =>
    unfold fD at hlf
    rw [if_pos e] at hlf
    simp only [inB, Bool.and_eq_true, decide_eq_true_eq] at hlf
    exact hlf
   split
   ·next e =>
    unfold j4 at htx
    rw [if_pos e] at htx
    have := of_decide_eq_true htx
    exact this
   split <;> trivial
  unfold j4 at htx
  split at htx
  ·have := of_decide_eq_true htx; omega
  split at htx
  ·have := uU htx; omega
  have := of_decide_eq_true htx; omega
 exact CF
theorem Bf (n : Nat) : ∀ (l : List ak) (i : Nat), fq (fF n i l) ≤ fq l
 | [], i => by simp [fF]
 | c :: l, i => by
   have := Bf n l (i + 1)
   rw [fF]
   split
   ·simp only [fq]; omega
   simp only [fq]; omega
theorem DX (k n l : Int) (t : ByteArray) (c : ak) : (jM k n l t).nodes ≤ c.nodes := by
 have := c.eG
 simp only [jM, ak.nodes, fq]; omega
theorem DY (c : ak) : (eH c).nodes ≤ c.nodes := by
 have hc := c.eG
 unfold eH
 split
 ·unfold lG
  split
  ·split
   ·exact DX _ _ _ _ _
   split
   ·cases (opR c).1 <;> exact DX _ _ _ _ _
   exact nR _
  exact nR _
 split
 ·unfold tQ
  split
  ·next a b h =>
   rw [h] at hc
   simp only [fq] at hc
   split
   ·omega
   split <;> omega
  exact nR _
 split
 ·unfold iL
  have hk := Bf c.kids.length c.kids 0
  split
  ·next x h => rw [h] at hk; simp only [fq] at hk; omega
  simp only [ak.with, ak.nodes]; omega
 split
 ·unfold xN
  split
  ·next a b d h =>
   rw [h] at hc
   simp only [fq] at hc
   split
   ·omega
   split <;> omega
  exact nR _
 exact nR _
theorem xQ (c : ak) : (aX c).nodes ≤ c.nodes := by
 refine ak.ind (P := fun c => (aX c).nodes ≤ c.nodes) (fun c ih => ?_) c
 rw [pE]
 refine nT (DY _) ?_
 have h : ∀ l : List ak, (∀ x ∈ l, (aX x).nodes ≤ x.nodes) → fq (l.map aX) ≤ fq l := by
  intro l
  induction l with
  | nil => intro _; exact nR _
  | cons y l ih =>
    intro h
    have h1 := h y List.mem_cons_self
    have h2 := ih fun x hx => h x (List.mem_cons_of_mem _ hx)
    simp only [List.map_cons, fq]; omega
 have := h c.kids ih
 have := c.eG
 simp only [ak.with, ak.nodes]; omega
noncomputable def jC (r : bO) : bO := { r with body := aX r.body }
def Ll : bg := ⟨[], [], [], 0⟩
noncomputable def qF (p : bg) : bg := if aS p = true then ⟨p.au.map jC, p.records, p.globals, p.main⟩ else Ll
end
section
open Go.RowKit
theorem TV (x : Value) (c : ak) (w : World) (lo hi : Nat) (hr : gX w lo hi x c) (h : c.kind = 11) : Calls Tryz.prog 72 #[x] w fun e w' => e = .returned (.tuple (aL (dw c.kind c.op) (dx c.kind c.op))) ∧ Below w.heap.size w w' := by
 obtain ⟨A, cap, rfl, -, -, -⟩ := hr.form
 have HV := lH (sV (op := c.op) h)
 have b11 : (c.kind == 11) = true := beq_iff_eq.2 h
 clear h hr
 go_in
 go_wp2_with fail
 refine (xP c.op _).mono ?_; rintro e w1 ⟨rfl, hb1⟩
 exact Jl
theorem TW (x : Value) (c : ak) (w : World) (lo hi : Nat) (hr : gX w lo hi x c) (h : c.kind = 12) : Calls Tryz.prog 72 #[x] w fun e w' => e = .returned (.tuple (aL (dw c.kind c.op) (dx c.kind c.op))) ∧ Below w.heap.size w w' := by
 exact J5
theorem TY (x : Value) (c : ak) (w : World) (lo hi : Nat) (hr : gX w lo hi x c) (h : c.kind = 16) : Calls Tryz.prog 72 #[x] w fun e w' => e = .returned (.tuple (aL (dw c.kind c.op) (dx c.kind c.op))) ∧ Below w.heap.size w w' := by
 obtain ⟨A, cap, rfl, -, -, -⟩ := hr.form
 have HV := lH (GM (op := c.op) h)
 have b11 : (c.kind == 11) = false := bF ah
 have b12 : (c.kind == 12) = false := bF ah
 have b16 : (c.kind == 16) = true := beq_iff_eq.2 h
 exact jy
theorem T4 (x : Value) (c : ak) (w : World) (lo hi : Nat) (hr : gX w lo hi x c) (h : c.kind = 14) : Calls Tryz.prog 72 #[x] w fun e w' => e = .returned (.tuple (aL (dw c.kind c.op) (dx c.kind c.op))) ∧ Below w.heap.size w w' := by
 obtain ⟨A, cap, rfl, -, -, -⟩ := hr.form
 have HV := lH (OQ (op := c.op) h)
 have b11 : (c.kind == 11) = false := bF ah
 have b12 : (c.kind == 12) = false := bF ah
 have b16 : (c.kind == 16) = false := bF ah
 have b14 : (c.kind == 14) = true := beq_iff_eq.2 h
 exact jy
theorem T6 (x : Value) (c : ak) (w : World) (lo hi : Nat) (hr : gX w lo hi x c) (h : c.kind = 20) : Calls Tryz.prog 72 #[x] w fun e w' => e = .returned (.tuple (aL (dw c.kind c.op) (dx c.kind c.op))) ∧ Below w.heap.size w w' := by
 obtain ⟨A, cap, rfl, -, -, -⟩ := hr.form
 have HV := lH (OX (op := c.op) h)
 have b11 : (c.kind == 11) = false := bF ah
 have b12 : (c.kind == 12) = false := bF ah
 have b16 : (c.kind == 16) = false := bF ah
 exact Kg
theorem T7 (x : Value) (c : ak) (w : World) (lo hi : Nat) (hr : gX w lo hi x c) (h : c.kind = 23) : Calls Tryz.prog 72 #[x] w fun e w' => e = .returned (.tuple (aL (dw c.kind c.op) (dx c.kind c.op))) ∧ Below w.heap.size w w' := by
 obtain ⟨A, cap, rfl, -, -, -⟩ := hr.form
 have HV := lH (OZ (op := c.op) h)
 have b11 : (c.kind == 11) = false := bF ah
 have b12 : (c.kind == 12) = false := bF ah
 have b16 : (c.kind == 16) = false := bF ah
 exact J7
theorem T8 (x : Value) (c : ak) (w : World) (lo hi : Nat) (hr : gX w lo hi x c) (h : c.kind = 26) : Calls Tryz.prog 72 #[x] w fun e w' => e = .returned (.tuple (aL (dw c.kind c.op) (dx c.kind c.op))) ∧ Below w.heap.size w w' := by
 obtain ⟨A, cap, rfl, -, -, -⟩ := hr.form
 have HV := lH (O4 (op := c.op) h)
 have b11 : (c.kind == 11) = false := bF ah
 have b12 : (c.kind == 12) = false := bF ah
 have b16 : (c.kind == 16) = false := bF ah
 exact J3
theorem T9 (x : Value) (c : ak) (w : World) (lo hi : Nat) (hr : gX w lo hi x c) (h : c.kind = 27) : Calls Tryz.prog 72 #[x] w fun e w' => e = .returned (.tuple (aL (dw c.kind c.op) (dx c.kind c.op))) ∧ Below w.heap.size w w' := by
 obtain ⟨A, cap, rfl, -, -, -⟩ := hr.form
 have HV := lH (O5 (op := c.op) h)
 have b11 : (c.kind == 11) = false := bF ah
 have b12 : (c.kind == 12) = false := bF ah
 have b16 : (c.kind == 16) = false := bF ah
 exact JW
theorem Ua (x : Value) (c : ak) (w : World) (lo hi : Nat) (hr : gX w lo hi x c) (h : c.kind = 13) : Calls Tryz.prog 72 #[x] w fun e w' => e = .returned (.tuple (aL (dw c.kind c.op) (dx c.kind c.op))) ∧ Below w.heap.size w w' := by
 obtain ⟨A, cap, rfl, -, -, -⟩ := hr.form
 have HV := lH (OP (op := c.op) h)
 have b11 : (c.kind == 11) = false := bF ah
 have b12 : (c.kind == 12) = false := bF ah
 have b16 : (c.kind == 16) = false := bF ah
 have b14 : (c.kind == 14) = false := bF ah
 have b20 : (c.kind == 20) = false := bF ah
 have b23 : (c.kind == 23) = false := bF ah
 have b26 : (c.kind == 26) = false := bF ah
 have b27 : (c.kind == 27) = false := bF ah
 have b13 : (c.kind == 13) = true := beq_iff_eq.2 h
 exact jy
theorem Ub (x : Value) (c : ak) (w : World) (lo hi : Nat) (hr : gX w lo hi x c) (h : c.kind = 15) : Calls Tryz.prog 72 #[x] w fun e w' => e = .returned (.tuple (aL (dw c.kind c.op) (dx c.kind c.op))) ∧ Below w.heap.size w w' := by
 obtain ⟨A, cap, rfl, -, -, -⟩ := hr.form
 have HV := lH (OT (op := c.op) h)
 have b11 : (c.kind == 11) = false := bF ah
 have b12 : (c.kind == 12) = false := bF ah
 have b16 : (c.kind == 16) = false := bF ah
 have b14 : (c.kind == 14) = false := bF ah
 have b20 : (c.kind == 20) = false := bF ah
 have b23 : (c.kind == 23) = false := bF ah
 have b26 : (c.kind == 26) = false := bF ah
 have b27 : (c.kind == 27) = false := bF ah
 exact Kh
theorem Uc (x : Value) (c : ak) (w : World) (lo hi : Nat) (hr : gX w lo hi x c) (h : c.kind = 18) : Calls Tryz.prog 72 #[x] w fun e w' => e = .returned (.tuple (aL (dw c.kind c.op) (dx c.kind c.op))) ∧ Below w.heap.size w w' := by
 obtain ⟨A, cap, rfl, -, -, -⟩ := hr.form
 have HV := lH (OV (op := c.op) h)
 have b11 : (c.kind == 11) = false := bF ah
 have b12 : (c.kind == 12) = false := bF ah
 have b16 : (c.kind == 16) = false := bF ah
 have b14 : (c.kind == 14) = false := bF ah
 have b20 : (c.kind == 20) = false := bF ah
 have b23 : (c.kind == 23) = false := bF ah
 have b26 : (c.kind == 26) = false := bF ah
 have b27 : (c.kind == 27) = false := bF ah
 exact J8
theorem Ud (x : Value) (c : ak) (w : World) (lo hi : Nat) (hr : gX w lo hi x c) (h : c.kind = 19) : Calls Tryz.prog 72 #[x] w fun e w' => e = .returned (.tuple (aL (dw c.kind c.op) (dx c.kind c.op))) ∧ Below w.heap.size w w' := by
 obtain ⟨A, cap, rfl, -, -, -⟩ := hr.form
 have HV := lH (OW (op := c.op) h)
 have b11 : (c.kind == 11) = false := bF ah
 have b12 : (c.kind == 12) = false := bF ah
 have b16 : (c.kind == 16) = false := bF ah
 have b14 : (c.kind == 14) = false := bF ah
 have b20 : (c.kind == 20) = false := bF ah
 have b23 : (c.kind == 23) = false := bF ah
 have b26 : (c.kind == 26) = false := bF ah
 have b27 : (c.kind == 27) = false := bF ah
 exact J4
theorem Ue (x : Value) (c : ak) (w : World) (lo hi : Nat) (hr : gX w lo hi x c) (h : c.kind = 22) : Calls Tryz.prog 72 #[x] w fun e w' => e = .returned (.tuple (aL (dw c.kind c.op) (dx c.kind c.op))) ∧ Below w.heap.size w w' := by
 obtain ⟨A, cap, rfl, -, -, -⟩ := hr.form
 have HV := lH (OY (op := c.op) h)
 have b11 : (c.kind == 11) = false := bF ah
 have b12 : (c.kind == 12) = false := bF ah
 have b16 : (c.kind == 16) = false := bF ah
 have b14 : (c.kind == 14) = false := bF ah
 have b20 : (c.kind == 20) = false := bF ah
 have b23 : (c.kind == 23) = false := bF ah
 have b26 : (c.kind == 26) = false := bF ah
 have b27 : (c.kind == 27) = false := bF ah
 exact JX
theorem Uf (x : Value) (c : ak) (w : World) (lo hi : Nat) (hr : gX w lo hi x c) (h : c.kind = 25) : Calls Tryz.prog 72 #[x] w fun e w' => e = .returned (.tuple (aL (dw c.kind c.op) (dx c.kind c.op))) ∧ Below w.heap.size w w' := by
 obtain ⟨A, cap, rfl, -, -, -⟩ := hr.form
 have HV := lH (O1 (op := c.op) h)
 have b11 : (c.kind == 11) = false := bF ah
 have b12 : (c.kind == 12) = false := bF ah
 have b16 : (c.kind == 16) = false := bF ah
 have b14 : (c.kind == 14) = false := bF ah
 have b20 : (c.kind == 20) = false := bF ah
 have b23 : (c.kind == 23) = false := bF ah
 have b26 : (c.kind == 26) = false := bF ah
 have b27 : (c.kind == 27) = false := bF ah
 exact JU
theorem Ug (x : Value) (c : ak) (w : World) (lo hi : Nat) (hr : gX w lo hi x c) (h : c.kind = 17) : Calls Tryz.prog 72 #[x] w fun e w' => e = .returned (.tuple (aL (dw c.kind c.op) (dx c.kind c.op))) ∧ Below w.heap.size w w' := by
 obtain ⟨A, cap, rfl, -, -, -⟩ := hr.form
 have HV := lH (OU (op := c.op) h)
 have b11 : (c.kind == 11) = false := bF ah
 have b12 : (c.kind == 12) = false := bF ah
 have b16 : (c.kind == 16) = false := bF ah
 have b14 : (c.kind == 14) = false := bF ah
 have b20 : (c.kind == 20) = false := bF ah
 have b23 : (c.kind == 23) = false := bF ah
 have b26 : (c.kind == 26) = false := bF ah
 have b27 : (c.kind == 27) = false := bF ah
 have b13 : (c.kind == 13) = false := bF ah
 have b15 : (c.kind == 15) = false := bF ah
 have b18 : (c.kind == 18) = false := bF ah
 have b19 : (c.kind == 19) = false := bF ah
 have b22 : (c.kind == 22) = false := bF ah
 have b25 : (c.kind == 25) = false := bF ah
 have b17 : (c.kind == 17) = true := beq_iff_eq.2 h
 exact jy
theorem Uh (x : Value) (c : ak) (w : World) (lo hi : Nat) (hr : gX w lo hi x c) (h : ¬ (c.kind = 11 ∨ c.kind = 12 ∨ c.kind = 13 ∨ c.kind = 14 ∨ c.kind = 15 ∨ c.kind = 16 ∨ c.kind = 17 ∨ c.kind = 18 ∨ c.kind = 19 ∨ c.kind = 20 ∨ c.kind = 22 ∨ c.kind = 23 ∨ c.kind = 25 ∨ c.kind = 26 ∨ c.kind = 27)) : Calls Tryz.prog 72 #[x] w fun e w' => e = .returned (.tuple (aL (dw c.kind c.op) (dx c.kind c.op))) ∧ Below w.heap.size w w' := by
 obtain ⟨A, cap, rfl, -, -, -⟩ := hr.form
 have HV := lH (rX (op := c.op) h)
 simp only [not_or] at h
 obtain ⟨h11, h12, h13, h14, h15, h16, h17, h18, h19, h20, h22, h23, h25, h26, h27⟩ := h
 have b11 : (c.kind == 11) = false := bF (h11)
 have b12 : (c.kind == 12) = false := bF (h12)
 have b16 : (c.kind == 16) = false := bF (h16)
 have b14 : (c.kind == 14) = false := bF (h14)
 have b20 : (c.kind == 20) = false := bF (h20)
 have b23 : (c.kind == 23) = false := bF (h23)
 have b26 : (c.kind == 26) = false := bF (h26)
 have b27 : (c.kind == 27) = false := bF (h27)
 have b13 : (c.kind == 13) = false := bF (h13)
 have b15 : (c.kind == 15) = false := bF (h15)
 have b18 : (c.kind == 18) = false := bF (h18)
 have b19 : (c.kind == 19) = false := bF (h19)
 have b22 : (c.kind == 22) = false := bF (h22)
 have b25 : (c.kind == 25) = false := bF (h25)
 exact Ke
theorem Qv (x : Value) (c : ak) (w : World) (lo hi : Nat) (hr : gX w lo hi x c) : Calls Tryz.prog 72 #[x] w fun e w' => e = .returned (.tuple (aL (dw c.kind c.op) (dx c.kind c.op))) ∧ Below w.heap.size w w' := by
 by_cases h11 : c.kind = 11
 ·exact TV x c w lo hi hr h11
 by_cases h12 : c.kind = 12
 ·exact TW x c w lo hi hr h12
 by_cases h16 : c.kind = 16
 ·exact TY x c w lo hi hr h16
 by_cases h14 : c.kind = 14
 ·exact T4 x c w lo hi hr h14
 by_cases h20 : c.kind = 20
 ·exact T6 x c w lo hi hr h20
 by_cases h23 : c.kind = 23
 ·exact T7 x c w lo hi hr h23
 by_cases h26 : c.kind = 26
 ·exact T8 x c w lo hi hr h26
 by_cases h27 : c.kind = 27
 ·exact T9 x c w lo hi hr h27
 by_cases h13 : c.kind = 13
 ·exact Ua x c w lo hi hr h13
 by_cases h15 : c.kind = 15
 ·exact Ub x c w lo hi hr h15
 by_cases h18 : c.kind = 18
 ·exact Uc x c w lo hi hr h18
 by_cases h19 : c.kind = 19
 ·exact Ud x c w lo hi hr h19
 by_cases h22 : c.kind = 22
 ·exact Ue x c w lo hi hr h22
 by_cases h25 : c.kind = 25
 ·exact Uf x c w lo hi hr h25
 by_cases h17 : c.kind = 17
 ·exact Ug x c w lo hi hr h17
 exact Uh x c w lo hi hr OJ
end
end Go.Proofs.YthbcamfejgghhaaGreatDoor
