/- validInstr of the program. -/
import Derived.Test.YtekobbeoaalibaaGreatDoorInsDefs
import Derived.Test.YtekobbeoaalibaaGreatDoorVerMem
import Derived.Test.YtekobbeoaalibaaGreatDoorArI
namespace Go.Proofs.YtekobbeoaalibaaGreatDoor
open Go.RowKit
set_option linter.unusedVariables false

def withinB (a n : Int) : Bool := decide (0 ≤ a) && decide (a < n)
set_option maxRecDepth 100000 in
theorem impl_within (n a : Int) (b : Nat) (t : TypeId) (cs : Array Value) (w : World) (hb : Blk w b t cs) (hc : cs[1]? = some (.int .i64 a)) :
    Calls Tryz.prog 120 #[.int .i64 n, .pointer (some ⟨b, 0, none⟩)] w fun e w' => e = .returned (.bool (withinB a n)) ∧ w = w' := by
  have ca : w.cell? ⟨b, 1, none⟩ = some (.int .i64 a) := by rw [hb.cell, hc]
  have la := hb.lt
  go_enter Tryz.func120, Tryz.ntmps120
  go_wp2_with fail
  all_goals
    go_ret
    exact ⟨ret_bool (by unfold withinB; rw [Bool.eq_iff_iff]; simp; try omega), rfl⟩
def InsOkI (c : CodeT) (x : InsT) : Prop := ∀ (vc vx : Value) (w : World) (lo hi lo' hi' : Nat), SRep w lo hi CodeT.dats vc c → SRep w lo' hi' InsT.dats vx x → x.text.size ≤ 1048576 → SpaceTab w →
  Calls Tryz.prog 90 #[vc, vx] w fun e w' => e = .returned (.bool (insOk (codeD c) c.instrs.length x)) ∧ Below w.heap.size w w'
theorem emptyB (s : ByteArray) : s.toList.isEmpty = decide (s.size = 0) := by
  by_cases h : s.size = 0
  · rw [eEmpty h, decide_eq_true h]
  · rw [eFull h, decide_eq_false h]
theorem ins_eq {d : WdT} {n : Nat} {x : InsT} {A B T : Bool} (h0 : 1 ≤ x.op) (h1 : x.op ≤ 30) (h2 : 0 ≤ x.line) (hT : insText x = T) (hB : insB x = B) (hA : insA d n x = A) : insOk d n x = ((A && B) && T) := by
  rw [insOk, decide_eq_true (⟨h0, h1⟩ : 1 ≤ x.op ∧ x.op ≤ 30), decide_eq_true h2, hT, hB, hA]
  cases A <;> cases B <;> cases T <;> rfl
theorem in_within (a n : Int) : inB a 0 (n - 1) = withinB a n := by
  unfold inB withinB
  congr 1
  rw [Bool.eq_iff_iff, decide_eq_true_eq, decide_eq_true_eq]; omega
theorem in_two (a : Int) : inB a 1 2 = (decide (a = 1) || decide (a = 2)) := by
  unfold inB
  rw [Bool.eq_iff_iff]
  simp only [Bool.and_eq_true, Bool.or_eq_true, decide_eq_true_eq]; omega
theorem ar_drop {lo hi b : Int} {T : Bool} : ((true && decide (lo ≤ b ∧ b ≤ hi)) && T) = ((decide (lo ≤ hi) && (decide (lo ≤ b) && decide (b ≤ hi))) && T) := by
  congr 1
  rw [Bool.eq_iff_iff]
  simp only [Bool.and_eq_true, Bool.true_and, decide_eq_true_eq]; omega
set_option maxRecDepth 100000 in
set_option maxHeartbeats 2000000 in
theorem vi_1 (c : CodeT) (x : InsT) (k : x.op = 1) (h2 : 0 ≤ x.line) : InsOkI c x := by
  intro vc vx w lo hi lo' hi' hc hx ht hst
  obtain ⟨Aroutines, nroutines, Arecords, nrecords, Aglobals, nglobals, Ainstrs, ninstrs, rfl, hr, ur, mr, hd, ud, md, hg, ug, mg, hi1, ui, mi⟩ := CodeT.form hc
  obtain rfl := InsT.form hx
  unfold maxLen at mr md mg mi
  clear hr hd hg hi1 hc hx
  have HV : Hid (insOk (codeD c) c.instrs.length x = (((decide (-999999999999 ≤ x.a) && decide (x.a ≤ 999999999999)) && decide (x.b = 0)) && decide (x.text.size = 0))) := by
    show _ = _
    exact ins_eq (by omega) (by omega) h2 (by rw [insText, k]; rfl) (by rw [insB, k]; rfl) (by rw [insA, k]; rfl)
  have hmf : ∀ (fn : Fn) (first cap : Array Value) (w : World), (Instr.makeFunc fn first cap).run Tryz.prog w = .ok (.func fn first cap) w := fun _ _ _ _ => rfl
  have HE := Lib.hid (emptyB x.text)
  rw [k]
  clear k
  go_enter Tryz.func90, Tryz.ntmps90
  go_wp2_with fail
  all_goals
    refine (impl_isLabel 1 _).mono ?_; rw [show jumpB 1 = false from rfl]; rintro e w1 ⟨rfl, rfl⟩
    go_wp2_with fail
  all_goals
    go_ret
    refine ⟨ret_bool ?_, ((Below.refl _ _).alloc (Nat.le_refl _) _).alloc (by simp) _⟩
    rw [HV.out]
    first | (rw [HE.out]; simp [*]; done) | (simp [*]; done) | (rw [HE.out]; simp [*]; omega) | (simp [*]; omega)
set_option maxRecDepth 100000 in
set_option maxHeartbeats 2000000 in
theorem vi_2 (c : CodeT) (x : InsT) (k : x.op = 2) (h2 : 0 ≤ x.line) : InsOkI c x := by
  intro vc vx w lo hi lo' hi' hc hx ht hst
  obtain ⟨Aroutines, nroutines, Arecords, nrecords, Aglobals, nglobals, Ainstrs, ninstrs, rfl, hr, ur, mr, hd, ud, md, hg, ug, mg, hi1, ui, mi⟩ := CodeT.form hc
  obtain rfl := InsT.form hx
  unfold maxLen at mr md mg mi
  clear hr hd hg hi1 hc hx
  have HV : Hid (insOk (codeD c) c.instrs.length x = ((decide (x.a = 0) && decide (x.b = 0)) && decide (x.text.size ≤ 120))) := by
    show _ = _
    exact ins_eq (by omega) (by omega) h2 (by rw [insText, k]; rfl) (by rw [insB, k]; rfl) (by rw [insA, k]; rfl)
  have hmf : ∀ (fn : Fn) (first cap : Array Value) (w : World), (Instr.makeFunc fn first cap).run Tryz.prog w = .ok (.func fn first cap) w := fun _ _ _ _ => rfl
  have HE := Lib.hid (emptyB x.text)
  rw [k]
  clear k
  go_enter Tryz.func90, Tryz.ntmps90
  go_wp2_with fail
  all_goals
    refine (impl_isLabel 2 _).mono ?_; rw [show jumpB 2 = false from rfl]; rintro e w1 ⟨rfl, rfl⟩
    go_wp2_with fail
  all_goals
    go_ret
    refine ⟨ret_bool ?_, ((Below.refl _ _).alloc (Nat.le_refl _) _).alloc (by simp) _⟩
    rw [HV.out]
    first | (rw [HE.out]; simp [*]; done) | (simp [*]; done) | (rw [HE.out]; simp [*]; omega) | (simp [*]; omega)
set_option maxRecDepth 100000 in
set_option maxHeartbeats 2000000 in
theorem vi_3 (c : CodeT) (x : InsT) (k : x.op = 3) (h2 : 0 ≤ x.line) : InsOkI c x := by
  intro vc vx w lo hi lo' hi' hc hx ht hst
  obtain ⟨Aroutines, nroutines, Arecords, nrecords, Aglobals, nglobals, Ainstrs, ninstrs, rfl, hr, ur, mr, hd, ud, md, hg, ug, mg, hi1, ui, mi⟩ := CodeT.form hc
  obtain rfl := InsT.form hx
  unfold maxLen at mr md mg mi
  clear hr hd hg hi1 hc hx
  have HV : Hid (insOk (codeD c) c.instrs.length x = ((decide (x.a = 0) && decide (x.b = 0)) && csetOk x.text)) := by
    show _ = _
    exact ins_eq (by omega) (by omega) h2 (by rw [insText, k]; rfl) (by rw [insB, k]; rfl) (by rw [insA, k]; rfl)
  have hmf : ∀ (fn : Fn) (first cap : Array Value) (w : World), (Instr.makeFunc fn first cap).run Tryz.prog w = .ok (.func fn first cap) w := fun _ _ _ _ => rfl
  have HE := Lib.hid (emptyB x.text)
  rw [k]
  clear k
  go_enter Tryz.func90, Tryz.ntmps90
  go_wp2_with fail
  refine (impl_isCsetText x.text _ ht).mono ?_; rintro e w3 ⟨rfl, hs3⟩
  have a1 := (Blk.newAt (w.alloc (.cells #[.slice Aroutines c.routines.length nroutines, .slice Arecords c.records.length nrecords, .slice Aglobals c.globals.length nglobals, .int .i64 c.main, .slice Ainstrs c.instrs.length ninstrs] 34)) 79 #[.int .i64 3, .int .i64 x.a, .int .i64 x.b, .int .i64 x.line, .string x.text] (w.heap.size + 1) (by simp)).same hs3
  have hw3 : Below w.heap.size w w3 := (((Below.refl _ _).alloc (Nat.le_refl _) _).alloc (by simp) _).trans (hs3.below w.heap.size)
  have ca := a1.cell
  have la := a1.lt
  go_wp2_with fail
  all_goals
    refine (impl_isLabel 3 _).mono ?_; rw [show jumpB 3 = false from rfl]; rintro e w1 ⟨rfl, rfl⟩
    go_wp2_with fail
  all_goals
    go_ret
    refine ⟨ret_bool ?_, hw3⟩
    rw [HV.out]
    first | (rw [HE.out]; simp [*]; done) | (simp [*]; done) | (rw [HE.out]; simp [*]; omega) | (simp [*]; omega)
set_option maxRecDepth 100000 in
set_option maxHeartbeats 2000000 in
theorem vi_4 (c : CodeT) (x : InsT) (k : x.op = 4) (h2 : 0 ≤ x.line) : InsOkI c x := by
  intro vc vx w lo hi lo' hi' hc hx ht hst
  obtain ⟨Aroutines, nroutines, Arecords, nrecords, Aglobals, nglobals, Ainstrs, ninstrs, rfl, hr, ur, mr, hd, ud, md, hg, ug, mg, hi1, ui, mi⟩ := CodeT.form hc
  obtain rfl := InsT.form hx
  unfold maxLen at mr md mg mi
  clear hr hd hg hi1 hc hx
  have HV : Hid (insOk (codeD c) c.instrs.length x = ((decide (x.a = 0) && decide (x.b = 0)) && decide (x.text.size = 0))) := by
    show _ = _
    exact ins_eq (by omega) (by omega) h2 (by rw [insText, k]; rfl) (by rw [insB, k]; rfl) (by rw [insA, k]; rfl)
  have hmf : ∀ (fn : Fn) (first cap : Array Value) (w : World), (Instr.makeFunc fn first cap).run Tryz.prog w = .ok (.func fn first cap) w := fun _ _ _ _ => rfl
  have HE := Lib.hid (emptyB x.text)
  rw [k]
  clear k
  go_enter Tryz.func90, Tryz.ntmps90
  go_wp2_with fail
  all_goals
    refine (impl_isLabel 4 _).mono ?_; rw [show jumpB 4 = false from rfl]; rintro e w1 ⟨rfl, rfl⟩
    go_wp2_with fail
  all_goals
    go_ret
    refine ⟨ret_bool ?_, ((Below.refl _ _).alloc (Nat.le_refl _) _).alloc (by simp) _⟩
    rw [HV.out]
    first | (rw [HE.out]; simp [*]; done) | (simp [*]; done) | (rw [HE.out]; simp [*]; omega) | (simp [*]; omega)
set_option maxRecDepth 100000 in
set_option maxHeartbeats 2000000 in
theorem vi_5 (c : CodeT) (x : InsT) (k : x.op = 5) (h2 : 0 ≤ x.line) : InsOkI c x := by
  intro vc vx w lo hi lo' hi' hc hx ht hst
  obtain ⟨Aroutines, nroutines, Arecords, nrecords, Aglobals, nglobals, Ainstrs, ninstrs, rfl, hr, ur, mr, hd, ud, md, hg, ug, mg, hi1, ui, mi⟩ := CodeT.form hc
  obtain rfl := InsT.form hx
  unfold maxLen at mr md mg mi
  clear hr hd hg hi1 hc hx
  have HV : Hid (insOk (codeD c) c.instrs.length x = ((withinB x.a 24 && decide (x.b = 0)) && decide (x.text.size = 0))) := by
    show _ = _
    exact ins_eq (by omega) (by omega) h2 (by rw [insText, k]; rfl) (by rw [insB, k]; rfl) (by rw [insA, k]; exact in_within x.a 24)
  have hmf : ∀ (fn : Fn) (first cap : Array Value) (w : World), (Instr.makeFunc fn first cap).run Tryz.prog w = .ok (.func fn first cap) w := fun _ _ _ _ => rfl
  have HE := Lib.hid (emptyB x.text)
  rw [k]
  clear k
  go_enter Tryz.func90, Tryz.ntmps90
  go_wp2_with fail
  all_goals
    have a1 := Blk.newAt (w.alloc (.cells #[.slice Aroutines c.routines.length nroutines, .slice Arecords c.records.length nrecords, .slice Aglobals c.globals.length nglobals, .int .i64 c.main, .slice Ainstrs c.instrs.length ninstrs] 34)) 79 #[.int .i64 5, .int .i64 x.a, .int .i64 x.b, .int .i64 x.line, .string x.text] (w.heap.size + 1) (by simp)
    refine (impl_within 24 x.a _ _ _ _ a1 rfl).mono ?_; rintro e w3 ⟨rfl, rfl⟩
    go_wp2_with fail
  all_goals
    refine (impl_isLabel 5 _).mono ?_; rw [show jumpB 5 = false from rfl]; rintro e w1 ⟨rfl, rfl⟩
    go_wp2_with fail
  all_goals
    go_ret
    refine ⟨ret_bool ?_, ((Below.refl _ _).alloc (Nat.le_refl _) _).alloc (by simp) _⟩
    rw [HV.out]
    first | (rw [HE.out]; simp [*]; done) | (simp [*]; done) | (rw [HE.out]; simp [*]; omega) | (simp [*]; omega)
set_option maxRecDepth 100000 in
set_option maxHeartbeats 2000000 in
theorem vi_6 (c : CodeT) (x : InsT) (k : x.op = 6) (h2 : 0 ≤ x.line) : InsOkI c x := by
  intro vc vx w lo hi lo' hi' hc hx ht hst
  obtain ⟨Aroutines, nroutines, Arecords, nrecords, Aglobals, nglobals, Ainstrs, ninstrs, rfl, hr, ur, mr, hd, ud, md, hg, ug, mg, hi1, ui, mi⟩ := CodeT.form hc
  obtain rfl := InsT.form hx
  unfold maxLen at mr md mg mi
  clear hr hd hg hi1 hc hx
  have HV : Hid (insOk (codeD c) c.instrs.length x = ((withinB x.a (c.globals.length : Int) && decide (x.b = 0)) && decide (x.text.size = 0))) := by
    show _ = _
    exact ins_eq (by omega) (by omega) h2 (by rw [insText, k]; rfl) (by rw [insB, k]; rfl) (by rw [insA, k]; exact in_within x.a (c.globals.length : Int))
  have hmf : ∀ (fn : Fn) (first cap : Array Value) (w : World), (Instr.makeFunc fn first cap).run Tryz.prog w = .ok (.func fn first cap) w := fun _ _ _ _ => rfl
  have HE := Lib.hid (emptyB x.text)
  rw [k]
  clear k
  go_enter Tryz.func90, Tryz.ntmps90
  go_wp2_with fail
  all_goals
    have a1 := Blk.newAt (w.alloc (.cells #[.slice Aroutines c.routines.length nroutines, .slice Arecords c.records.length nrecords, .slice Aglobals c.globals.length nglobals, .int .i64 c.main, .slice Ainstrs c.instrs.length ninstrs] 34)) 79 #[.int .i64 6, .int .i64 x.a, .int .i64 x.b, .int .i64 x.line, .string x.text] (w.heap.size + 1) (by simp)
    refine (impl_within (c.globals.length : Int) x.a _ _ _ _ a1 rfl).mono ?_; rintro e w3 ⟨rfl, rfl⟩
    go_wp2_with fail
  all_goals
    refine (impl_isLabel 6 _).mono ?_; rw [show jumpB 6 = false from rfl]; rintro e w1 ⟨rfl, rfl⟩
    go_wp2_with fail
  all_goals
    go_ret
    refine ⟨ret_bool ?_, ((Below.refl _ _).alloc (Nat.le_refl _) _).alloc (by simp) _⟩
    rw [HV.out]
    first | (rw [HE.out]; simp [*]; done) | (simp [*]; done) | (rw [HE.out]; simp [*]; omega) | (simp [*]; omega)
set_option maxRecDepth 100000 in
set_option maxHeartbeats 2000000 in
theorem vi_7 (c : CodeT) (x : InsT) (k : x.op = 7) (h2 : 0 ≤ x.line) : InsOkI c x := by
  intro vc vx w lo hi lo' hi' hc hx ht hst
  obtain ⟨Aroutines, nroutines, Arecords, nrecords, Aglobals, nglobals, Ainstrs, ninstrs, rfl, hr, ur, mr, hd, ud, md, hg, ug, mg, hi1, ui, mi⟩ := CodeT.form hc
  obtain rfl := InsT.form hx
  unfold maxLen at mr md mg mi
  clear hr hd hg hi1 hc hx
  have HV : Hid (insOk (codeD c) c.instrs.length x = ((withinB x.a (c.routines.length : Int) && decide (x.b = 0)) && decide (x.text.size = 0))) := by
    show _ = _
    exact ins_eq (by omega) (by omega) h2 (by rw [insText, k]; rfl) (by rw [insB, k]; rfl) (by rw [insA, k]; exact in_within x.a (c.routines.length : Int))
  have hmf : ∀ (fn : Fn) (first cap : Array Value) (w : World), (Instr.makeFunc fn first cap).run Tryz.prog w = .ok (.func fn first cap) w := fun _ _ _ _ => rfl
  have HE := Lib.hid (emptyB x.text)
  rw [k]
  clear k
  go_enter Tryz.func90, Tryz.ntmps90
  go_wp2_with fail
  all_goals
    have a1 := Blk.newAt (w.alloc (.cells #[.slice Aroutines c.routines.length nroutines, .slice Arecords c.records.length nrecords, .slice Aglobals c.globals.length nglobals, .int .i64 c.main, .slice Ainstrs c.instrs.length ninstrs] 34)) 79 #[.int .i64 7, .int .i64 x.a, .int .i64 x.b, .int .i64 x.line, .string x.text] (w.heap.size + 1) (by simp)
    refine (impl_within (c.routines.length : Int) x.a _ _ _ _ a1 rfl).mono ?_; rintro e w3 ⟨rfl, rfl⟩
    go_wp2_with fail
  all_goals
    refine (impl_isLabel 7 _).mono ?_; rw [show jumpB 7 = false from rfl]; rintro e w1 ⟨rfl, rfl⟩
    go_wp2_with fail
  all_goals
    go_ret
    refine ⟨ret_bool ?_, ((Below.refl _ _).alloc (Nat.le_refl _) _).alloc (by simp) _⟩
    rw [HV.out]
    first | (rw [HE.out]; simp [*]; done) | (simp [*]; done) | (rw [HE.out]; simp [*]; omega) | (simp [*]; omega)
set_option maxRecDepth 100000 in
set_option maxHeartbeats 2000000 in
theorem vi_8 (c : CodeT) (x : InsT) (k : x.op = 8) (h2 : 0 ≤ x.line) : InsOkI c x := by
  intro vc vx w lo hi lo' hi' hc hx ht hst
  obtain ⟨Aroutines, nroutines, Arecords, nrecords, Aglobals, nglobals, Ainstrs, ninstrs, rfl, hr, ur, mr, hd, ud, md, hg, ug, mg, hi1, ui, mi⟩ := CodeT.form hc
  obtain rfl := InsT.form hx
  unfold maxLen at mr md mg mi
  clear hr hd hg hi1 hc hx
  have HV : Hid (insOk (codeD c) c.instrs.length x = ((withinB x.a 55 && decide (x.b = 0)) && decide (x.text.size = 0))) := by
    show _ = _
    exact ins_eq (by omega) (by omega) h2 (by rw [insText, k]; rfl) (by rw [insB, k]; rfl) (by rw [insA, k]; exact in_within x.a 55)
  have hmf : ∀ (fn : Fn) (first cap : Array Value) (w : World), (Instr.makeFunc fn first cap).run Tryz.prog w = .ok (.func fn first cap) w := fun _ _ _ _ => rfl
  have HE := Lib.hid (emptyB x.text)
  rw [k]
  clear k
  go_enter Tryz.func90, Tryz.ntmps90
  go_wp2_with fail
  all_goals
    have a1 := Blk.newAt (w.alloc (.cells #[.slice Aroutines c.routines.length nroutines, .slice Arecords c.records.length nrecords, .slice Aglobals c.globals.length nglobals, .int .i64 c.main, .slice Ainstrs c.instrs.length ninstrs] 34)) 79 #[.int .i64 8, .int .i64 x.a, .int .i64 x.b, .int .i64 x.line, .string x.text] (w.heap.size + 1) (by simp)
    refine (impl_within 55 x.a _ _ _ _ a1 rfl).mono ?_; rintro e w3 ⟨rfl, rfl⟩
    go_wp2_with fail
  all_goals
    refine (impl_isLabel 8 _).mono ?_; rw [show jumpB 8 = false from rfl]; rintro e w1 ⟨rfl, rfl⟩
    go_wp2_with fail
  all_goals
    go_ret
    refine ⟨ret_bool ?_, ((Below.refl _ _).alloc (Nat.le_refl _) _).alloc (by simp) _⟩
    rw [HV.out]
    first | (rw [HE.out]; simp [*]; done) | (simp [*]; done) | (rw [HE.out]; simp [*]; omega) | (simp [*]; omega)
set_option maxRecDepth 100000 in
set_option maxHeartbeats 2000000 in
theorem vi_9 (c : CodeT) (x : InsT) (k : x.op = 9) (h2 : 0 ≤ x.line) : InsOkI c x := by
  intro vc vx w lo hi lo' hi' hc hx ht hst
  obtain ⟨Aroutines, nroutines, Arecords, nrecords, Aglobals, nglobals, Ainstrs, ninstrs, rfl, hr, ur, mr, hd, ud, md, hg, ug, mg, hi1, ui, mi⟩ := CodeT.form hc
  obtain rfl := InsT.form hx
  unfold maxLen at mr md mg mi
  clear hr hd hg hi1 hc hx
  have HV : Hid (insOk (codeD c) c.instrs.length x = ((withinB x.a (c.records.length : Int) && decide (x.b = 0)) && decide (x.text.size = 0))) := by
    show _ = _
    exact ins_eq (by omega) (by omega) h2 (by rw [insText, k]; rfl) (by rw [insB, k]; rfl) (by rw [insA, k]; exact in_within x.a (c.records.length : Int))
  have hmf : ∀ (fn : Fn) (first cap : Array Value) (w : World), (Instr.makeFunc fn first cap).run Tryz.prog w = .ok (.func fn first cap) w := fun _ _ _ _ => rfl
  have HE := Lib.hid (emptyB x.text)
  rw [k]
  clear k
  go_enter Tryz.func90, Tryz.ntmps90
  go_wp2_with fail
  all_goals
    have a1 := Blk.newAt (w.alloc (.cells #[.slice Aroutines c.routines.length nroutines, .slice Arecords c.records.length nrecords, .slice Aglobals c.globals.length nglobals, .int .i64 c.main, .slice Ainstrs c.instrs.length ninstrs] 34)) 79 #[.int .i64 9, .int .i64 x.a, .int .i64 x.b, .int .i64 x.line, .string x.text] (w.heap.size + 1) (by simp)
    refine (impl_within (c.records.length : Int) x.a _ _ _ _ a1 rfl).mono ?_; rintro e w3 ⟨rfl, rfl⟩
    go_wp2_with fail
  all_goals
    refine (impl_isLabel 9 _).mono ?_; rw [show jumpB 9 = false from rfl]; rintro e w1 ⟨rfl, rfl⟩
    go_wp2_with fail
  all_goals
    go_ret
    refine ⟨ret_bool ?_, ((Below.refl _ _).alloc (Nat.le_refl _) _).alloc (by simp) _⟩
    rw [HV.out]
    first | (rw [HE.out]; simp [*]; done) | (simp [*]; done) | (rw [HE.out]; simp [*]; omega) | (simp [*]; omega)
set_option maxRecDepth 100000 in
set_option maxHeartbeats 2000000 in
theorem vi_10 (c : CodeT) (x : InsT) (k : x.op = 10) (h2 : 0 ≤ x.line) : InsOkI c x := by
  intro vc vx w lo hi lo' hi' hc hx ht hst
  obtain ⟨Aroutines, nroutines, Arecords, nrecords, Aglobals, nglobals, Ainstrs, ninstrs, rfl, hr, ur, mr, hd, ud, md, hg, ug, mg, hi1, ui, mi⟩ := CodeT.form hc
  obtain rfl := InsT.form hx
  unfold maxLen at mr md mg mi
  clear hr hd hg hi1 hc hx
  have HV : Hid (insOk (codeD c) c.instrs.length x = (((decide (x.a = 1) || decide (x.a = 2)) && decide (x.b = 0)) && decide (x.text.size = 0))) := by
    show _ = _
    exact ins_eq (by omega) (by omega) h2 (by rw [insText, k]; rfl) (by rw [insB, k]; rfl) (by rw [insA, k]; exact in_two x.a)
  have hmf : ∀ (fn : Fn) (first cap : Array Value) (w : World), (Instr.makeFunc fn first cap).run Tryz.prog w = .ok (.func fn first cap) w := fun _ _ _ _ => rfl
  have HE := Lib.hid (emptyB x.text)
  rw [k]
  clear k
  go_enter Tryz.func90, Tryz.ntmps90
  go_wp2_with fail
  all_goals
    refine (impl_isLabel 10 _).mono ?_; rw [show jumpB 10 = false from rfl]; rintro e w1 ⟨rfl, rfl⟩
    go_wp2_with fail
  all_goals
    go_ret
    refine ⟨ret_bool ?_, ((Below.refl _ _).alloc (Nat.le_refl _) _).alloc (by simp) _⟩
    rw [HV.out]
    first | (rw [HE.out]; simp [*]; done) | (simp [*]; done) | (rw [HE.out]; simp [*]; omega) | (simp [*]; omega)
set_option maxRecDepth 100000 in
set_option maxHeartbeats 2000000 in
theorem vi_11 (c : CodeT) (x : InsT) (k : x.op = 11) (h2 : 0 ≤ x.line) : InsOkI c x := by
  intro vc vx w lo hi lo' hi' hc hx ht hst
  obtain ⟨Aroutines, nroutines, Arecords, nrecords, Aglobals, nglobals, Ainstrs, ninstrs, rfl, hr, ur, mr, hd, ud, md, hg, ug, mg, hi1, ui, mi⟩ := CodeT.form hc
  obtain rfl := InsT.form hx
  unfold maxLen at mr md mg mi
  clear hr hd hg hi1 hc hx
  have HV : Hid (insOk (codeD c) c.instrs.length x = ((decide (arityLo x.a ≤ arityHi x.a) && (decide (arityLo x.a ≤ x.b) && decide (x.b ≤ arityHi x.a))) && decide (x.text.size = 0))) := by
    show _ = _
    rw [← ar_drop]
    exact ins_eq (by omega) (by omega) h2 (by rw [insText, k]; rfl) (by rw [insB, k]; rfl) (by rw [insA, k]; rfl)
  have hmf : ∀ (fn : Fn) (first cap : Array Value) (w : World), (Instr.makeFunc fn first cap).run Tryz.prog w = .ok (.func fn first cap) w := fun _ _ _ _ => rfl
  have HE := Lib.hid (emptyB x.text)
  rw [k]
  clear k
  go_enter Tryz.func90, Tryz.ntmps90
  go_wp2_with fail
  refine (impl_OperatorArity x.a _ (hst.below (((Below.refl _ _).alloc (Nat.le_refl _) _).alloc (by simp) _) hst.2)).mono ?_; rintro e w3 ⟨rfl, hb3⟩
  have a1 := (Blk.newAt (w.alloc (.cells #[.slice Aroutines c.routines.length nroutines, .slice Arecords c.records.length nrecords, .slice Aglobals c.globals.length nglobals, .int .i64 c.main, .slice Ainstrs c.instrs.length ninstrs] 34)) 79 #[.int .i64 11, .int .i64 x.a, .int .i64 x.b, .int .i64 x.line, .string x.text] (w.heap.size + 1) (by simp)).later hb3
  have hw3 : Below w.heap.size w w3 := (((Below.refl _ _).alloc (Nat.le_refl _) _).alloc (by simp) _).trans (hb3.mono (by simp; omega))
  have ca := a1.cell
  have la := a1.lt
  go_wp2_with fail
  all_goals
    refine (impl_isLabel 11 _).mono ?_; rw [show jumpB 11 = false from rfl]; rintro e w1 ⟨rfl, rfl⟩
    go_wp2_with fail
  all_goals
    go_ret
    refine ⟨ret_bool ?_, hw3⟩
    rw [HV.out]
    first | (rw [HE.out]; simp [*]; done) | (simp [*]; done) | (rw [HE.out]; simp [*]; omega) | (simp [*]; omega)
set_option maxRecDepth 100000 in
set_option maxHeartbeats 2000000 in
theorem vi_12 (c : CodeT) (x : InsT) (k : x.op = 12) (h2 : 0 ≤ x.line) : InsOkI c x := by
  intro vc vx w lo hi lo' hi' hc hx ht hst
  obtain ⟨Aroutines, nroutines, Arecords, nrecords, Aglobals, nglobals, Ainstrs, ninstrs, rfl, hr, ur, mr, hd, ud, md, hg, ug, mg, hi1, ui, mi⟩ := CodeT.form hc
  obtain rfl := InsT.form hx
  unfold maxLen at mr md mg mi
  clear hr hd hg hi1 hc hx
  have HV : Hid (insOk (codeD c) c.instrs.length x = ((decide (x.a = 0) && (decide (1 ≤ x.b) && decide (x.b ≤ 9))) && decide (x.text.size = 0))) := by
    show _ = _
    exact ins_eq (by omega) (by omega) h2 (by rw [insText, k]; rfl) (by rw [insB, k]; rfl) (by rw [insA, k]; rfl)
  have hmf : ∀ (fn : Fn) (first cap : Array Value) (w : World), (Instr.makeFunc fn first cap).run Tryz.prog w = .ok (.func fn first cap) w := fun _ _ _ _ => rfl
  have HE := Lib.hid (emptyB x.text)
  rw [k]
  clear k
  go_enter Tryz.func90, Tryz.ntmps90
  go_wp2_with fail
  all_goals
    refine (impl_isLabel 12 _).mono ?_; rw [show jumpB 12 = false from rfl]; rintro e w1 ⟨rfl, rfl⟩
    go_wp2_with fail
  all_goals
    go_ret
    refine ⟨ret_bool ?_, ((Below.refl _ _).alloc (Nat.le_refl _) _).alloc (by simp) _⟩
    rw [HV.out]
    first | (rw [HE.out]; simp [*]; done) | (simp [*]; done) | (rw [HE.out]; simp [*]; omega) | (simp [*]; omega)
set_option maxRecDepth 100000 in
set_option maxHeartbeats 2000000 in
theorem vi_13 (c : CodeT) (x : InsT) (k : x.op = 13) (h2 : 0 ≤ x.line) : InsOkI c x := by
  intro vc vx w lo hi lo' hi' hc hx ht hst
  obtain ⟨Aroutines, nroutines, Arecords, nrecords, Aglobals, nglobals, Ainstrs, ninstrs, rfl, hr, ur, mr, hd, ud, md, hg, ug, mg, hi1, ui, mi⟩ := CodeT.form hc
  obtain rfl := InsT.form hx
  unfold maxLen at mr md mg mi
  clear hr hd hg hi1 hc hx
  have HV : Hid (insOk (codeD c) c.instrs.length x = (((withinB x.a (c.instrs.length : Int) || decide (x.a = -1)) && decide (x.b = 0)) && decide (x.text.size = 0))) := by
    show _ = _
    exact ins_eq (by omega) (by omega) h2 (by rw [insText, k]; rfl) (by rw [insB, k]; rfl) (by rw [insA, k, if_pos (by decide), in_within]; rfl)
  have hmf : ∀ (fn : Fn) (first cap : Array Value) (w : World), (Instr.makeFunc fn first cap).run Tryz.prog w = .ok (.func fn first cap) w := fun _ _ _ _ => rfl
  have HE := Lib.hid (emptyB x.text)
  rw [k]
  clear k
  go_enter Tryz.func90, Tryz.ntmps90
  go_wp2_with fail
  all_goals
    refine (impl_isLabel 13 _).mono ?_; rw [show jumpB 13 = true from rfl]; rintro e w1 ⟨rfl, rfl⟩
    go_wp2_with fail
  all_goals
    have a1 := Blk.newAt (w.alloc (.cells #[.slice Aroutines c.routines.length nroutines, .slice Arecords c.records.length nrecords, .slice Aglobals c.globals.length nglobals, .int .i64 c.main, .slice Ainstrs c.instrs.length ninstrs] 34)) 79 #[.int .i64 13, .int .i64 x.a, .int .i64 x.b, .int .i64 x.line, .string x.text] (w.heap.size + 1) (by simp)
    refine (impl_within (c.instrs.length : Int) x.a _ _ _ _ a1 rfl).mono ?_; rintro e w3 ⟨rfl, rfl⟩
    go_wp2_with fail
  all_goals
    go_ret
    refine ⟨ret_bool ?_, ((Below.refl _ _).alloc (Nat.le_refl _) _).alloc (by simp) _⟩
    rw [HV.out]
    first | (rw [HE.out]; simp [*]; done) | (simp [*]; done) | (rw [HE.out]; simp [*]; omega) | (simp [*]; omega)
set_option maxRecDepth 100000 in
set_option maxHeartbeats 2000000 in
theorem vi_14 (c : CodeT) (x : InsT) (k : x.op = 14) (h2 : 0 ≤ x.line) : InsOkI c x := by
  intro vc vx w lo hi lo' hi' hc hx ht hst
  obtain ⟨Aroutines, nroutines, Arecords, nrecords, Aglobals, nglobals, Ainstrs, ninstrs, rfl, hr, ur, mr, hd, ud, md, hg, ug, mg, hi1, ui, mi⟩ := CodeT.form hc
  obtain rfl := InsT.form hx
  unfold maxLen at mr md mg mi
  clear hr hd hg hi1 hc hx
  have HV : Hid (insOk (codeD c) c.instrs.length x = ((decide (x.a = 0) && decide (x.b = 0)) && decide (x.text.size = 0))) := by
    show _ = _
    exact ins_eq (by omega) (by omega) h2 (by rw [insText, k]; rfl) (by rw [insB, k]; rfl) (by rw [insA, k]; rfl)
  have hmf : ∀ (fn : Fn) (first cap : Array Value) (w : World), (Instr.makeFunc fn first cap).run Tryz.prog w = .ok (.func fn first cap) w := fun _ _ _ _ => rfl
  have HE := Lib.hid (emptyB x.text)
  rw [k]
  clear k
  go_enter Tryz.func90, Tryz.ntmps90
  go_wp2_with fail
  all_goals
    refine (impl_isLabel 14 _).mono ?_; rw [show jumpB 14 = false from rfl]; rintro e w1 ⟨rfl, rfl⟩
    go_wp2_with fail
  all_goals
    go_ret
    refine ⟨ret_bool ?_, ((Below.refl _ _).alloc (Nat.le_refl _) _).alloc (by simp) _⟩
    rw [HV.out]
    first | (rw [HE.out]; simp [*]; done) | (simp [*]; done) | (rw [HE.out]; simp [*]; omega) | (simp [*]; omega)
set_option maxRecDepth 100000 in
set_option maxHeartbeats 2000000 in
theorem vi_15 (c : CodeT) (x : InsT) (k : x.op = 15) (h2 : 0 ≤ x.line) : InsOkI c x := by
  intro vc vx w lo hi lo' hi' hc hx ht hst
  obtain ⟨Aroutines, nroutines, Arecords, nrecords, Aglobals, nglobals, Ainstrs, ninstrs, rfl, hr, ur, mr, hd, ud, md, hg, ug, mg, hi1, ui, mi⟩ := CodeT.form hc
  obtain rfl := InsT.form hx
  unfold maxLen at mr md mg mi
  clear hr hd hg hi1 hc hx
  have HV : Hid (insOk (codeD c) c.instrs.length x = (((withinB x.a (c.instrs.length : Int) || false) && decide (x.b = 0)) && decide (x.text.size = 0))) := by
    show _ = _
    exact ins_eq (by omega) (by omega) h2 (by rw [insText, k]; rfl) (by rw [insB, k]; rfl) (by rw [insA, k, if_pos (by decide), in_within]; rfl)
  have hmf : ∀ (fn : Fn) (first cap : Array Value) (w : World), (Instr.makeFunc fn first cap).run Tryz.prog w = .ok (.func fn first cap) w := fun _ _ _ _ => rfl
  have HE := Lib.hid (emptyB x.text)
  rw [k]
  clear k
  go_enter Tryz.func90, Tryz.ntmps90
  go_wp2_with fail
  all_goals
    refine (impl_isLabel 15 _).mono ?_; rw [show jumpB 15 = true from rfl]; rintro e w1 ⟨rfl, rfl⟩
    go_wp2_with fail
  all_goals
    have a1 := Blk.newAt (w.alloc (.cells #[.slice Aroutines c.routines.length nroutines, .slice Arecords c.records.length nrecords, .slice Aglobals c.globals.length nglobals, .int .i64 c.main, .slice Ainstrs c.instrs.length ninstrs] 34)) 79 #[.int .i64 15, .int .i64 x.a, .int .i64 x.b, .int .i64 x.line, .string x.text] (w.heap.size + 1) (by simp)
    refine (impl_within (c.instrs.length : Int) x.a _ _ _ _ a1 rfl).mono ?_; rintro e w3 ⟨rfl, rfl⟩
    go_wp2_with fail
  all_goals
    go_ret
    refine ⟨ret_bool ?_, ((Below.refl _ _).alloc (Nat.le_refl _) _).alloc (by simp) _⟩
    rw [HV.out]
    first | (rw [HE.out]; simp [*]; done) | (simp [*]; done) | (rw [HE.out]; simp [*]; omega) | (simp [*]; omega)
set_option maxRecDepth 100000 in
set_option maxHeartbeats 2000000 in
theorem vi_16 (c : CodeT) (x : InsT) (k : x.op = 16) (h2 : 0 ≤ x.line) : InsOkI c x := by
  intro vc vx w lo hi lo' hi' hc hx ht hst
  obtain ⟨Aroutines, nroutines, Arecords, nrecords, Aglobals, nglobals, Ainstrs, ninstrs, rfl, hr, ur, mr, hd, ud, md, hg, ug, mg, hi1, ui, mi⟩ := CodeT.form hc
  obtain rfl := InsT.form hx
  unfold maxLen at mr md mg mi
  clear hr hd hg hi1 hc hx
  have HV : Hid (insOk (codeD c) c.instrs.length x = ((decide (x.a = 0) && decide (x.b = 0)) && decide (x.text.size = 0))) := by
    show _ = _
    exact ins_eq (by omega) (by omega) h2 (by rw [insText, k]; rfl) (by rw [insB, k]; rfl) (by rw [insA, k]; rfl)
  have hmf : ∀ (fn : Fn) (first cap : Array Value) (w : World), (Instr.makeFunc fn first cap).run Tryz.prog w = .ok (.func fn first cap) w := fun _ _ _ _ => rfl
  have HE := Lib.hid (emptyB x.text)
  rw [k]
  clear k
  go_enter Tryz.func90, Tryz.ntmps90
  go_wp2_with fail
  all_goals
    refine (impl_isLabel 16 _).mono ?_; rw [show jumpB 16 = false from rfl]; rintro e w1 ⟨rfl, rfl⟩
    go_wp2_with fail
  all_goals
    go_ret
    refine ⟨ret_bool ?_, ((Below.refl _ _).alloc (Nat.le_refl _) _).alloc (by simp) _⟩
    rw [HV.out]
    first | (rw [HE.out]; simp [*]; done) | (simp [*]; done) | (rw [HE.out]; simp [*]; omega) | (simp [*]; omega)
set_option maxRecDepth 100000 in
set_option maxHeartbeats 2000000 in
theorem vi_17 (c : CodeT) (x : InsT) (k : x.op = 17) (h2 : 0 ≤ x.line) : InsOkI c x := by
  intro vc vx w lo hi lo' hi' hc hx ht hst
  obtain ⟨Aroutines, nroutines, Arecords, nrecords, Aglobals, nglobals, Ainstrs, ninstrs, rfl, hr, ur, mr, hd, ud, md, hg, ug, mg, hi1, ui, mi⟩ := CodeT.form hc
  obtain rfl := InsT.form hx
  unfold maxLen at mr md mg mi
  clear hr hd hg hi1 hc hx
  have HV : Hid (insOk (codeD c) c.instrs.length x = (((withinB x.a (c.instrs.length : Int) || false) && decide (x.b = 0)) && decide (x.text.size = 0))) := by
    show _ = _
    exact ins_eq (by omega) (by omega) h2 (by rw [insText, k]; rfl) (by rw [insB, k]; rfl) (by rw [insA, k, if_pos (by decide), in_within]; rfl)
  have hmf : ∀ (fn : Fn) (first cap : Array Value) (w : World), (Instr.makeFunc fn first cap).run Tryz.prog w = .ok (.func fn first cap) w := fun _ _ _ _ => rfl
  have HE := Lib.hid (emptyB x.text)
  rw [k]
  clear k
  go_enter Tryz.func90, Tryz.ntmps90
  go_wp2_with fail
  all_goals
    refine (impl_isLabel 17 _).mono ?_; rw [show jumpB 17 = true from rfl]; rintro e w1 ⟨rfl, rfl⟩
    go_wp2_with fail
  all_goals
    have a1 := Blk.newAt (w.alloc (.cells #[.slice Aroutines c.routines.length nroutines, .slice Arecords c.records.length nrecords, .slice Aglobals c.globals.length nglobals, .int .i64 c.main, .slice Ainstrs c.instrs.length ninstrs] 34)) 79 #[.int .i64 17, .int .i64 x.a, .int .i64 x.b, .int .i64 x.line, .string x.text] (w.heap.size + 1) (by simp)
    refine (impl_within (c.instrs.length : Int) x.a _ _ _ _ a1 rfl).mono ?_; rintro e w3 ⟨rfl, rfl⟩
    go_wp2_with fail
  all_goals
    go_ret
    refine ⟨ret_bool ?_, ((Below.refl _ _).alloc (Nat.le_refl _) _).alloc (by simp) _⟩
    rw [HV.out]
    first | (rw [HE.out]; simp [*]; done) | (simp [*]; done) | (rw [HE.out]; simp [*]; omega) | (simp [*]; omega)
set_option maxRecDepth 100000 in
set_option maxHeartbeats 2000000 in
theorem vi_18 (c : CodeT) (x : InsT) (k : x.op = 18) (h2 : 0 ≤ x.line) : InsOkI c x := by
  intro vc vx w lo hi lo' hi' hc hx ht hst
  obtain ⟨Aroutines, nroutines, Arecords, nrecords, Aglobals, nglobals, Ainstrs, ninstrs, rfl, hr, ur, mr, hd, ud, md, hg, ug, mg, hi1, ui, mi⟩ := CodeT.form hc
  obtain rfl := InsT.form hx
  unfold maxLen at mr md mg mi
  clear hr hd hg hi1 hc hx
  have HV : Hid (insOk (codeD c) c.instrs.length x = ((decide (x.a = 0) && decide (x.b = 0)) && decide (x.text.size = 0))) := by
    show _ = _
    exact ins_eq (by omega) (by omega) h2 (by rw [insText, k]; rfl) (by rw [insB, k]; rfl) (by rw [insA, k]; rfl)
  have hmf : ∀ (fn : Fn) (first cap : Array Value) (w : World), (Instr.makeFunc fn first cap).run Tryz.prog w = .ok (.func fn first cap) w := fun _ _ _ _ => rfl
  have HE := Lib.hid (emptyB x.text)
  rw [k]
  clear k
  go_enter Tryz.func90, Tryz.ntmps90
  go_wp2_with fail
  all_goals
    refine (impl_isLabel 18 _).mono ?_; rw [show jumpB 18 = false from rfl]; rintro e w1 ⟨rfl, rfl⟩
    go_wp2_with fail
  all_goals
    go_ret
    refine ⟨ret_bool ?_, ((Below.refl _ _).alloc (Nat.le_refl _) _).alloc (by simp) _⟩
    rw [HV.out]
    first | (rw [HE.out]; simp [*]; done) | (simp [*]; done) | (rw [HE.out]; simp [*]; omega) | (simp [*]; omega)
set_option maxRecDepth 100000 in
set_option maxHeartbeats 2000000 in
theorem vi_19 (c : CodeT) (x : InsT) (k : x.op = 19) (h2 : 0 ≤ x.line) : InsOkI c x := by
  intro vc vx w lo hi lo' hi' hc hx ht hst
  obtain ⟨Aroutines, nroutines, Arecords, nrecords, Aglobals, nglobals, Ainstrs, ninstrs, rfl, hr, ur, mr, hd, ud, md, hg, ug, mg, hi1, ui, mi⟩ := CodeT.form hc
  obtain rfl := InsT.form hx
  unfold maxLen at mr md mg mi
  clear hr hd hg hi1 hc hx
  have HV : Hid (insOk (codeD c) c.instrs.length x = (((withinB x.a (c.instrs.length : Int) || false) && decide (x.b = 0)) && decide (x.text.size = 0))) := by
    show _ = _
    exact ins_eq (by omega) (by omega) h2 (by rw [insText, k]; rfl) (by rw [insB, k]; rfl) (by rw [insA, k, if_pos (by decide), in_within]; rfl)
  have hmf : ∀ (fn : Fn) (first cap : Array Value) (w : World), (Instr.makeFunc fn first cap).run Tryz.prog w = .ok (.func fn first cap) w := fun _ _ _ _ => rfl
  have HE := Lib.hid (emptyB x.text)
  rw [k]
  clear k
  go_enter Tryz.func90, Tryz.ntmps90
  go_wp2_with fail
  all_goals
    refine (impl_isLabel 19 _).mono ?_; rw [show jumpB 19 = true from rfl]; rintro e w1 ⟨rfl, rfl⟩
    go_wp2_with fail
  all_goals
    have a1 := Blk.newAt (w.alloc (.cells #[.slice Aroutines c.routines.length nroutines, .slice Arecords c.records.length nrecords, .slice Aglobals c.globals.length nglobals, .int .i64 c.main, .slice Ainstrs c.instrs.length ninstrs] 34)) 79 #[.int .i64 19, .int .i64 x.a, .int .i64 x.b, .int .i64 x.line, .string x.text] (w.heap.size + 1) (by simp)
    refine (impl_within (c.instrs.length : Int) x.a _ _ _ _ a1 rfl).mono ?_; rintro e w3 ⟨rfl, rfl⟩
    go_wp2_with fail
  all_goals
    go_ret
    refine ⟨ret_bool ?_, ((Below.refl _ _).alloc (Nat.le_refl _) _).alloc (by simp) _⟩
    rw [HV.out]
    first | (rw [HE.out]; simp [*]; done) | (simp [*]; done) | (rw [HE.out]; simp [*]; omega) | (simp [*]; omega)
set_option maxRecDepth 100000 in
set_option maxHeartbeats 2000000 in
theorem vi_20 (c : CodeT) (x : InsT) (k : x.op = 20) (h2 : 0 ≤ x.line) : InsOkI c x := by
  intro vc vx w lo hi lo' hi' hc hx ht hst
  obtain ⟨Aroutines, nroutines, Arecords, nrecords, Aglobals, nglobals, Ainstrs, ninstrs, rfl, hr, ur, mr, hd, ud, md, hg, ug, mg, hi1, ui, mi⟩ := CodeT.form hc
  obtain rfl := InsT.form hx
  unfold maxLen at mr md mg mi
  clear hr hd hg hi1 hc hx
  have HV : Hid (insOk (codeD c) c.instrs.length x = ((decide (x.a = 0) && decide (x.b = 0)) && decide (x.text.size = 0))) := by
    show _ = _
    exact ins_eq (by omega) (by omega) h2 (by rw [insText, k]; rfl) (by rw [insB, k]; rfl) (by rw [insA, k]; rfl)
  have hmf : ∀ (fn : Fn) (first cap : Array Value) (w : World), (Instr.makeFunc fn first cap).run Tryz.prog w = .ok (.func fn first cap) w := fun _ _ _ _ => rfl
  have HE := Lib.hid (emptyB x.text)
  rw [k]
  clear k
  go_enter Tryz.func90, Tryz.ntmps90
  go_wp2_with fail
  all_goals
    refine (impl_isLabel 20 _).mono ?_; rw [show jumpB 20 = false from rfl]; rintro e w1 ⟨rfl, rfl⟩
    go_wp2_with fail
  all_goals
    go_ret
    refine ⟨ret_bool ?_, ((Below.refl _ _).alloc (Nat.le_refl _) _).alloc (by simp) _⟩
    rw [HV.out]
    first | (rw [HE.out]; simp [*]; done) | (simp [*]; done) | (rw [HE.out]; simp [*]; omega) | (simp [*]; omega)
set_option maxRecDepth 100000 in
set_option maxHeartbeats 2000000 in
theorem vi_21 (c : CodeT) (x : InsT) (k : x.op = 21) (h2 : 0 ≤ x.line) : InsOkI c x := by
  intro vc vx w lo hi lo' hi' hc hx ht hst
  obtain ⟨Aroutines, nroutines, Arecords, nrecords, Aglobals, nglobals, Ainstrs, ninstrs, rfl, hr, ur, mr, hd, ud, md, hg, ug, mg, hi1, ui, mi⟩ := CodeT.form hc
  obtain rfl := InsT.form hx
  unfold maxLen at mr md mg mi
  clear hr hd hg hi1 hc hx
  have HV : Hid (insOk (codeD c) c.instrs.length x = ((decide (x.a = 0) && decide (x.b = 0)) && decide (x.text.size = 0))) := by
    show _ = _
    exact ins_eq (by omega) (by omega) h2 (by rw [insText, k]; rfl) (by rw [insB, k]; rfl) (by rw [insA, k]; rfl)
  have hmf : ∀ (fn : Fn) (first cap : Array Value) (w : World), (Instr.makeFunc fn first cap).run Tryz.prog w = .ok (.func fn first cap) w := fun _ _ _ _ => rfl
  have HE := Lib.hid (emptyB x.text)
  rw [k]
  clear k
  go_enter Tryz.func90, Tryz.ntmps90
  go_wp2_with fail
  all_goals
    refine (impl_isLabel 21 _).mono ?_; rw [show jumpB 21 = false from rfl]; rintro e w1 ⟨rfl, rfl⟩
    go_wp2_with fail
  all_goals
    go_ret
    refine ⟨ret_bool ?_, ((Below.refl _ _).alloc (Nat.le_refl _) _).alloc (by simp) _⟩
    rw [HV.out]
    first | (rw [HE.out]; simp [*]; done) | (simp [*]; done) | (rw [HE.out]; simp [*]; omega) | (simp [*]; omega)
set_option maxRecDepth 100000 in
set_option maxHeartbeats 2000000 in
theorem vi_22 (c : CodeT) (x : InsT) (k : x.op = 22) (h2 : 0 ≤ x.line) : InsOkI c x := by
  intro vc vx w lo hi lo' hi' hc hx ht hst
  obtain ⟨Aroutines, nroutines, Arecords, nrecords, Aglobals, nglobals, Ainstrs, ninstrs, rfl, hr, ur, mr, hd, ud, md, hg, ug, mg, hi1, ui, mi⟩ := CodeT.form hc
  obtain rfl := InsT.form hx
  unfold maxLen at mr md mg mi
  clear hr hd hg hi1 hc hx
  have HV : Hid (insOk (codeD c) c.instrs.length x = ((decide (x.a = 0) && decide (x.b = 0)) && decide (x.text.size = 0))) := by
    show _ = _
    exact ins_eq (by omega) (by omega) h2 (by rw [insText, k]; rfl) (by rw [insB, k]; rfl) (by rw [insA, k]; rfl)
  have hmf : ∀ (fn : Fn) (first cap : Array Value) (w : World), (Instr.makeFunc fn first cap).run Tryz.prog w = .ok (.func fn first cap) w := fun _ _ _ _ => rfl
  have HE := Lib.hid (emptyB x.text)
  rw [k]
  clear k
  go_enter Tryz.func90, Tryz.ntmps90
  go_wp2_with fail
  all_goals
    refine (impl_isLabel 22 _).mono ?_; rw [show jumpB 22 = false from rfl]; rintro e w1 ⟨rfl, rfl⟩
    go_wp2_with fail
  all_goals
    go_ret
    refine ⟨ret_bool ?_, ((Below.refl _ _).alloc (Nat.le_refl _) _).alloc (by simp) _⟩
    rw [HV.out]
    first | (rw [HE.out]; simp [*]; done) | (simp [*]; done) | (rw [HE.out]; simp [*]; omega) | (simp [*]; omega)
set_option maxRecDepth 100000 in
set_option maxHeartbeats 2000000 in
theorem vi_23 (c : CodeT) (x : InsT) (k : x.op = 23) (h2 : 0 ≤ x.line) : InsOkI c x := by
  intro vc vx w lo hi lo' hi' hc hx ht hst
  obtain ⟨Aroutines, nroutines, Arecords, nrecords, Aglobals, nglobals, Ainstrs, ninstrs, rfl, hr, ur, mr, hd, ud, md, hg, ug, mg, hi1, ui, mi⟩ := CodeT.form hc
  obtain rfl := InsT.form hx
  unfold maxLen at mr md mg mi
  clear hr hd hg hi1 hc hx
  have HV : Hid (insOk (codeD c) c.instrs.length x = ((decide (x.a = 0) && decide (x.b = 0)) && decide (x.text.size = 0))) := by
    show _ = _
    exact ins_eq (by omega) (by omega) h2 (by rw [insText, k]; rfl) (by rw [insB, k]; rfl) (by rw [insA, k]; rfl)
  have hmf : ∀ (fn : Fn) (first cap : Array Value) (w : World), (Instr.makeFunc fn first cap).run Tryz.prog w = .ok (.func fn first cap) w := fun _ _ _ _ => rfl
  have HE := Lib.hid (emptyB x.text)
  rw [k]
  clear k
  go_enter Tryz.func90, Tryz.ntmps90
  go_wp2_with fail
  all_goals
    refine (impl_isLabel 23 _).mono ?_; rw [show jumpB 23 = false from rfl]; rintro e w1 ⟨rfl, rfl⟩
    go_wp2_with fail
  all_goals
    go_ret
    refine ⟨ret_bool ?_, ((Below.refl _ _).alloc (Nat.le_refl _) _).alloc (by simp) _⟩
    rw [HV.out]
    first | (rw [HE.out]; simp [*]; done) | (simp [*]; done) | (rw [HE.out]; simp [*]; omega) | (simp [*]; omega)
set_option maxRecDepth 100000 in
set_option maxHeartbeats 2000000 in
theorem vi_24 (c : CodeT) (x : InsT) (k : x.op = 24) (h2 : 0 ≤ x.line) : InsOkI c x := by
  intro vc vx w lo hi lo' hi' hc hx ht hst
  obtain ⟨Aroutines, nroutines, Arecords, nrecords, Aglobals, nglobals, Ainstrs, ninstrs, rfl, hr, ur, mr, hd, ud, md, hg, ug, mg, hi1, ui, mi⟩ := CodeT.form hc
  obtain rfl := InsT.form hx
  unfold maxLen at mr md mg mi
  clear hr hd hg hi1 hc hx
  have HV : Hid (insOk (codeD c) c.instrs.length x = ((decide (x.a = 0) && decide (x.b = 0)) && decide (x.text.size = 0))) := by
    show _ = _
    exact ins_eq (by omega) (by omega) h2 (by rw [insText, k]; rfl) (by rw [insB, k]; rfl) (by rw [insA, k]; rfl)
  have hmf : ∀ (fn : Fn) (first cap : Array Value) (w : World), (Instr.makeFunc fn first cap).run Tryz.prog w = .ok (.func fn first cap) w := fun _ _ _ _ => rfl
  have HE := Lib.hid (emptyB x.text)
  rw [k]
  clear k
  go_enter Tryz.func90, Tryz.ntmps90
  go_wp2_with fail
  all_goals
    refine (impl_isLabel 24 _).mono ?_; rw [show jumpB 24 = false from rfl]; rintro e w1 ⟨rfl, rfl⟩
    go_wp2_with fail
  all_goals
    go_ret
    refine ⟨ret_bool ?_, ((Below.refl _ _).alloc (Nat.le_refl _) _).alloc (by simp) _⟩
    rw [HV.out]
    first | (rw [HE.out]; simp [*]; done) | (simp [*]; done) | (rw [HE.out]; simp [*]; omega) | (simp [*]; omega)
set_option maxRecDepth 100000 in
set_option maxHeartbeats 2000000 in
theorem vi_25 (c : CodeT) (x : InsT) (k : x.op = 25) (h2 : 0 ≤ x.line) : InsOkI c x := by
  intro vc vx w lo hi lo' hi' hc hx ht hst
  obtain ⟨Aroutines, nroutines, Arecords, nrecords, Aglobals, nglobals, Ainstrs, ninstrs, rfl, hr, ur, mr, hd, ud, md, hg, ug, mg, hi1, ui, mi⟩ := CodeT.form hc
  obtain rfl := InsT.form hx
  unfold maxLen at mr md mg mi
  clear hr hd hg hi1 hc hx
  have HV : Hid (insOk (codeD c) c.instrs.length x = ((decide (x.a = 0) && decide (x.b = 0)) && decide (x.text.size = 0))) := by
    show _ = _
    exact ins_eq (by omega) (by omega) h2 (by rw [insText, k]; rfl) (by rw [insB, k]; rfl) (by rw [insA, k]; rfl)
  have hmf : ∀ (fn : Fn) (first cap : Array Value) (w : World), (Instr.makeFunc fn first cap).run Tryz.prog w = .ok (.func fn first cap) w := fun _ _ _ _ => rfl
  have HE := Lib.hid (emptyB x.text)
  rw [k]
  clear k
  go_enter Tryz.func90, Tryz.ntmps90
  go_wp2_with fail
  all_goals
    refine (impl_isLabel 25 _).mono ?_; rw [show jumpB 25 = false from rfl]; rintro e w1 ⟨rfl, rfl⟩
    go_wp2_with fail
  all_goals
    go_ret
    refine ⟨ret_bool ?_, ((Below.refl _ _).alloc (Nat.le_refl _) _).alloc (by simp) _⟩
    rw [HV.out]
    first | (rw [HE.out]; simp [*]; done) | (simp [*]; done) | (rw [HE.out]; simp [*]; omega) | (simp [*]; omega)
set_option maxRecDepth 100000 in
set_option maxHeartbeats 2000000 in
theorem vi_26 (c : CodeT) (x : InsT) (k : x.op = 26) (h2 : 0 ≤ x.line) : InsOkI c x := by
  intro vc vx w lo hi lo' hi' hc hx ht hst
  obtain ⟨Aroutines, nroutines, Arecords, nrecords, Aglobals, nglobals, Ainstrs, ninstrs, rfl, hr, ur, mr, hd, ud, md, hg, ug, mg, hi1, ui, mi⟩ := CodeT.form hc
  obtain rfl := InsT.form hx
  unfold maxLen at mr md mg mi
  clear hr hd hg hi1 hc hx
  have HV : Hid (insOk (codeD c) c.instrs.length x = ((decide (x.a = 0) && decide (x.b = 0)) && decide (x.text.size = 0))) := by
    show _ = _
    exact ins_eq (by omega) (by omega) h2 (by rw [insText, k]; rfl) (by rw [insB, k]; rfl) (by rw [insA, k]; rfl)
  have hmf : ∀ (fn : Fn) (first cap : Array Value) (w : World), (Instr.makeFunc fn first cap).run Tryz.prog w = .ok (.func fn first cap) w := fun _ _ _ _ => rfl
  have HE := Lib.hid (emptyB x.text)
  rw [k]
  clear k
  go_enter Tryz.func90, Tryz.ntmps90
  go_wp2_with fail
  all_goals
    refine (impl_isLabel 26 _).mono ?_; rw [show jumpB 26 = false from rfl]; rintro e w1 ⟨rfl, rfl⟩
    go_wp2_with fail
  all_goals
    go_ret
    refine ⟨ret_bool ?_, ((Below.refl _ _).alloc (Nat.le_refl _) _).alloc (by simp) _⟩
    rw [HV.out]
    first | (rw [HE.out]; simp [*]; done) | (simp [*]; done) | (rw [HE.out]; simp [*]; omega) | (simp [*]; omega)
set_option maxRecDepth 100000 in
set_option maxHeartbeats 2000000 in
theorem vi_27 (c : CodeT) (x : InsT) (k : x.op = 27) (h2 : 0 ≤ x.line) : InsOkI c x := by
  intro vc vx w lo hi lo' hi' hc hx ht hst
  obtain ⟨Aroutines, nroutines, Arecords, nrecords, Aglobals, nglobals, Ainstrs, ninstrs, rfl, hr, ur, mr, hd, ud, md, hg, ug, mg, hi1, ui, mi⟩ := CodeT.form hc
  obtain rfl := InsT.form hx
  unfold maxLen at mr md mg mi
  clear hr hd hg hi1 hc hx
  have HV : Hid (insOk (codeD c) c.instrs.length x = (((withinB x.a (c.instrs.length : Int) || false) && decide (x.b = 0)) && decide (x.text.size = 0))) := by
    show _ = _
    exact ins_eq (by omega) (by omega) h2 (by rw [insText, k]; rfl) (by rw [insB, k]; rfl) (by rw [insA, k, if_pos (by decide), in_within]; rfl)
  have hmf : ∀ (fn : Fn) (first cap : Array Value) (w : World), (Instr.makeFunc fn first cap).run Tryz.prog w = .ok (.func fn first cap) w := fun _ _ _ _ => rfl
  have HE := Lib.hid (emptyB x.text)
  rw [k]
  clear k
  go_enter Tryz.func90, Tryz.ntmps90
  go_wp2_with fail
  all_goals
    refine (impl_isLabel 27 _).mono ?_; rw [show jumpB 27 = true from rfl]; rintro e w1 ⟨rfl, rfl⟩
    go_wp2_with fail
  all_goals
    have a1 := Blk.newAt (w.alloc (.cells #[.slice Aroutines c.routines.length nroutines, .slice Arecords c.records.length nrecords, .slice Aglobals c.globals.length nglobals, .int .i64 c.main, .slice Ainstrs c.instrs.length ninstrs] 34)) 79 #[.int .i64 27, .int .i64 x.a, .int .i64 x.b, .int .i64 x.line, .string x.text] (w.heap.size + 1) (by simp)
    refine (impl_within (c.instrs.length : Int) x.a _ _ _ _ a1 rfl).mono ?_; rintro e w3 ⟨rfl, rfl⟩
    go_wp2_with fail
  all_goals
    go_ret
    refine ⟨ret_bool ?_, ((Below.refl _ _).alloc (Nat.le_refl _) _).alloc (by simp) _⟩
    rw [HV.out]
    first | (rw [HE.out]; simp [*]; done) | (simp [*]; done) | (rw [HE.out]; simp [*]; omega) | (simp [*]; omega)
set_option maxRecDepth 100000 in
set_option maxHeartbeats 2000000 in
theorem vi_28 (c : CodeT) (x : InsT) (k : x.op = 28) (h2 : 0 ≤ x.line) : InsOkI c x := by
  intro vc vx w lo hi lo' hi' hc hx ht hst
  obtain ⟨Aroutines, nroutines, Arecords, nrecords, Aglobals, nglobals, Ainstrs, ninstrs, rfl, hr, ur, mr, hd, ud, md, hg, ug, mg, hi1, ui, mi⟩ := CodeT.form hc
  obtain rfl := InsT.form hx
  unfold maxLen at mr md mg mi
  clear hr hd hg hi1 hc hx
  have HV : Hid (insOk (codeD c) c.instrs.length x = ((decide (x.a = 0) && decide (x.b = 0)) && decide (x.text.size = 0))) := by
    show _ = _
    exact ins_eq (by omega) (by omega) h2 (by rw [insText, k]; rfl) (by rw [insB, k]; rfl) (by rw [insA, k]; rfl)
  have hmf : ∀ (fn : Fn) (first cap : Array Value) (w : World), (Instr.makeFunc fn first cap).run Tryz.prog w = .ok (.func fn first cap) w := fun _ _ _ _ => rfl
  have HE := Lib.hid (emptyB x.text)
  rw [k]
  clear k
  go_enter Tryz.func90, Tryz.ntmps90
  go_wp2_with fail
  all_goals
    refine (impl_isLabel 28 _).mono ?_; rw [show jumpB 28 = false from rfl]; rintro e w1 ⟨rfl, rfl⟩
    go_wp2_with fail
  all_goals
    go_ret
    refine ⟨ret_bool ?_, ((Below.refl _ _).alloc (Nat.le_refl _) _).alloc (by simp) _⟩
    rw [HV.out]
    first | (rw [HE.out]; simp [*]; done) | (simp [*]; done) | (rw [HE.out]; simp [*]; omega) | (simp [*]; omega)
set_option maxRecDepth 100000 in
set_option maxHeartbeats 2000000 in
theorem vi_29 (c : CodeT) (x : InsT) (k : x.op = 29) (h2 : 0 ≤ x.line) : InsOkI c x := by
  intro vc vx w lo hi lo' hi' hc hx ht hst
  obtain ⟨Aroutines, nroutines, Arecords, nrecords, Aglobals, nglobals, Ainstrs, ninstrs, rfl, hr, ur, mr, hd, ud, md, hg, ug, mg, hi1, ui, mi⟩ := CodeT.form hc
  obtain rfl := InsT.form hx
  unfold maxLen at mr md mg mi
  clear hr hd hg hi1 hc hx
  have HV : Hid (insOk (codeD c) c.instrs.length x = ((decide (x.a = 0) && decide (x.b = 0)) && decide (x.text.size = 0))) := by
    show _ = _
    exact ins_eq (by omega) (by omega) h2 (by rw [insText, k]; rfl) (by rw [insB, k]; rfl) (by rw [insA, k]; rfl)
  have hmf : ∀ (fn : Fn) (first cap : Array Value) (w : World), (Instr.makeFunc fn first cap).run Tryz.prog w = .ok (.func fn first cap) w := fun _ _ _ _ => rfl
  have HE := Lib.hid (emptyB x.text)
  rw [k]
  clear k
  go_enter Tryz.func90, Tryz.ntmps90
  go_wp2_with fail
  all_goals
    refine (impl_isLabel 29 _).mono ?_; rw [show jumpB 29 = false from rfl]; rintro e w1 ⟨rfl, rfl⟩
    go_wp2_with fail
  all_goals
    go_ret
    refine ⟨ret_bool ?_, ((Below.refl _ _).alloc (Nat.le_refl _) _).alloc (by simp) _⟩
    rw [HV.out]
    first | (rw [HE.out]; simp [*]; done) | (simp [*]; done) | (rw [HE.out]; simp [*]; omega) | (simp [*]; omega)
set_option maxRecDepth 100000 in
set_option maxHeartbeats 2000000 in
theorem vi_30 (c : CodeT) (x : InsT) (k : x.op = 30) (h2 : 0 ≤ x.line) : InsOkI c x := by
  intro vc vx w lo hi lo' hi' hc hx ht hst
  obtain ⟨Aroutines, nroutines, Arecords, nrecords, Aglobals, nglobals, Ainstrs, ninstrs, rfl, hr, ur, mr, hd, ud, md, hg, ug, mg, hi1, ui, mi⟩ := CodeT.form hc
  obtain rfl := InsT.form hx
  unfold maxLen at mr md mg mi
  clear hr hd hg hi1 hc hx
  have HV : Hid (insOk (codeD c) c.instrs.length x = ((decide (x.a = 0) && decide (x.b = 0)) && decide (x.text.size = 0))) := by
    show _ = _
    exact ins_eq (by omega) (by omega) h2 (by rw [insText, k]; rfl) (by rw [insB, k]; rfl) (by rw [insA, k]; rfl)
  have hmf : ∀ (fn : Fn) (first cap : Array Value) (w : World), (Instr.makeFunc fn first cap).run Tryz.prog w = .ok (.func fn first cap) w := fun _ _ _ _ => rfl
  have HE := Lib.hid (emptyB x.text)
  rw [k]
  clear k
  go_enter Tryz.func90, Tryz.ntmps90
  go_wp2_with fail
  all_goals
    refine (impl_isLabel 30 _).mono ?_; rw [show jumpB 30 = false from rfl]; rintro e w1 ⟨rfl, rfl⟩
    go_wp2_with fail
  all_goals
    go_ret
    refine ⟨ret_bool ?_, ((Below.refl _ _).alloc (Nat.le_refl _) _).alloc (by simp) _⟩
    rw [HV.out]
    first | (rw [HE.out]; simp [*]; done) | (simp [*]; done) | (rw [HE.out]; simp [*]; omega) | (simp [*]; omega)
set_option maxRecDepth 100000 in
set_option maxHeartbeats 2000000 in
theorem vi_lo (c : CodeT) (x : InsT) (h : x.op < 1) : InsOkI c x := by
  intro vc vx w lo hi lo' hi' hc hx ht hst
  obtain ⟨Aroutines, nroutines, Arecords, nrecords, Aglobals, nglobals, Ainstrs, ninstrs, rfl, hr, ur, mr, hd, ud, md, hg, ug, mg, hi1, ui, mi⟩ := CodeT.form hc
  obtain rfl := InsT.form hx
  clear hr hd hg hi1 hc hx
  have HV : Hid (insOk (codeD c) c.instrs.length x = false) := by show _ = _; rw [insOk]; simp; omega
  go_enter Tryz.func90, Tryz.ntmps90
  go_wp2_with fail
  go_ret
  exact ⟨ret_bool HV.out.symm, ((Below.refl _ _).alloc (Nat.le_refl _) _).alloc (by simp) _⟩
set_option maxRecDepth 100000 in
set_option maxHeartbeats 2000000 in
theorem vi_hi (c : CodeT) (x : InsT) (h : 30 < x.op) : InsOkI c x := by
  intro vc vx w lo hi lo' hi' hc hx ht hst
  obtain ⟨Aroutines, nroutines, Arecords, nrecords, Aglobals, nglobals, Ainstrs, ninstrs, rfl, hr, ur, mr, hd, ud, md, hg, ug, mg, hi1, ui, mi⟩ := CodeT.form hc
  obtain rfl := InsT.form hx
  clear hr hd hg hi1 hc hx
  have HV : Hid (insOk (codeD c) c.instrs.length x = false) := by show _ = _; rw [insOk]; simp; omega
  go_enter Tryz.func90, Tryz.ntmps90
  go_wp2_with fail
  go_ret
  exact ⟨ret_bool HV.out.symm, ((Below.refl _ _).alloc (Nat.le_refl _) _).alloc (by simp) _⟩
set_option maxRecDepth 100000 in
set_option maxHeartbeats 2000000 in
theorem vi_line (c : CodeT) (x : InsT) (h0 : 1 ≤ x.op) (h1 : x.op ≤ 30) (h : x.line < 0) : InsOkI c x := by
  intro vc vx w lo hi lo' hi' hc hx ht hst
  obtain ⟨Aroutines, nroutines, Arecords, nrecords, Aglobals, nglobals, Ainstrs, ninstrs, rfl, hr, ur, mr, hd, ud, md, hg, ug, mg, hi1, ui, mi⟩ := CodeT.form hc
  obtain rfl := InsT.form hx
  clear hr hd hg hi1 hc hx
  have HV : Hid (insOk (codeD c) c.instrs.length x = false) := by show _ = _; rw [insOk]; simp; omega
  go_enter Tryz.func90, Tryz.ntmps90
  go_wp2_with fail
  go_ret
  exact ⟨ret_bool HV.out.symm, ((Below.refl _ _).alloc (Nat.le_refl _) _).alloc (by simp) _⟩
theorem impl_validInstr (c : CodeT) (x : InsT) : InsOkI c x := by
  by_cases a0 : x.op < 1
  · exact vi_lo c x a0
  by_cases a1 : 30 < x.op
  · exact vi_hi c x a1
  by_cases a2 : x.line < 0
  · exact vi_line c x (by omega) (by omega) a2
  have h2 : 0 ≤ x.line := by omega
  have hop : x.op = 1 ∨ x.op = 2 ∨ x.op = 3 ∨ x.op = 4 ∨ x.op = 5 ∨ x.op = 6 ∨ x.op = 7 ∨ x.op = 8 ∨ x.op = 9 ∨ x.op = 10 ∨ x.op = 11 ∨ x.op = 12 ∨ x.op = 13 ∨ x.op = 14 ∨ x.op = 15 ∨ x.op = 16 ∨ x.op = 17 ∨ x.op = 18 ∨ x.op = 19 ∨ x.op = 20 ∨ x.op = 21 ∨ x.op = 22 ∨ x.op = 23 ∨ x.op = 24 ∨ x.op = 25 ∨ x.op = 26 ∨ x.op = 27 ∨ x.op = 28 ∨ x.op = 29 ∨ x.op = 30 := by omega
  rcases hop with k | k | k | k | k | k | k | k | k | k | k | k | k | k | k | k | k | k | k | k | k | k | k | k | k | k | k | k | k | k
  · exact vi_1 c x k h2
  · exact vi_2 c x k h2
  · exact vi_3 c x k h2
  · exact vi_4 c x k h2
  · exact vi_5 c x k h2
  · exact vi_6 c x k h2
  · exact vi_7 c x k h2
  · exact vi_8 c x k h2
  · exact vi_9 c x k h2
  · exact vi_10 c x k h2
  · exact vi_11 c x k h2
  · exact vi_12 c x k h2
  · exact vi_13 c x k h2
  · exact vi_14 c x k h2
  · exact vi_15 c x k h2
  · exact vi_16 c x k h2
  · exact vi_17 c x k h2
  · exact vi_18 c x k h2
  · exact vi_19 c x k h2
  · exact vi_20 c x k h2
  · exact vi_21 c x k h2
  · exact vi_22 c x k h2
  · exact vi_23 c x k h2
  · exact vi_24 c x k h2
  · exact vi_25 c x k h2
  · exact vi_26 c x k h2
  · exact vi_27 c x k h2
  · exact vi_28 c x k h2
  · exact vi_29 c x k h2
  · exact vi_30 c x k h2
end Go.Proofs.YtekobbeoaalibaaGreatDoor
