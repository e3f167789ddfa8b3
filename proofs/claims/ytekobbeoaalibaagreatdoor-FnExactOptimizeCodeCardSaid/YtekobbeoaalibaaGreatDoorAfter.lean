/- l30After of the reference. -/
import Derived.Test.YtekobbeoaalibaaGreatDoorVerS
import Derived.IntWalk
import Derived.OwnWalk
namespace Go.Proofs.YtekobbeoaalibaaGreatDoor
open Go.RowKit
set_option linter.unusedVariables false

def AftPost (r : Option (ByteArray × ByteArray)) (w : World) (e : Ending) (w' : World) : Prop := ∃ nx lb, e = .returned (.tuple #[.string nx, .string lb, .bool r.isSome]) ∧ Below w.heap.size w w' ∧ ∀ q, r = some q → nx = q.1 ∧ lb = q.2
theorem aft_yes {r : Option (ByteArray × ByteArray)} {a b : ByteArray} {w w' : World} {e : Ending} (hr : r = some (a, b)) (he : e = .returned (.tuple #[.string a, .string b, .bool true])) (hb : Below w.heap.size w w') : AftPost r w e w' := by
  subst hr
  exact ⟨a, b, he, hb, fun q hq => by injection hq with hq; subst hq; exact ⟨rfl, rfl⟩⟩
theorem aft_no {r : Option (ByteArray × ByteArray)} {a b : ByteArray} {w w' : World} {e : Ending} (hr : r = none) (he : e = .returned (.tuple #[.string a, .string b, .bool false])) (hb : Below w.heap.size w w') : AftPost r w e w' := by
  subst hr
  exact ⟨a, b, he, hb, fun q hq => by cases hq⟩
theorem wrap8' (n : Int) (h0 : 0 ≤ n) (h1 : n ≤ 255) : IntKind.u8.wrap n = n := by
  simp [IntKind.wrap, IntKind.bits, IntKind.signed]; omega

set_option maxRecDepth 100000 in
set_option maxHeartbeats 1000000 in
theorem after_1 (x : InsT) (s : ByteArray) (w : World) (k : x.op = 1) (hg : goodB s = true) (hs : s.size ≤ 1048576) :
    Calls Tryz.prog 49 #[.agg #[.int .i64 x.op, .int .i64 x.a, .int .i64 x.b, .int .i64 x.line, .string x.text], .string s] w (AftPost (after x s) w) := by
  have hz := good_size hg
  have HSL := Lib.hid (fun W => spec_l30Slots s W hg)
  have HG := Lib.hid hg
  have K_ := Lib.hid k
  have HA : Hid (after x s = some (s ++ ⟨#[118]⟩, ⟨#[]⟩)) := by show _ = _; simp only [after, K_.out]; rfl
  rw [k]
  clear k hg
  go_enter Tryz.func49, Tryz.ntmps49
  go_wp2_with fail
  refine (HSL.out _).mono ?_; rintro e w1 ⟨rfl, rfl⟩
  go_wp2_with fail
  refine (spec_l30Ends s ⟨#[118]⟩ _ hs (by decide)).mono ?_; rintro e w2 ⟨rfl, rfl⟩
  go_wp2_with fail
  go_ret3
  exact aft_yes HA.out rfl ((Below.refl _ _).alloc (Nat.le_refl _) _)
set_option maxRecDepth 100000 in
set_option maxHeartbeats 1000000 in
theorem after_2 (x : InsT) (s : ByteArray) (w : World) (k : x.op = 2) (hg : goodB s = true) (hs : s.size ≤ 1048576) :
    Calls Tryz.prog 49 #[.agg #[.int .i64 x.op, .int .i64 x.a, .int .i64 x.b, .int .i64 x.line, .string x.text], .string s] w (AftPost (after x s) w) := by
  have hz := good_size hg
  have HSL := Lib.hid (fun W => spec_l30Slots s W hg)
  have HG := Lib.hid hg
  have K_ := Lib.hid k
  have HA : Hid (after x s = some (s ++ ⟨#[118]⟩, ⟨#[]⟩)) := by show _ = _; simp only [after, K_.out]; rfl
  rw [k]
  clear k hg
  go_enter Tryz.func49, Tryz.ntmps49
  go_wp2_with fail
  refine (HSL.out _).mono ?_; rintro e w1 ⟨rfl, rfl⟩
  go_wp2_with fail
  refine (spec_l30Ends s ⟨#[118]⟩ _ hs (by decide)).mono ?_; rintro e w2 ⟨rfl, rfl⟩
  go_wp2_with fail
  go_ret3
  exact aft_yes HA.out rfl ((Below.refl _ _).alloc (Nat.le_refl _) _)
set_option maxRecDepth 100000 in
set_option maxHeartbeats 1000000 in
theorem after_3 (x : InsT) (s : ByteArray) (w : World) (k : x.op = 3) (hg : goodB s = true) (hs : s.size ≤ 1048576) :
    Calls Tryz.prog 49 #[.agg #[.int .i64 x.op, .int .i64 x.a, .int .i64 x.b, .int .i64 x.line, .string x.text], .string s] w (AftPost (after x s) w) := by
  have hz := good_size hg
  have HSL := Lib.hid (fun W => spec_l30Slots s W hg)
  have HG := Lib.hid hg
  have K_ := Lib.hid k
  have HA : Hid (after x s = some (s ++ ⟨#[118]⟩, ⟨#[]⟩)) := by show _ = _; simp only [after, K_.out]; rfl
  rw [k]
  clear k hg
  go_enter Tryz.func49, Tryz.ntmps49
  go_wp2_with fail
  refine (HSL.out _).mono ?_; rintro e w1 ⟨rfl, rfl⟩
  go_wp2_with fail
  refine (spec_l30Ends s ⟨#[118]⟩ _ hs (by decide)).mono ?_; rintro e w2 ⟨rfl, rfl⟩
  go_wp2_with fail
  go_ret3
  exact aft_yes HA.out rfl ((Below.refl _ _).alloc (Nat.le_refl _) _)
set_option maxRecDepth 100000 in
set_option maxHeartbeats 1000000 in
theorem after_4 (x : InsT) (s : ByteArray) (w : World) (k : x.op = 4) (hg : goodB s = true) (hs : s.size ≤ 1048576) :
    Calls Tryz.prog 49 #[.agg #[.int .i64 x.op, .int .i64 x.a, .int .i64 x.b, .int .i64 x.line, .string x.text], .string s] w (AftPost (after x s) w) := by
  have hz := good_size hg
  have HSL := Lib.hid (fun W => spec_l30Slots s W hg)
  have HG := Lib.hid hg
  have K_ := Lib.hid k
  have HA : Hid (after x s = some (s ++ ⟨#[118]⟩, ⟨#[]⟩)) := by show _ = _; simp only [after, K_.out]; rfl
  rw [k]
  clear k hg
  go_enter Tryz.func49, Tryz.ntmps49
  go_wp2_with fail
  refine (HSL.out _).mono ?_; rintro e w1 ⟨rfl, rfl⟩
  go_wp2_with fail
  refine (spec_l30Ends s ⟨#[118]⟩ _ hs (by decide)).mono ?_; rintro e w2 ⟨rfl, rfl⟩
  go_wp2_with fail
  go_ret3
  exact aft_yes HA.out rfl ((Below.refl _ _).alloc (Nat.le_refl _) _)
set_option maxRecDepth 100000 in
set_option maxHeartbeats 1000000 in
theorem after_6 (x : InsT) (s : ByteArray) (w : World) (k : x.op = 6) (hg : goodB s = true) (hs : s.size ≤ 1048576) :
    Calls Tryz.prog 49 #[.agg #[.int .i64 x.op, .int .i64 x.a, .int .i64 x.b, .int .i64 x.line, .string x.text], .string s] w (AftPost (after x s) w) := by
  have hz := good_size hg
  have HSL := Lib.hid (fun W => spec_l30Slots s W hg)
  have HG := Lib.hid hg
  have K_ := Lib.hid k
  have HA : Hid (after x s = some (s ++ ⟨#[118]⟩, ⟨#[]⟩)) := by show _ = _; simp only [after, K_.out]; rfl
  rw [k]
  clear k hg
  go_enter Tryz.func49, Tryz.ntmps49
  go_wp2_with fail
  refine (HSL.out _).mono ?_; rintro e w1 ⟨rfl, rfl⟩
  go_wp2_with fail
  refine (spec_l30Ends s ⟨#[118]⟩ _ hs (by decide)).mono ?_; rintro e w2 ⟨rfl, rfl⟩
  go_wp2_with fail
  go_ret3
  exact aft_yes HA.out rfl ((Below.refl _ _).alloc (Nat.le_refl _) _)
set_option maxRecDepth 100000 in
set_option maxHeartbeats 1000000 in
theorem after_7 (x : InsT) (s : ByteArray) (w : World) (k : x.op = 7) (hg : goodB s = true) (hs : s.size ≤ 1048576) :
    Calls Tryz.prog 49 #[.agg #[.int .i64 x.op, .int .i64 x.a, .int .i64 x.b, .int .i64 x.line, .string x.text], .string s] w (AftPost (after x s) w) := by
  have hz := good_size hg
  have HSL := Lib.hid (fun W => spec_l30Slots s W hg)
  have HG := Lib.hid hg
  have K_ := Lib.hid k
  have HA : Hid (after x s = some (s ++ ⟨#[118]⟩, ⟨#[]⟩)) := by show _ = _; simp only [after, K_.out]; rfl
  rw [k]
  clear k hg
  go_enter Tryz.func49, Tryz.ntmps49
  go_wp2_with fail
  refine (HSL.out _).mono ?_; rintro e w1 ⟨rfl, rfl⟩
  go_wp2_with fail
  refine (spec_l30Ends s ⟨#[118]⟩ _ hs (by decide)).mono ?_; rintro e w2 ⟨rfl, rfl⟩
  go_wp2_with fail
  go_ret3
  exact aft_yes HA.out rfl ((Below.refl _ _).alloc (Nat.le_refl _) _)
set_option maxRecDepth 100000 in
set_option maxHeartbeats 1000000 in
theorem after_8 (x : InsT) (s : ByteArray) (w : World) (k : x.op = 8) (hg : goodB s = true) (hs : s.size ≤ 1048576) :
    Calls Tryz.prog 49 #[.agg #[.int .i64 x.op, .int .i64 x.a, .int .i64 x.b, .int .i64 x.line, .string x.text], .string s] w (AftPost (after x s) w) := by
  have hz := good_size hg
  have HSL := Lib.hid (fun W => spec_l30Slots s W hg)
  have HG := Lib.hid hg
  have K_ := Lib.hid k
  have HA : Hid (after x s = some (s ++ ⟨#[118]⟩, ⟨#[]⟩)) := by show _ = _; simp only [after, K_.out]; rfl
  rw [k]
  clear k hg
  go_enter Tryz.func49, Tryz.ntmps49
  go_wp2_with fail
  refine (HSL.out _).mono ?_; rintro e w1 ⟨rfl, rfl⟩
  go_wp2_with fail
  refine (spec_l30Ends s ⟨#[118]⟩ _ hs (by decide)).mono ?_; rintro e w2 ⟨rfl, rfl⟩
  go_wp2_with fail
  go_ret3
  exact aft_yes HA.out rfl ((Below.refl _ _).alloc (Nat.le_refl _) _)
set_option maxRecDepth 100000 in
set_option maxHeartbeats 1000000 in
theorem after_9 (x : InsT) (s : ByteArray) (w : World) (k : x.op = 9) (hg : goodB s = true) (hs : s.size ≤ 1048576) :
    Calls Tryz.prog 49 #[.agg #[.int .i64 x.op, .int .i64 x.a, .int .i64 x.b, .int .i64 x.line, .string x.text], .string s] w (AftPost (after x s) w) := by
  have hz := good_size hg
  have HSL := Lib.hid (fun W => spec_l30Slots s W hg)
  have HG := Lib.hid hg
  have K_ := Lib.hid k
  have HA : Hid (after x s = some (s ++ ⟨#[118]⟩, ⟨#[]⟩)) := by show _ = _; simp only [after, K_.out]; rfl
  rw [k]
  clear k hg
  go_enter Tryz.func49, Tryz.ntmps49
  go_wp2_with fail
  refine (HSL.out _).mono ?_; rintro e w1 ⟨rfl, rfl⟩
  go_wp2_with fail
  refine (spec_l30Ends s ⟨#[118]⟩ _ hs (by decide)).mono ?_; rintro e w2 ⟨rfl, rfl⟩
  go_wp2_with fail
  go_ret3
  exact aft_yes HA.out rfl ((Below.refl _ _).alloc (Nat.le_refl _) _)
set_option maxRecDepth 100000 in
set_option maxHeartbeats 1000000 in
theorem after_10 (x : InsT) (s : ByteArray) (w : World) (k : x.op = 10) (hg : goodB s = true) (hs : s.size ≤ 1048576) :
    Calls Tryz.prog 49 #[.agg #[.int .i64 x.op, .int .i64 x.a, .int .i64 x.b, .int .i64 x.line, .string x.text], .string s] w (AftPost (after x s) w) := by
  have hz := good_size hg
  have HSL := Lib.hid (fun W => spec_l30Slots s W hg)
  have HG := Lib.hid hg
  have K_ := Lib.hid k
  have HA : Hid (after x s = some (s ++ ⟨#[118]⟩, ⟨#[]⟩)) := by show _ = _; simp only [after, K_.out]; rfl
  rw [k]
  clear k hg
  go_enter Tryz.func49, Tryz.ntmps49
  go_wp2_with fail
  refine (HSL.out _).mono ?_; rintro e w1 ⟨rfl, rfl⟩
  go_wp2_with fail
  refine (spec_l30Ends s ⟨#[118]⟩ _ hs (by decide)).mono ?_; rintro e w2 ⟨rfl, rfl⟩
  go_wp2_with fail
  go_ret3
  exact aft_yes HA.out rfl ((Below.refl _ _).alloc (Nat.le_refl _) _)
set_option maxRecDepth 100000 in
set_option maxHeartbeats 1000000 in
theorem after_5y (x : InsT) (s : ByteArray) (w : World) (k : x.op = 5) (hg : goodB s = true) (hs : s.size ≤ 1048576) (h : x.a < (slotsN s : Int)) :
    Calls Tryz.prog 49 #[.agg #[.int .i64 x.op, .int .i64 x.a, .int .i64 x.b, .int .i64 x.line, .string x.text], .string s] w (AftPost (after x s) w) := by
  have hz := good_size hg
  have HSL := Lib.hid (fun W => spec_l30Slots s W hg)
  have HG := Lib.hid hg
  have K_ := Lib.hid k
  have HA : Hid (after x s = some (s ++ ⟨#[118]⟩, ⟨#[]⟩)) := by show _ = _; simp only [after, K_.out]; exact if_pos h
  have hd : decide (x.a < (slotsN s : Int)) = true := decide_eq_true h
  rw [k]
  clear k hg
  go_enter Tryz.func49, Tryz.ntmps49
  go_wp2_with fail
  refine (HSL.out _).mono ?_; rintro e w1 ⟨rfl, rfl⟩
  go_wp2_with fail
  refine (spec_l30Ends s ⟨#[118]⟩ _ hs (by decide)).mono ?_; rintro e w2 ⟨rfl, rfl⟩
  go_wp2_with fail
  go_quiet (fail)
  go_wp2_with fail
  go_ret3
  exact aft_yes HA.out rfl (((Below.refl _ _).alloc (Nat.le_refl _) _).trans ⟨rfl, rfl, rfl, Nat.le_refl _, fun _ _ => rfl⟩)
set_option maxRecDepth 100000 in
set_option maxHeartbeats 1000000 in
theorem after_5n (x : InsT) (s : ByteArray) (w : World) (k : x.op = 5) (hg : goodB s = true) (hs : s.size ≤ 1048576) (h : ¬ x.a < (slotsN s : Int)) :
    Calls Tryz.prog 49 #[.agg #[.int .i64 x.op, .int .i64 x.a, .int .i64 x.b, .int .i64 x.line, .string x.text], .string s] w (AftPost (after x s) w) := by
  have hz := good_size hg
  have HSL := Lib.hid (fun W => spec_l30Slots s W hg)
  have HG := Lib.hid hg
  have K_ := Lib.hid k
  have HA : Hid (after x s = none) := by show _ = _; simp only [after, K_.out]; exact if_neg h
  have hd : decide (x.a < (slotsN s : Int)) = false := decide_eq_false h
  rw [k]
  clear k hg
  go_enter Tryz.func49, Tryz.ntmps49
  go_wp2_with fail
  refine (HSL.out _).mono ?_; rintro e w1 ⟨rfl, rfl⟩
  go_wp2_with fail
  refine (spec_l30Ends s ⟨#[118]⟩ _ hs (by decide)).mono ?_; rintro e w2 ⟨rfl, rfl⟩
  go_wp2_with fail
  go_quiet (fail)
  go_wp2_with fail
  go_ret3
  exact aft_no HA.out rfl (((Below.refl _ _).alloc (Nat.le_refl _) _).trans ⟨rfl, rfl, rfl, Nat.le_refl _, fun _ _ => rfl⟩)
set_option maxRecDepth 100000 in
set_option maxHeartbeats 1000000 in
theorem after_13m (x : InsT) (s : ByteArray) (w : World) (k : x.op = 13) (hg : goodB s = true) (hs : s.size ≤ 1048576) (h : x.a = -1) :
    Calls Tryz.prog 49 #[.agg #[.int .i64 x.op, .int .i64 x.a, .int .i64 x.b, .int .i64 x.line, .string x.text], .string s] w (AftPost (after x s) w) := by
  have hz := good_size hg
  have HSL := Lib.hid (fun W => spec_l30Slots s W hg)
  have HG := Lib.hid hg
  have K_ := Lib.hid k
  have HA : Hid (after x s = some (s ++ ⟨#[109]⟩, ⟨#[]⟩)) := by show _ = _; simp only [after, K_.out]; rw [if_pos h]; rfl
  have ha : x.a < 0 := by omega
  clear h
  rw [k]
  clear k hg
  go_enter Tryz.func49, Tryz.ntmps49
  go_wp2_with fail
  refine (HSL.out _).mono ?_; rintro e w1 ⟨rfl, rfl⟩
  go_wp2_with fail
  refine (spec_l30Ends s ⟨#[118]⟩ _ hs (by decide)).mono ?_; rintro e w2 ⟨rfl, rfl⟩
  go_wp2_with fail
  go_ret3
  exact aft_yes HA.out rfl ((Below.refl _ _).alloc (Nat.le_refl _) _)
set_option maxRecDepth 100000 in
set_option maxHeartbeats 1000000 in
theorem after_13y (x : InsT) (s : ByteArray) (w : World) (k : x.op = 13) (hg : goodB s = true) (hs : s.size ≤ 1048576) (h : 0 ≤ x.a) :
    Calls Tryz.prog 49 #[.agg #[.int .i64 x.op, .int .i64 x.a, .int .i64 x.b, .int .i64 x.line, .string x.text], .string s] w (AftPost (after x s) w) := by
  have hz := good_size hg
  have HSL := Lib.hid (fun W => spec_l30Slots s W hg)
  have HG := Lib.hid hg
  have K_ := Lib.hid k
  have HA : Hid (after x s = some (s ++ ⟨#[109]⟩, s)) := by show _ = _; simp only [after, K_.out]; rw [if_neg (show ¬ x.a = -1 by omega)]; rfl
  rw [k]
  clear k hg
  go_enter Tryz.func49, Tryz.ntmps49
  go_wp2_with fail
  refine (HSL.out _).mono ?_; rintro e w1 ⟨rfl, rfl⟩
  go_wp2_with fail
  refine (spec_l30Ends s ⟨#[118]⟩ _ hs (by decide)).mono ?_; rintro e w2 ⟨rfl, rfl⟩
  go_wp2_with fail
  go_ret3
  exact aft_yes HA.out rfl ((Below.refl _ _).alloc (Nat.le_refl _) _)
set_option maxRecDepth 100000 in
set_option maxHeartbeats 1000000 in
theorem after_14n (x : InsT) (s : ByteArray) (w : World) (k : x.op = 14) (hg : goodB s = true) (hs : s.size ≤ 1048576) (h : markI s < 0) :
    Calls Tryz.prog 49 #[.agg #[.int .i64 x.op, .int .i64 x.a, .int .i64 x.b, .int .i64 x.line, .string x.text], .string s] w (AftPost (after x s) w) := by
  have hz := good_size hg
  have HSL := Lib.hid (fun W => spec_l30Slots s W hg)
  have HG := Lib.hid hg
  have K_ := Lib.hid k
  have HA : Hid (after x s = none) := by show _ = _; simp only [after, K_.out]; exact if_pos h
  have HP : Hid (markP s = -1) := if_pos h
  clear h
  rw [k]
  clear k hg
  go_enter Tryz.func49, Tryz.ntmps49
  go_wp2_with fail
  refine (HSL.out _).mono ?_; rintro e w1 ⟨rfl, rfl⟩
  go_wp2_with fail
  refine (spec_l30Ends s ⟨#[118]⟩ _ hs (by decide)).mono ?_; rintro e w2 ⟨rfl, rfl⟩
  go_wp2_with fail
  refine (spec_l30Mark s _ hz hs).mono ?_; rw [HP.out]; rintro e w3 ⟨rfl, rfl⟩
  go_wp2_with fail
  go_ret3
  exact aft_no HA.out rfl ((Below.refl _ _).alloc (Nat.le_refl _) _)
set_option maxRecDepth 100000 in
set_option maxHeartbeats 1000000 in
theorem after_14y (x : InsT) (s : ByteArray) (w : World) (k : x.op = 14) (hg : goodB s = true) (hs : s.size ≤ 1048576) (h : ¬ markI s < 0) :
    Calls Tryz.prog 49 #[.agg #[.int .i64 x.op, .int .i64 x.a, .int .i64 x.b, .int .i64 x.line, .string x.text], .string s] w (AftPost (after x s) w) := by
  have hz := good_size hg
  have HSL := Lib.hid (fun W => spec_l30Slots s W hg)
  have HG := Lib.hid hg
  have K_ := Lib.hid k
  obtain ⟨mk, hmk⟩ : ∃ mk : Nat, markI s = mk := ⟨(markI s).toNat, by omega⟩
  have hm1 : 1 + mk < s.size := by have := (mark_lt s).2 (by omega); omega
  have HA : Hid (after x s = some (s.extract 0 (1 + mk), ⟨#[]⟩)) := by show _ = _; simp only [after, K_.out]; rw [hmk]; exact if_neg (by omega)
  obtain ⟨m1, hm2⟩ : ∃ m1, 1 + mk = m1 := ⟨_, rfl⟩
  have HP : Hid (markP s = (m1 : Int)) := by show _ = _; rw [markP, if_neg h, hmk]; omega
  rw [hm2] at hm1 HA
  clear h hmk hm2
  rw [k]
  clear k hg
  go_enter Tryz.func49, Tryz.ntmps49
  go_wp2_with fail
  refine (HSL.out _).mono ?_; rintro e w1 ⟨rfl, rfl⟩
  go_wp2_with fail
  refine (spec_l30Ends s ⟨#[118]⟩ _ hs (by decide)).mono ?_; rintro e w2 ⟨rfl, rfl⟩
  go_wp2_with fail
  refine (spec_l30Mark s _ hz hs).mono ?_; rw [HP.out]; rintro e w3 ⟨rfl, rfl⟩
  go_wp2_with fail
  go_ret3
  exact aft_yes HA.out rfl ((Below.refl _ _).alloc (Nat.le_refl _) _)
set_option maxRecDepth 100000 in
set_option maxHeartbeats 1000000 in
theorem after_15 (x : InsT) (s : ByteArray) (w : World) (k : x.op = 15) (hg : goodB s = true) (hs : s.size ≤ 1048576) :
    Calls Tryz.prog 49 #[.agg #[.int .i64 x.op, .int .i64 x.a, .int .i64 x.b, .int .i64 x.line, .string x.text], .string s] w (AftPost (after x s) w) := by
  have hz := good_size hg
  have HSL := Lib.hid (fun W => spec_l30Slots s W hg)
  have HG := Lib.hid hg
  have K_ := Lib.hid k
  have HA : Hid (after x s = some (⟨#[]⟩, s)) := by show _ = _; simp only [after, K_.out]; rfl
  rw [k]
  clear k hg
  go_enter Tryz.func49, Tryz.ntmps49
  go_wp2_with fail
  refine (HSL.out _).mono ?_; rintro e w1 ⟨rfl, rfl⟩
  go_wp2_with fail
  refine (spec_l30Ends s ⟨#[118]⟩ _ hs (by decide)).mono ?_; rintro e w2 ⟨rfl, rfl⟩
  go_wp2_with fail
  go_ret3
  exact aft_yes HA.out rfl ((Below.refl _ _).alloc (Nat.le_refl _) _)
set_option maxRecDepth 100000 in
set_option maxHeartbeats 1000000 in
theorem after_16 (x : InsT) (s : ByteArray) (w : World) (k : x.op = 16) (hg : goodB s = true) (hs : s.size ≤ 1048576) :
    Calls Tryz.prog 49 #[.agg #[.int .i64 x.op, .int .i64 x.a, .int .i64 x.b, .int .i64 x.line, .string x.text], .string s] w (AftPost (after x s) w) := by
  have hz := good_size hg
  have HSL := Lib.hid (fun W => spec_l30Slots s W hg)
  have HG := Lib.hid hg
  have K_ := Lib.hid k
  have HA : Hid (after x s = some (⟨#[]⟩, ⟨#[]⟩)) := by show _ = _; simp only [after, K_.out]; rfl
  rw [k]
  clear k hg
  go_enter Tryz.func49, Tryz.ntmps49
  go_wp2_with fail
  refine (HSL.out _).mono ?_; rintro e w1 ⟨rfl, rfl⟩
  go_wp2_with fail
  refine (spec_l30Ends s ⟨#[118]⟩ _ hs (by decide)).mono ?_; rintro e w2 ⟨rfl, rfl⟩
  go_wp2_with fail
  go_ret3
  exact aft_yes HA.out rfl ((Below.refl _ _).alloc (Nat.le_refl _) _)
set_option maxRecDepth 100000 in
set_option maxHeartbeats 1000000 in
theorem after_17 (x : InsT) (s : ByteArray) (w : World) (k : x.op = 17) (hg : goodB s = true) (hs : s.size ≤ 1048576) :
    Calls Tryz.prog 49 #[.agg #[.int .i64 x.op, .int .i64 x.a, .int .i64 x.b, .int .i64 x.line, .string x.text], .string s] w (AftPost (after x s) w) := by
  have hz := good_size hg
  have HSL := Lib.hid (fun W => spec_l30Slots s W hg)
  have HG := Lib.hid hg
  have K_ := Lib.hid k
  have HA : Hid (after x s = some (s, s)) := by show _ = _; simp only [after, K_.out]; rfl
  rw [k]
  clear k hg
  go_enter Tryz.func49, Tryz.ntmps49
  go_wp2_with fail
  refine (HSL.out _).mono ?_; rintro e w1 ⟨rfl, rfl⟩
  go_wp2_with fail
  refine (spec_l30Ends s ⟨#[118]⟩ _ hs (by decide)).mono ?_; rintro e w2 ⟨rfl, rfl⟩
  go_wp2_with fail
  go_ret3
  exact aft_yes HA.out rfl ((Below.refl _ _).alloc (Nat.le_refl _) _)
set_option maxRecDepth 100000 in
set_option maxHeartbeats 1000000 in
theorem after_18 (x : InsT) (s : ByteArray) (w : World) (k : x.op = 18) (hg : goodB s = true) (hs : s.size ≤ 1048576) :
    Calls Tryz.prog 49 #[.agg #[.int .i64 x.op, .int .i64 x.a, .int .i64 x.b, .int .i64 x.line, .string x.text], .string s] w (AftPost (after x s) w) := by
  have hz := good_size hg
  have HSL := Lib.hid (fun W => spec_l30Slots s W hg)
  have HG := Lib.hid hg
  have K_ := Lib.hid k
  have HA : Hid (after x s = some (s, ⟨#[]⟩)) := by show _ = _; simp only [after, K_.out]; rfl
  rw [k]
  clear k hg
  go_enter Tryz.func49, Tryz.ntmps49
  go_wp2_with fail
  refine (HSL.out _).mono ?_; rintro e w1 ⟨rfl, rfl⟩
  go_wp2_with fail
  refine (spec_l30Ends s ⟨#[118]⟩ _ hs (by decide)).mono ?_; rintro e w2 ⟨rfl, rfl⟩
  go_wp2_with fail
  go_ret3
  exact aft_yes HA.out rfl ((Below.refl _ _).alloc (Nat.le_refl _) _)
set_option maxRecDepth 100000 in
set_option maxHeartbeats 1000000 in
theorem after_19y (x : InsT) (s : ByteArray) (w : World) (k : x.op = 19) (hg : goodB s = true) (hs : s.size ≤ 1048576) (h : endsB s ⟨#[109, 118]⟩ = true) :
    Calls Tryz.prog 49 #[.agg #[.int .i64 x.op, .int .i64 x.a, .int .i64 x.b, .int .i64 x.line, .string x.text], .string s] w (AftPost (after x s) w) := by
  have hz := good_size hg
  have HSL := Lib.hid (fun W => spec_l30Slots s W hg)
  have HG := Lib.hid hg
  have K_ := Lib.hid k
  have h2 : 2 < s.size := ends_size h
  have HA : Hid (after x s = some (cutN s 2 ++ ⟨#[118]⟩, cutN s 2)) := by show _ = _; simp only [after, K_.out]; exact if_pos h
  have HE := Lib.hid h
  unfold cutN at HA
  clear h
  rw [k]
  clear k hg
  go_enter Tryz.func49, Tryz.ntmps49
  go_wp2_with fail
  refine (HSL.out _).mono ?_; rintro e w1 ⟨rfl, rfl⟩
  go_wp2_with fail
  refine (spec_l30Ends s ⟨#[118]⟩ _ hs (by decide)).mono ?_; rintro e w2 ⟨rfl, rfl⟩
  go_wp2_with fail
  refine (spec_l30Ends s ⟨#[109, 118]⟩ _ hs (by decide)).mono ?_; rw [HE.out]; rintro e w3 ⟨rfl, rfl⟩
  go_wp2_with fail
  go_quiet (fail)
  go_wp2_with fail
  go_ret3
  exact aft_yes HA.out rfl (((Below.refl _ _).alloc (Nat.le_refl _) _).trans ⟨rfl, rfl, rfl, Nat.le_refl _, fun _ _ => rfl⟩)
set_option maxRecDepth 100000 in
set_option maxHeartbeats 1000000 in
theorem after_19n (x : InsT) (s : ByteArray) (w : World) (k : x.op = 19) (hg : goodB s = true) (hs : s.size ≤ 1048576) (h : endsB s ⟨#[109, 118]⟩ = false) :
    Calls Tryz.prog 49 #[.agg #[.int .i64 x.op, .int .i64 x.a, .int .i64 x.b, .int .i64 x.line, .string x.text], .string s] w (AftPost (after x s) w) := by
  have hz := good_size hg
  have HSL := Lib.hid (fun W => spec_l30Slots s W hg)
  have HG := Lib.hid hg
  have K_ := Lib.hid k
  have HA : Hid (after x s = none) := by show _ = _; simp only [after, K_.out]; exact if_neg (show ¬ endsB s ⟨#[109, 118]⟩ = true by rw [h]; decide)
  have HE := Lib.hid h
  clear h
  rw [k]
  clear k hg
  go_enter Tryz.func49, Tryz.ntmps49
  go_wp2_with fail
  refine (HSL.out _).mono ?_; rintro e w1 ⟨rfl, rfl⟩
  go_wp2_with fail
  refine (spec_l30Ends s ⟨#[118]⟩ _ hs (by decide)).mono ?_; rintro e w2 ⟨rfl, rfl⟩
  go_wp2_with fail
  refine (spec_l30Ends s ⟨#[109, 118]⟩ _ hs (by decide)).mono ?_; rw [HE.out]; rintro e w3 ⟨rfl, rfl⟩
  go_wp2_with fail
  go_ret3
  exact aft_no HA.out rfl ((Below.refl _ _).alloc (Nat.le_refl _) _)
set_option maxRecDepth 100000 in
set_option maxHeartbeats 1000000 in
theorem after_21y (x : InsT) (s : ByteArray) (w : World) (k : x.op = 21) (hg : goodB s = true) (hs : s.size ≤ 1048576) (h : endsB s ⟨#[109, 118]⟩ = true) :
    Calls Tryz.prog 49 #[.agg #[.int .i64 x.op, .int .i64 x.a, .int .i64 x.b, .int .i64 x.line, .string x.text], .string s] w (AftPost (after x s) w) := by
  have hz := good_size hg
  have HSL := Lib.hid (fun W => spec_l30Slots s W hg)
  have HG := Lib.hid hg
  have K_ := Lib.hid k
  have h2 : 2 < s.size := ends_size h
  have HA : Hid (after x s = some (cutN s 2 ++ ⟨#[118]⟩, ⟨#[]⟩)) := by show _ = _; simp only [after, K_.out]; exact if_pos h
  have HE := Lib.hid h
  unfold cutN at HA
  clear h
  rw [k]
  clear k hg
  go_enter Tryz.func49, Tryz.ntmps49
  go_wp2_with fail
  refine (HSL.out _).mono ?_; rintro e w1 ⟨rfl, rfl⟩
  go_wp2_with fail
  refine (spec_l30Ends s ⟨#[118]⟩ _ hs (by decide)).mono ?_; rintro e w2 ⟨rfl, rfl⟩
  go_wp2_with fail
  refine (spec_l30Ends s ⟨#[109, 118]⟩ _ hs (by decide)).mono ?_; rw [HE.out]; rintro e w3 ⟨rfl, rfl⟩
  go_wp2_with fail
  go_ret3
  exact aft_yes HA.out rfl ((Below.refl _ _).alloc (Nat.le_refl _) _)
set_option maxRecDepth 100000 in
set_option maxHeartbeats 1000000 in
theorem after_21n (x : InsT) (s : ByteArray) (w : World) (k : x.op = 21) (hg : goodB s = true) (hs : s.size ≤ 1048576) (h : endsB s ⟨#[109, 118]⟩ = false) :
    Calls Tryz.prog 49 #[.agg #[.int .i64 x.op, .int .i64 x.a, .int .i64 x.b, .int .i64 x.line, .string x.text], .string s] w (AftPost (after x s) w) := by
  have hz := good_size hg
  have HSL := Lib.hid (fun W => spec_l30Slots s W hg)
  have HG := Lib.hid hg
  have K_ := Lib.hid k
  have HA : Hid (after x s = none) := by show _ = _; simp only [after, K_.out]; exact if_neg (show ¬ endsB s ⟨#[109, 118]⟩ = true by rw [h]; decide)
  have HE := Lib.hid h
  clear h
  rw [k]
  clear k hg
  go_enter Tryz.func49, Tryz.ntmps49
  go_wp2_with fail
  refine (HSL.out _).mono ?_; rintro e w1 ⟨rfl, rfl⟩
  go_wp2_with fail
  refine (spec_l30Ends s ⟨#[118]⟩ _ hs (by decide)).mono ?_; rintro e w2 ⟨rfl, rfl⟩
  go_wp2_with fail
  refine (spec_l30Ends s ⟨#[109, 118]⟩ _ hs (by decide)).mono ?_; rw [HE.out]; rintro e w3 ⟨rfl, rfl⟩
  go_wp2_with fail
  go_ret3
  exact aft_no HA.out rfl ((Below.refl _ _).alloc (Nat.le_refl _) _)
set_option maxRecDepth 100000 in
set_option maxHeartbeats 1000000 in
theorem after_23y (x : InsT) (s : ByteArray) (w : World) (k : x.op = 23) (hg : goodB s = true) (hs : s.size ≤ 1048576) (h : endsB s ⟨#[115, 118]⟩ = true) :
    Calls Tryz.prog 49 #[.agg #[.int .i64 x.op, .int .i64 x.a, .int .i64 x.b, .int .i64 x.line, .string x.text], .string s] w (AftPost (after x s) w) := by
  have hz := good_size hg
  have HSL := Lib.hid (fun W => spec_l30Slots s W hg)
  have HG := Lib.hid hg
  have K_ := Lib.hid k
  have h2 : 2 < s.size := ends_size h
  have HA : Hid (after x s = some (cutN s 2 ++ ⟨#[118]⟩, ⟨#[]⟩)) := by show _ = _; simp only [after, K_.out]; exact if_pos h
  have HE := Lib.hid h
  unfold cutN at HA
  clear h
  rw [k]
  clear k hg
  go_enter Tryz.func49, Tryz.ntmps49
  go_wp2_with fail
  refine (HSL.out _).mono ?_; rintro e w1 ⟨rfl, rfl⟩
  go_wp2_with fail
  refine (spec_l30Ends s ⟨#[118]⟩ _ hs (by decide)).mono ?_; rintro e w2 ⟨rfl, rfl⟩
  go_wp2_with fail
  refine (spec_l30Ends s ⟨#[115, 118]⟩ _ hs (by decide)).mono ?_; rw [HE.out]; rintro e w3 ⟨rfl, rfl⟩
  go_wp2_with fail
  go_ret3
  exact aft_yes HA.out rfl ((Below.refl _ _).alloc (Nat.le_refl _) _)
set_option maxRecDepth 100000 in
set_option maxHeartbeats 1000000 in
theorem after_23n (x : InsT) (s : ByteArray) (w : World) (k : x.op = 23) (hg : goodB s = true) (hs : s.size ≤ 1048576) (h : endsB s ⟨#[115, 118]⟩ = false) :
    Calls Tryz.prog 49 #[.agg #[.int .i64 x.op, .int .i64 x.a, .int .i64 x.b, .int .i64 x.line, .string x.text], .string s] w (AftPost (after x s) w) := by
  have hz := good_size hg
  have HSL := Lib.hid (fun W => spec_l30Slots s W hg)
  have HG := Lib.hid hg
  have K_ := Lib.hid k
  have HA : Hid (after x s = none) := by show _ = _; simp only [after, K_.out]; exact if_neg (show ¬ endsB s ⟨#[115, 118]⟩ = true by rw [h]; decide)
  have HE := Lib.hid h
  clear h
  rw [k]
  clear k hg
  go_enter Tryz.func49, Tryz.ntmps49
  go_wp2_with fail
  refine (HSL.out _).mono ?_; rintro e w1 ⟨rfl, rfl⟩
  go_wp2_with fail
  refine (spec_l30Ends s ⟨#[118]⟩ _ hs (by decide)).mono ?_; rintro e w2 ⟨rfl, rfl⟩
  go_wp2_with fail
  refine (spec_l30Ends s ⟨#[115, 118]⟩ _ hs (by decide)).mono ?_; rw [HE.out]; rintro e w3 ⟨rfl, rfl⟩
  go_wp2_with fail
  go_ret3
  exact aft_no HA.out rfl ((Below.refl _ _).alloc (Nat.le_refl _) _)
set_option maxRecDepth 100000 in
set_option maxHeartbeats 1000000 in
theorem after_20y (x : InsT) (s : ByteArray) (w : World) (k : x.op = 20) (hg : goodB s = true) (hs : s.size ≤ 1048576) (h : endsB s ⟨#[118]⟩ = true) :
    Calls Tryz.prog 49 #[.agg #[.int .i64 x.op, .int .i64 x.a, .int .i64 x.b, .int .i64 x.line, .string x.text], .string s] w (AftPost (after x s) w) := by
  have hz := good_size hg
  have HSL := Lib.hid (fun W => spec_l30Slots s W hg)
  have HG := Lib.hid hg
  have K_ := Lib.hid k
  have h2 : 1 < s.size := ends_size h
  have HA : Hid (after x s = some (cutN s 1 ++ ⟨#[109]⟩, ⟨#[]⟩)) := by show _ = _; simp only [after, K_.out]; exact if_pos h
  have HVV := Lib.hid h
  clear h
  unfold cutN at HA
  rw [k]
  clear k hg
  go_enter Tryz.func49, Tryz.ntmps49
  go_wp2_with fail
  refine (HSL.out _).mono ?_; rintro e w1 ⟨rfl, rfl⟩
  go_wp2_with fail
  refine (spec_l30Ends s ⟨#[118]⟩ _ hs (by decide)).mono ?_; rw [HVV.out]; rintro e w2 ⟨rfl, rfl⟩
  go_wp2_with fail
  go_ret3
  exact aft_yes HA.out rfl ((Below.refl _ _).alloc (Nat.le_refl _) _)
set_option maxRecDepth 100000 in
set_option maxHeartbeats 1000000 in
theorem after_20n (x : InsT) (s : ByteArray) (w : World) (k : x.op = 20) (hg : goodB s = true) (hs : s.size ≤ 1048576) (h : endsB s ⟨#[118]⟩ = false) :
    Calls Tryz.prog 49 #[.agg #[.int .i64 x.op, .int .i64 x.a, .int .i64 x.b, .int .i64 x.line, .string x.text], .string s] w (AftPost (after x s) w) := by
  have hz := good_size hg
  have HSL := Lib.hid (fun W => spec_l30Slots s W hg)
  have HG := Lib.hid hg
  have K_ := Lib.hid k
  have HA : Hid (after x s = none) := by show _ = _; simp only [after, K_.out]; exact if_neg (show ¬ endsB s ⟨#[118]⟩ = true by rw [h]; decide)
  have HVV := Lib.hid h
  clear h
  rw [k]
  clear k hg
  go_enter Tryz.func49, Tryz.ntmps49
  go_wp2_with fail
  refine (HSL.out _).mono ?_; rintro e w1 ⟨rfl, rfl⟩
  go_wp2_with fail
  refine (spec_l30Ends s ⟨#[118]⟩ _ hs (by decide)).mono ?_; rw [HVV.out]; rintro e w2 ⟨rfl, rfl⟩
  go_wp2_with fail
  go_ret3
  exact aft_no HA.out rfl ((Below.refl _ _).alloc (Nat.le_refl _) _)
set_option maxRecDepth 100000 in
set_option maxHeartbeats 1000000 in
theorem after_22y (x : InsT) (s : ByteArray) (w : World) (k : x.op = 22) (hg : goodB s = true) (hs : s.size ≤ 1048576) (h : endsB s ⟨#[118]⟩ = true) :
    Calls Tryz.prog 49 #[.agg #[.int .i64 x.op, .int .i64 x.a, .int .i64 x.b, .int .i64 x.line, .string x.text], .string s] w (AftPost (after x s) w) := by
  have hz := good_size hg
  have HSL := Lib.hid (fun W => spec_l30Slots s W hg)
  have HG := Lib.hid hg
  have K_ := Lib.hid k
  have h2 : 1 < s.size := ends_size h
  have HA : Hid (after x s = some (cutN s 1 ++ ⟨#[115]⟩, ⟨#[]⟩)) := by show _ = _; simp only [after, K_.out]; exact if_pos h
  have HVV := Lib.hid h
  clear h
  unfold cutN at HA
  rw [k]
  clear k hg
  go_enter Tryz.func49, Tryz.ntmps49
  go_wp2_with fail
  refine (HSL.out _).mono ?_; rintro e w1 ⟨rfl, rfl⟩
  go_wp2_with fail
  refine (spec_l30Ends s ⟨#[118]⟩ _ hs (by decide)).mono ?_; rw [HVV.out]; rintro e w2 ⟨rfl, rfl⟩
  go_wp2_with fail
  go_ret3
  exact aft_yes HA.out rfl ((Below.refl _ _).alloc (Nat.le_refl _) _)
set_option maxRecDepth 100000 in
set_option maxHeartbeats 1000000 in
theorem after_22n (x : InsT) (s : ByteArray) (w : World) (k : x.op = 22) (hg : goodB s = true) (hs : s.size ≤ 1048576) (h : endsB s ⟨#[118]⟩ = false) :
    Calls Tryz.prog 49 #[.agg #[.int .i64 x.op, .int .i64 x.a, .int .i64 x.b, .int .i64 x.line, .string x.text], .string s] w (AftPost (after x s) w) := by
  have hz := good_size hg
  have HSL := Lib.hid (fun W => spec_l30Slots s W hg)
  have HG := Lib.hid hg
  have K_ := Lib.hid k
  have HA : Hid (after x s = none) := by show _ = _; simp only [after, K_.out]; exact if_neg (show ¬ endsB s ⟨#[118]⟩ = true by rw [h]; decide)
  have HVV := Lib.hid h
  clear h
  rw [k]
  clear k hg
  go_enter Tryz.func49, Tryz.ntmps49
  go_wp2_with fail
  refine (HSL.out _).mono ?_; rintro e w1 ⟨rfl, rfl⟩
  go_wp2_with fail
  refine (spec_l30Ends s ⟨#[118]⟩ _ hs (by decide)).mono ?_; rw [HVV.out]; rintro e w2 ⟨rfl, rfl⟩
  go_wp2_with fail
  go_ret3
  exact aft_no HA.out rfl ((Below.refl _ _).alloc (Nat.le_refl _) _)
set_option maxRecDepth 100000 in
set_option maxHeartbeats 1000000 in
theorem after_29y (x : InsT) (s : ByteArray) (w : World) (k : x.op = 29) (hg : goodB s = true) (hs : s.size ≤ 1048576) (h : endsB s ⟨#[118]⟩ = true) :
    Calls Tryz.prog 49 #[.agg #[.int .i64 x.op, .int .i64 x.a, .int .i64 x.b, .int .i64 x.line, .string x.text], .string s] w (AftPost (after x s) w) := by
  have hz := good_size hg
  have HSL := Lib.hid (fun W => spec_l30Slots s W hg)
  have HG := Lib.hid hg
  have K_ := Lib.hid k
  have h2 : 1 < s.size := ends_size h
  have HA : Hid (after x s = some (s, ⟨#[]⟩)) := by show _ = _; simp only [after, K_.out]; exact if_pos h
  have HVV := Lib.hid h
  clear h
  rw [k]
  clear k hg
  go_enter Tryz.func49, Tryz.ntmps49
  go_wp2_with fail
  refine (HSL.out _).mono ?_; rintro e w1 ⟨rfl, rfl⟩
  go_wp2_with fail
  refine (spec_l30Ends s ⟨#[118]⟩ _ hs (by decide)).mono ?_; rw [HVV.out]; rintro e w2 ⟨rfl, rfl⟩
  go_wp2_with fail
  go_ret3
  exact aft_yes HA.out rfl ((Below.refl _ _).alloc (Nat.le_refl _) _)
set_option maxRecDepth 100000 in
set_option maxHeartbeats 1000000 in
theorem after_29n (x : InsT) (s : ByteArray) (w : World) (k : x.op = 29) (hg : goodB s = true) (hs : s.size ≤ 1048576) (h : endsB s ⟨#[118]⟩ = false) :
    Calls Tryz.prog 49 #[.agg #[.int .i64 x.op, .int .i64 x.a, .int .i64 x.b, .int .i64 x.line, .string x.text], .string s] w (AftPost (after x s) w) := by
  have hz := good_size hg
  have HSL := Lib.hid (fun W => spec_l30Slots s W hg)
  have HG := Lib.hid hg
  have K_ := Lib.hid k
  have HA : Hid (after x s = none) := by show _ = _; simp only [after, K_.out]; exact if_neg (show ¬ endsB s ⟨#[118]⟩ = true by rw [h]; decide)
  have HVV := Lib.hid h
  clear h
  rw [k]
  clear k hg
  go_enter Tryz.func49, Tryz.ntmps49
  go_wp2_with fail
  refine (HSL.out _).mono ?_; rintro e w1 ⟨rfl, rfl⟩
  go_wp2_with fail
  refine (spec_l30Ends s ⟨#[118]⟩ _ hs (by decide)).mono ?_; rw [HVV.out]; rintro e w2 ⟨rfl, rfl⟩
  go_wp2_with fail
  go_ret3
  exact aft_no HA.out rfl ((Below.refl _ _).alloc (Nat.le_refl _) _)
set_option maxRecDepth 100000 in
set_option maxHeartbeats 1000000 in
theorem after_30y (x : InsT) (s : ByteArray) (w : World) (k : x.op = 30) (hg : goodB s = true) (hs : s.size ≤ 1048576) (h : endsB s ⟨#[118]⟩ = true) :
    Calls Tryz.prog 49 #[.agg #[.int .i64 x.op, .int .i64 x.a, .int .i64 x.b, .int .i64 x.line, .string x.text], .string s] w (AftPost (after x s) w) := by
  have hz := good_size hg
  have HSL := Lib.hid (fun W => spec_l30Slots s W hg)
  have HG := Lib.hid hg
  have K_ := Lib.hid k
  have h2 : 1 < s.size := ends_size h
  have HA : Hid (after x s = some (cutN s 1, ⟨#[]⟩)) := by show _ = _; simp only [after, K_.out]; exact if_pos h
  have HVV := Lib.hid h
  clear h
  unfold cutN at HA
  rw [k]
  clear k hg
  go_enter Tryz.func49, Tryz.ntmps49
  go_wp2_with fail
  refine (HSL.out _).mono ?_; rintro e w1 ⟨rfl, rfl⟩
  go_wp2_with fail
  refine (spec_l30Ends s ⟨#[118]⟩ _ hs (by decide)).mono ?_; rw [HVV.out]; rintro e w2 ⟨rfl, rfl⟩
  go_wp2_with fail
  go_ret3
  exact aft_yes HA.out rfl ((Below.refl _ _).alloc (Nat.le_refl _) _)
set_option maxRecDepth 100000 in
set_option maxHeartbeats 1000000 in
theorem after_30n (x : InsT) (s : ByteArray) (w : World) (k : x.op = 30) (hg : goodB s = true) (hs : s.size ≤ 1048576) (h : endsB s ⟨#[118]⟩ = false) :
    Calls Tryz.prog 49 #[.agg #[.int .i64 x.op, .int .i64 x.a, .int .i64 x.b, .int .i64 x.line, .string x.text], .string s] w (AftPost (after x s) w) := by
  have hz := good_size hg
  have HSL := Lib.hid (fun W => spec_l30Slots s W hg)
  have HG := Lib.hid hg
  have K_ := Lib.hid k
  have HA : Hid (after x s = none) := by show _ = _; simp only [after, K_.out]; exact if_neg (show ¬ endsB s ⟨#[118]⟩ = true by rw [h]; decide)
  have HVV := Lib.hid h
  clear h
  rw [k]
  clear k hg
  go_enter Tryz.func49, Tryz.ntmps49
  go_wp2_with fail
  refine (HSL.out _).mono ?_; rintro e w1 ⟨rfl, rfl⟩
  go_wp2_with fail
  refine (spec_l30Ends s ⟨#[118]⟩ _ hs (by decide)).mono ?_; rw [HVV.out]; rintro e w2 ⟨rfl, rfl⟩
  go_wp2_with fail
  go_ret3
  exact aft_no HA.out rfl ((Below.refl _ _).alloc (Nat.le_refl _) _)
set_option maxRecDepth 100000 in
set_option maxHeartbeats 1000000 in
theorem after_24y (x : InsT) (s : ByteArray) (w : World) (k : x.op = 24) (hg : goodB s = true) (hs : s.size ≤ 1048576) (hr : routB s = true) (h : endsB s ⟨#[118]⟩ = true) :
    Calls Tryz.prog 49 #[.agg #[.int .i64 x.op, .int .i64 x.a, .int .i64 x.b, .int .i64 x.line, .string x.text], .string s] w (AftPost (after x s) w) := by
  have hz := good_size hg
  have HSL := Lib.hid (fun W => spec_l30Slots s W hg)
  have HG := Lib.hid hg
  have K_ := Lib.hid k
  have h2 : 1 < s.size := ends_size h
  have HA : Hid (after x s = some (⟨#[]⟩, ⟨#[]⟩)) := by show _ = _; simp only [after, K_.out]; exact if_pos (show routB s = true ∧ endsB s ⟨#[118]⟩ = true from ⟨hr, h⟩)
  have HRT := Lib.hid hr
  have HVV := Lib.hid h
  clear h hr
  rw [k]
  clear k hg
  go_enter Tryz.func49, Tryz.ntmps49
  go_wp2_with fail
  refine (HSL.out _).mono ?_; rw [HRT.out]; rintro e w1 ⟨rfl, rfl⟩
  go_wp2_with fail
  refine (spec_l30Ends s ⟨#[118]⟩ _ hs (by decide)).mono ?_; rw [HVV.out]; rintro e w2 ⟨rfl, rfl⟩
  go_wp2_with fail
  go_ret3
  exact aft_yes HA.out rfl ((Below.refl _ _).alloc (Nat.le_refl _) _)
set_option maxRecDepth 100000 in
set_option maxHeartbeats 1000000 in
theorem after_24n (x : InsT) (s : ByteArray) (w : World) (k : x.op = 24) (hg : goodB s = true) (hs : s.size ≤ 1048576) (hr : routB s = true) (h : endsB s ⟨#[118]⟩ = false) :
    Calls Tryz.prog 49 #[.agg #[.int .i64 x.op, .int .i64 x.a, .int .i64 x.b, .int .i64 x.line, .string x.text], .string s] w (AftPost (after x s) w) := by
  have hz := good_size hg
  have HSL := Lib.hid (fun W => spec_l30Slots s W hg)
  have HG := Lib.hid hg
  have K_ := Lib.hid k
  have HA : Hid (after x s = none) := by show _ = _; simp only [after, K_.out]; exact if_neg (show ¬ (routB s = true ∧ endsB s ⟨#[118]⟩ = true) by rw [h]; simp)
  have HRT := Lib.hid hr
  have HVV := Lib.hid h
  clear h hr
  rw [k]
  clear k hg
  go_enter Tryz.func49, Tryz.ntmps49
  go_wp2_with fail
  refine (HSL.out _).mono ?_; rw [HRT.out]; rintro e w1 ⟨rfl, rfl⟩
  go_wp2_with fail
  refine (spec_l30Ends s ⟨#[118]⟩ _ hs (by decide)).mono ?_; rw [HVV.out]; rintro e w2 ⟨rfl, rfl⟩
  go_wp2_with fail
  go_ret3
  exact aft_no HA.out rfl ((Below.refl _ _).alloc (Nat.le_refl _) _)
set_option maxRecDepth 100000 in
set_option maxHeartbeats 1000000 in
theorem after_24r (x : InsT) (s : ByteArray) (w : World) (k : x.op = 24) (hg : goodB s = true) (hs : s.size ≤ 1048576) (hr : routB s = false) :
    Calls Tryz.prog 49 #[.agg #[.int .i64 x.op, .int .i64 x.a, .int .i64 x.b, .int .i64 x.line, .string x.text], .string s] w (AftPost (after x s) w) := by
  have hz := good_size hg
  have HSL := Lib.hid (fun W => spec_l30Slots s W hg)
  have HG := Lib.hid hg
  have K_ := Lib.hid k
  have HA : Hid (after x s = none) := by show _ = _; simp only [after, K_.out]; exact if_neg (show ¬ (routB s = true ∧ endsB s ⟨#[118]⟩ = true) by rw [hr]; simp)
  have HRT := Lib.hid hr
  clear hr
  rw [k]
  clear k hg
  go_enter Tryz.func49, Tryz.ntmps49
  go_wp2_with fail
  refine (HSL.out _).mono ?_; rw [HRT.out]; rintro e w1 ⟨rfl, rfl⟩
  go_wp2_with fail
  refine (spec_l30Ends s ⟨#[118]⟩ _ hs (by decide)).mono ?_; rintro e w2 ⟨rfl, rfl⟩
  go_wp2_with fail
  go_ret3
  exact aft_no HA.out rfl ((Below.refl _ _).alloc (Nat.le_refl _) _)
set_option maxRecDepth 100000 in
set_option maxHeartbeats 1000000 in
theorem after_26y (x : InsT) (s : ByteArray) (w : World) (k : x.op = 26) (hg : goodB s = true) (hs : s.size ≤ 1048576) (hr : routB s = true) (h : endsB s ⟨#[118]⟩ = true) :
    Calls Tryz.prog 49 #[.agg #[.int .i64 x.op, .int .i64 x.a, .int .i64 x.b, .int .i64 x.line, .string x.text], .string s] w (AftPost (after x s) w) := by
  have hz := good_size hg
  have HSL := Lib.hid (fun W => spec_l30Slots s W hg)
  have HG := Lib.hid hg
  have K_ := Lib.hid k
  have h2 : 1 < s.size := ends_size h
  have HA : Hid (after x s = some (cutN s 1, ⟨#[]⟩)) := by show _ = _; simp only [after, K_.out]; exact if_pos (show routB s = true ∧ endsB s ⟨#[118]⟩ = true from ⟨hr, h⟩)
  have HRT := Lib.hid hr
  have HVV := Lib.hid h
  clear h hr
  unfold cutN at HA
  rw [k]
  clear k hg
  go_enter Tryz.func49, Tryz.ntmps49
  go_wp2_with fail
  refine (HSL.out _).mono ?_; rw [HRT.out]; rintro e w1 ⟨rfl, rfl⟩
  go_wp2_with fail
  refine (spec_l30Ends s ⟨#[118]⟩ _ hs (by decide)).mono ?_; rw [HVV.out]; rintro e w2 ⟨rfl, rfl⟩
  go_wp2_with fail
  go_ret3
  exact aft_yes HA.out rfl ((Below.refl _ _).alloc (Nat.le_refl _) _)
set_option maxRecDepth 100000 in
set_option maxHeartbeats 1000000 in
theorem after_26n (x : InsT) (s : ByteArray) (w : World) (k : x.op = 26) (hg : goodB s = true) (hs : s.size ≤ 1048576) (hr : routB s = true) (h : endsB s ⟨#[118]⟩ = false) :
    Calls Tryz.prog 49 #[.agg #[.int .i64 x.op, .int .i64 x.a, .int .i64 x.b, .int .i64 x.line, .string x.text], .string s] w (AftPost (after x s) w) := by
  have hz := good_size hg
  have HSL := Lib.hid (fun W => spec_l30Slots s W hg)
  have HG := Lib.hid hg
  have K_ := Lib.hid k
  have HA : Hid (after x s = none) := by show _ = _; simp only [after, K_.out]; exact if_neg (show ¬ (routB s = true ∧ endsB s ⟨#[118]⟩ = true) by rw [h]; simp)
  have HRT := Lib.hid hr
  have HVV := Lib.hid h
  clear h hr
  rw [k]
  clear k hg
  go_enter Tryz.func49, Tryz.ntmps49
  go_wp2_with fail
  refine (HSL.out _).mono ?_; rw [HRT.out]; rintro e w1 ⟨rfl, rfl⟩
  go_wp2_with fail
  refine (spec_l30Ends s ⟨#[118]⟩ _ hs (by decide)).mono ?_; rw [HVV.out]; rintro e w2 ⟨rfl, rfl⟩
  go_wp2_with fail
  go_ret3
  exact aft_no HA.out rfl ((Below.refl _ _).alloc (Nat.le_refl _) _)
set_option maxRecDepth 100000 in
set_option maxHeartbeats 1000000 in
theorem after_26r (x : InsT) (s : ByteArray) (w : World) (k : x.op = 26) (hg : goodB s = true) (hs : s.size ≤ 1048576) (hr : routB s = false) :
    Calls Tryz.prog 49 #[.agg #[.int .i64 x.op, .int .i64 x.a, .int .i64 x.b, .int .i64 x.line, .string x.text], .string s] w (AftPost (after x s) w) := by
  have hz := good_size hg
  have HSL := Lib.hid (fun W => spec_l30Slots s W hg)
  have HG := Lib.hid hg
  have K_ := Lib.hid k
  have HA : Hid (after x s = none) := by show _ = _; simp only [after, K_.out]; exact if_neg (show ¬ (routB s = true ∧ endsB s ⟨#[118]⟩ = true) by rw [hr]; simp)
  have HRT := Lib.hid hr
  clear hr
  rw [k]
  clear k hg
  go_enter Tryz.func49, Tryz.ntmps49
  go_wp2_with fail
  refine (HSL.out _).mono ?_; rw [HRT.out]; rintro e w1 ⟨rfl, rfl⟩
  go_wp2_with fail
  refine (spec_l30Ends s ⟨#[118]⟩ _ hs (by decide)).mono ?_; rintro e w2 ⟨rfl, rfl⟩
  go_wp2_with fail
  go_ret3
  exact aft_no HA.out rfl ((Below.refl _ _).alloc (Nat.le_refl _) _)
set_option maxRecDepth 100000 in
set_option maxHeartbeats 1000000 in
theorem after_28y (x : InsT) (s : ByteArray) (w : World) (k : x.op = 28) (hg : goodB s = true) (hs : s.size ≤ 1048576) (hr : routB s = false) (h : endsB s ⟨#[118]⟩ = true) :
    Calls Tryz.prog 49 #[.agg #[.int .i64 x.op, .int .i64 x.a, .int .i64 x.b, .int .i64 x.line, .string x.text], .string s] w (AftPost (after x s) w) := by
  have hz := good_size hg
  have HSL := Lib.hid (fun W => spec_l30Slots s W hg)
  have HG := Lib.hid hg
  have K_ := Lib.hid k
  have h2 : 1 < s.size := ends_size h
  have HA : Hid (after x s = some (⟨#[]⟩, ⟨#[]⟩)) := by show _ = _; simp only [after, K_.out]; exact if_pos (show routB s = false ∧ endsB s ⟨#[118]⟩ = true from ⟨hr, h⟩)
  have HRT := Lib.hid hr
  have HVV := Lib.hid h
  clear h hr
  rw [k]
  clear k hg
  go_enter Tryz.func49, Tryz.ntmps49
  go_wp2_with fail
  refine (HSL.out _).mono ?_; rw [HRT.out]; rintro e w1 ⟨rfl, rfl⟩
  go_wp2_with fail
  refine (spec_l30Ends s ⟨#[118]⟩ _ hs (by decide)).mono ?_; rw [HVV.out]; rintro e w2 ⟨rfl, rfl⟩
  go_wp2_with fail
  go_ret3
  exact aft_yes HA.out rfl ((Below.refl _ _).alloc (Nat.le_refl _) _)
set_option maxRecDepth 100000 in
set_option maxHeartbeats 1000000 in
theorem after_28n (x : InsT) (s : ByteArray) (w : World) (k : x.op = 28) (hg : goodB s = true) (hs : s.size ≤ 1048576) (hr : routB s = false) (h : endsB s ⟨#[118]⟩ = false) :
    Calls Tryz.prog 49 #[.agg #[.int .i64 x.op, .int .i64 x.a, .int .i64 x.b, .int .i64 x.line, .string x.text], .string s] w (AftPost (after x s) w) := by
  have hz := good_size hg
  have HSL := Lib.hid (fun W => spec_l30Slots s W hg)
  have HG := Lib.hid hg
  have K_ := Lib.hid k
  have HA : Hid (after x s = none) := by show _ = _; simp only [after, K_.out]; exact if_neg (show ¬ (routB s = false ∧ endsB s ⟨#[118]⟩ = true) by rw [h]; simp)
  have HRT := Lib.hid hr
  have HVV := Lib.hid h
  clear h hr
  rw [k]
  clear k hg
  go_enter Tryz.func49, Tryz.ntmps49
  go_wp2_with fail
  refine (HSL.out _).mono ?_; rw [HRT.out]; rintro e w1 ⟨rfl, rfl⟩
  go_wp2_with fail
  refine (spec_l30Ends s ⟨#[118]⟩ _ hs (by decide)).mono ?_; rw [HVV.out]; rintro e w2 ⟨rfl, rfl⟩
  go_wp2_with fail
  go_ret3
  exact aft_no HA.out rfl ((Below.refl _ _).alloc (Nat.le_refl _) _)
set_option maxRecDepth 100000 in
set_option maxHeartbeats 1000000 in
theorem after_28r (x : InsT) (s : ByteArray) (w : World) (k : x.op = 28) (hg : goodB s = true) (hs : s.size ≤ 1048576) (hr : routB s = true) :
    Calls Tryz.prog 49 #[.agg #[.int .i64 x.op, .int .i64 x.a, .int .i64 x.b, .int .i64 x.line, .string x.text], .string s] w (AftPost (after x s) w) := by
  have hz := good_size hg
  have HSL := Lib.hid (fun W => spec_l30Slots s W hg)
  have HG := Lib.hid hg
  have K_ := Lib.hid k
  have HA : Hid (after x s = none) := by show _ = _; simp only [after, K_.out]; exact if_neg (show ¬ (routB s = false ∧ endsB s ⟨#[118]⟩ = true) by rw [hr]; simp)
  have HRT := Lib.hid hr
  clear hr
  rw [k]
  clear k hg
  go_enter Tryz.func49, Tryz.ntmps49
  go_wp2_with fail
  refine (HSL.out _).mono ?_; rw [HRT.out]; rintro e w1 ⟨rfl, rfl⟩
  go_wp2_with fail
  refine (spec_l30Ends s ⟨#[118]⟩ _ hs (by decide)).mono ?_; rintro e w2 ⟨rfl, rfl⟩
  go_wp2_with fail
  go_ret3
  exact aft_no HA.out rfl ((Below.refl _ _).alloc (Nat.le_refl _) _)
set_option maxRecDepth 100000 in
set_option maxHeartbeats 1000000 in
theorem after_25y (x : InsT) (s : ByteArray) (w : World) (k : x.op = 25) (hg : goodB s = true) (hs : s.size ≤ 1048576) (hr : routB s = true) :
    Calls Tryz.prog 49 #[.agg #[.int .i64 x.op, .int .i64 x.a, .int .i64 x.b, .int .i64 x.line, .string x.text], .string s] w (AftPost (after x s) w) := by
  have hz := good_size hg
  have HSL := Lib.hid (fun W => spec_l30Slots s W hg)
  have HG := Lib.hid hg
  have K_ := Lib.hid k
  have HA : Hid (after x s = some (⟨#[]⟩, ⟨#[]⟩)) := by show _ = _; simp only [after, K_.out]; exact if_pos hr
  have HRT := Lib.hid hr
  clear hr
  rw [k]
  clear k hg
  go_enter Tryz.func49, Tryz.ntmps49
  go_wp2_with fail
  refine (HSL.out _).mono ?_; rw [HRT.out]; rintro e w1 ⟨rfl, rfl⟩
  go_wp2_with fail
  refine (spec_l30Ends s ⟨#[118]⟩ _ hs (by decide)).mono ?_; rintro e w2 ⟨rfl, rfl⟩
  go_wp2_with fail
  go_ret3
  exact aft_yes HA.out rfl ((Below.refl _ _).alloc (Nat.le_refl _) _)
set_option maxRecDepth 100000 in
set_option maxHeartbeats 1000000 in
theorem after_25r (x : InsT) (s : ByteArray) (w : World) (k : x.op = 25) (hg : goodB s = true) (hs : s.size ≤ 1048576) (hr : routB s = false) :
    Calls Tryz.prog 49 #[.agg #[.int .i64 x.op, .int .i64 x.a, .int .i64 x.b, .int .i64 x.line, .string x.text], .string s] w (AftPost (after x s) w) := by
  have hz := good_size hg
  have HSL := Lib.hid (fun W => spec_l30Slots s W hg)
  have HG := Lib.hid hg
  have K_ := Lib.hid k
  have HA : Hid (after x s = none) := by show _ = _; simp only [after, K_.out]; exact if_neg (show ¬ routB s = true by rw [hr]; simp)
  have HRT := Lib.hid hr
  clear hr
  rw [k]
  clear k hg
  go_enter Tryz.func49, Tryz.ntmps49
  go_wp2_with fail
  refine (HSL.out _).mono ?_; rw [HRT.out]; rintro e w1 ⟨rfl, rfl⟩
  go_wp2_with fail
  refine (spec_l30Ends s ⟨#[118]⟩ _ hs (by decide)).mono ?_; rintro e w2 ⟨rfl, rfl⟩
  go_wp2_with fail
  go_ret3
  exact aft_no HA.out rfl ((Below.refl _ _).alloc (Nat.le_refl _) _)
set_option maxRecDepth 100000 in
set_option maxHeartbeats 1000000 in
theorem after_27 (x : InsT) (s : ByteArray) (w : World) (k : x.op = 27) (hg : goodB s = true) (hs : s.size ≤ 1048576) :
    Calls Tryz.prog 49 #[.agg #[.int .i64 x.op, .int .i64 x.a, .int .i64 x.b, .int .i64 x.line, .string x.text], .string s] w (AftPost (after x s) w) := by
  have hz := good_size hg
  have HSL := Lib.hid (fun W => spec_l30Slots s W hg)
  have HG := Lib.hid hg
  have K_ := Lib.hid k
  obtain ⟨z, hz0⟩ : ∃ z, (⟨#[UInt8.ofNat (97 + slotsN s)]⟩ : ByteArray) = z := ⟨_, rfl⟩
  have HA : Hid (after x s = some (s ++ ⟨#[118]⟩, z)) := by show _ = _; simp only [after, K_.out]; rw [hz0]; rfl
  have hsl := slots_le hg
  have g1 : IntKind.i64.wrap (97 + (slotsN s : Int)) = 97 + (slotsN s : Int) := IntWalk.i64_in _ (by omega)
  have g2 : IntKind.u8.wrap (97 + (slotsN s : Int)) = 97 + (slotsN s : Int) := wrap8' _ (by omega) (by omega)
  have hcv : (convert 77 9 (.slice (some ⟨w.heap.size + 1, 0, none⟩) 1 1)).run Tryz.prog ((w.alloc (.cells #[.int .i64 27, .int .i64 x.a, .int .i64 x.b, .int .i64 x.line, .string x.text] 79)).alloc (.cells #[.int .u8 (97 + (slotsN s : Int))] 5)).drew = .ok (.string z) ((w.alloc (.cells #[.int .i64 27, .int .i64 x.a, .int .i64 x.b, .int .i64 x.line, .string x.text] 79)).alloc (.cells #[.int .u8 (97 + (slotsN s : Int))] 5)).drew := by
    have := run_convert_byte1 (P := Tryz.prog) 77 9 5 Tryz.underlying77 Tryz.underlying5 Tryz.underlying9 (w.alloc (.cells #[.int .i64 27, .int .i64 x.a, .int .i64 x.b, .int .i64 x.line, .string x.text] 79)).drew (97 + (slotsN s : Int)) 1 5
    rw [show (97 + (slotsN s : Int)).toNat = 97 + slotsN s by omega, hz0, show (w.alloc (.cells #[.int .i64 27, .int .i64 x.a, .int .i64 x.b, .int .i64 x.line, .string x.text] 79)).drew.heap.size = w.heap.size + 1 by simp] at this
    exact this
  clear hz0
  rw [k]
  clear k hg
  go_enter Tryz.func49, Tryz.ntmps49
  go_wp2_with fail
  refine (HSL.out _).mono ?_; rintro e w1 ⟨rfl, rfl⟩
  go_wp2_with fail
  refine (spec_l30Ends s ⟨#[118]⟩ _ hs (by decide)).mono ?_; rintro e w2 ⟨rfl, rfl⟩
  go_wp2_with fail
  go_region
  all_goals
    go_wp2_with fail
    go_ret3
    exact aft_yes HA.out rfl ((((Below.refl _ _).alloc (Nat.le_refl _) _).alloc (by simp) _).trans ⟨rfl, rfl, rfl, Nat.le_refl _, fun _ _ => rfl⟩)
theorem vees_succ (s : ByteArray) (j : Nat) : endsB s (vees (j + 1)) = (endsB s (vees j) && endsB (cutN s j) ⟨#[118]⟩) := by
  unfold endsB Lib.hasSuffix
  rw [vees_size, vees_size, cut_size, size_one, Bool.eq_iff_iff]
  have e1 : (cutN s j).data.toList = s.data.toList.take (s.size - j) := by rw [cutN, Lib.extract_data, List.drop_zero, Nat.sub_zero]
  have e2 : ∀ b, (vees b).data.toList = Lib.repeatL [118] b := fun _ => rfl
  simp only [Bool.and_eq_true, decide_eq_true_eq, List.isSuffixOf_iff_suffix, e1, e2, Lib.size_eq]
  rw [Lib.repeatL]
  generalize s.data.toList = l
  have hl := Lib.repeatL_length [118] j
  simp only [List.length_singleton, Nat.mul_one] at hl
  constructor
  · rintro ⟨h1, h2⟩
    obtain ⟨t, rfl⟩ := h2
    refine ⟨⟨by omega, ⟨t ++ [118], by simp⟩⟩, by simp only [List.length_append, List.length_singleton] at h1 ⊢; omega, ⟨t, ?_⟩⟩
    rw [← List.append_assoc, List.take_left' (by simp only [List.length_append, List.length_singleton]; omega)]
  · rintro ⟨⟨h1, t, rfl⟩, h2, u, hu⟩
    rw [List.take_left' (by simp only [List.length_append]; omega)] at hu
    subst hu
    refine ⟨by simp only [List.length_append, List.length_singleton] at h2 ⊢; omega, ⟨u, by simp⟩⟩
theorem cut_cut (s : ByteArray) (j : Nat) (h : j + 1 ≤ s.size) : (cutN s j).extract 0 ((cutN s j).size - 1) = cutN s (j + 1) := by
  have h0 := cut_size s j
  rw [h0]
  unfold cutN
  apply ByteArray.ext
  apply Array.ext'
  rw [Lib.extract_data, Lib.extract_data, Lib.extract_data]
  simp only [List.drop_zero, Nat.sub_zero, List.take_take]
  congr 1
  omega
theorem vees_less {s : ByteArray} {j k : Nat} (h : endsB s (vees j) = false) (hk : j ≤ k) : endsB s (vees k) = false := by
  induction k with
  | zero => have : j = 0 := by omega
            subst this; exact h
  | succ k ih =>
    by_cases e : j = k + 1
    · subst e; exact h
    · rw [vees_succ, ih (by omega)]; rfl
set_option maxRecDepth 100000 in
set_option maxHeartbeats 1000000 in
theorem after_11 (x : InsT) (s : ByteArray) (w : World) (k : x.op = 11) (hg : goodB s = true) (hs : s.size ≤ 1048576) (bn : Nat) (hb : x.b = bn) (hb9 : bn ≤ 9) :
    Calls Tryz.prog 49 #[.agg #[.int .i64 x.op, .int .i64 x.a, .int .i64 x.b, .int .i64 x.line, .string x.text], .string s] w (AftPost (after x s) w) := by
  have hz := good_size hg
  have HSL := Lib.hid (fun W => spec_l30Slots s W hg)
  have HG := Lib.hid hg
  have K_ := Lib.hid k
  have HA : Hid (after x s = if endsB s (vees bn) = true then some (cutN s bn ++ ⟨#[118]⟩, ⟨#[]⟩) else none) := by show _ = _; simp only [after, K_.out]; rw [hb, Int.toNat_natCast]; rfl
  rw [hb]
  clear hb
  have a0 := Blk.new w 79 #[.int .i64 11, .int .i64 x.a, .int .i64 (bn : Int), .int .i64 x.line, .string x.text]
  have ca := a0.cell
  have la := a0.lt
  rw [k]
  clear k hg
  go_enter Tryz.func49, Tryz.ntmps49
  go_wp2_with fail
  refine (HSL.out _).mono ?_; rintro e w1 ⟨rfl, rfl⟩
  go_wp2_with fail
  refine (spec_l30Ends s ⟨#[118]⟩ _ hs (by decide)).mono ?_; rintro e w2 ⟨rfl, rfl⟩
  go_wp2_with fail
  go_loop [1, 11] (fun sv i => ∃ j : Nat, j ≤ bn ∧ i = .int .i64 j ∧ sv = .string (cutN s j) ∧ Hid (endsB s (vees j) = true)) (fun _ i => bn - (intOf i).toNat)
  case atStart => exact ⟨0, Nat.zero_le _, rfl, by rw [cutN, Nat.sub_zero, ByteArray.extract_zero_size], by show _ = _; unfold endsB; rw [vees_size, decide_eq_true hz]; simp [vees, Lib.repeatL, Lib.hasSuffix]⟩
  case round =>
    obtain ⟨j, hj, rfl, rfl, he⟩ := hrel
    have hjs : j < s.size := by have := ends_size he.out; rwa [vees_size] at this
    have hcz := cut_size s j
    have HCZ := Lib.hid hcz
    have hcs : (cutN s j).size ≤ 1048576 := by omega
    clear hcz
    by_cases hlt : j < bn
    · cases hv : endsB (cutN s j) ⟨#[118]⟩ with
      | true =>
        have HE := Lib.hid hv
        have HN : Hid (endsB s (vees (j + 1)) = true) := by show _ = _; rw [vees_succ, he.out, hv]; rfl
        have hc1 : 1 < (cutN s j).size := ends_size hv
        have HC := Lib.hid (cut_cut s j hjs)
        clear hv he
        obtain ⟨cz, hcz⟩ : ∃ cz, (cutN s j).size = cz := ⟨_, rfl⟩
        go_wp2_with fail
        refine (spec_l30Ends (cutN s j) ⟨#[118]⟩ _ hcs (by decide)).mono ?_; rw [HE.out]; rintro e w3 ⟨rfl, rfl⟩
        go_wp2_with fail
        go_round
        case rel => exact ⟨j + 1, by omega, by go_num, by rw [← HC.out, hcz], HN⟩
        case measure => simp [intOf]; omega
      | false =>
        have HE := Lib.hid hv
        have HF : Hid (after x s = none) := by show _ = _; rw [HA.out, if_neg]; rw [vees_less (j := j + 1) (by rw [vees_succ, hv, Bool.and_false]) hlt]; decide
        clear hv he
        go_wp2_with fail
        refine (spec_l30Ends (cutN s j) ⟨#[118]⟩ _ hcs (by decide)).mono ?_; rw [HE.out]; rintro e w3 ⟨rfl, rfl⟩
        go_wp2_with fail
        go_ret3
        exact aft_no HF.out rfl ((Below.refl _ _).alloc (Nat.le_refl _) _)
    · obtain rfl : j = bn := by omega
      have HF : Hid (after x s = some (cutN s j ++ ⟨#[118]⟩, ⟨#[]⟩)) := by show _ = _; rw [HA.out, if_pos he.out]
      clear he
      go_wp2_with fail
      go_ret3
      exact aft_yes HF.out rfl ((Below.refl _ _).alloc (Nat.le_refl _) _)
set_option maxRecDepth 100000 in
set_option maxHeartbeats 1000000 in
theorem after_12 (x : InsT) (s : ByteArray) (w : World) (k : x.op = 12) (hg : goodB s = true) (hs : s.size ≤ 1048576) (bn : Nat) (hb : x.b = bn) (hb9 : bn ≤ 9) :
    Calls Tryz.prog 49 #[.agg #[.int .i64 x.op, .int .i64 x.a, .int .i64 x.b, .int .i64 x.line, .string x.text], .string s] w (AftPost (after x s) w) := by
  have hz := good_size hg
  have HSL := Lib.hid (fun W => spec_l30Slots s W hg)
  have HG := Lib.hid hg
  have K_ := Lib.hid k
  have HA : Hid (after x s = if endsB s (vees bn) = true then some (cutN s bn ++ ⟨#[118]⟩, ⟨#[]⟩) else none) := by show _ = _; simp only [after, K_.out]; rw [hb, Int.toNat_natCast]; rfl
  rw [hb]
  clear hb
  have a0 := Blk.new w 79 #[.int .i64 12, .int .i64 x.a, .int .i64 (bn : Int), .int .i64 x.line, .string x.text]
  have ca := a0.cell
  have la := a0.lt
  rw [k]
  clear k hg
  go_enter Tryz.func49, Tryz.ntmps49
  go_wp2_with fail
  refine (HSL.out _).mono ?_; rintro e w1 ⟨rfl, rfl⟩
  go_wp2_with fail
  refine (spec_l30Ends s ⟨#[118]⟩ _ hs (by decide)).mono ?_; rintro e w2 ⟨rfl, rfl⟩
  go_wp2_with fail
  go_loop [1, 11] (fun sv i => ∃ j : Nat, j ≤ bn ∧ i = .int .i64 j ∧ sv = .string (cutN s j) ∧ Hid (endsB s (vees j) = true)) (fun _ i => bn - (intOf i).toNat)
  case atStart => exact ⟨0, Nat.zero_le _, rfl, by rw [cutN, Nat.sub_zero, ByteArray.extract_zero_size], by show _ = _; unfold endsB; rw [vees_size, decide_eq_true hz]; simp [vees, Lib.repeatL, Lib.hasSuffix]⟩
  case round =>
    obtain ⟨j, hj, rfl, rfl, he⟩ := hrel
    have hjs : j < s.size := by have := ends_size he.out; rwa [vees_size] at this
    have hcz := cut_size s j
    have HCZ := Lib.hid hcz
    have hcs : (cutN s j).size ≤ 1048576 := by omega
    clear hcz
    by_cases hlt : j < bn
    · cases hv : endsB (cutN s j) ⟨#[118]⟩ with
      | true =>
        have HE := Lib.hid hv
        have HN : Hid (endsB s (vees (j + 1)) = true) := by show _ = _; rw [vees_succ, he.out, hv]; rfl
        have hc1 : 1 < (cutN s j).size := ends_size hv
        have HC := Lib.hid (cut_cut s j hjs)
        clear hv he
        obtain ⟨cz, hcz⟩ : ∃ cz, (cutN s j).size = cz := ⟨_, rfl⟩
        go_wp2_with fail
        refine (spec_l30Ends (cutN s j) ⟨#[118]⟩ _ hcs (by decide)).mono ?_; rw [HE.out]; rintro e w3 ⟨rfl, rfl⟩
        go_wp2_with fail
        go_round
        case rel => exact ⟨j + 1, by omega, by go_num, by rw [← HC.out, hcz], HN⟩
        case measure => simp [intOf]; omega
      | false =>
        have HE := Lib.hid hv
        have HF : Hid (after x s = none) := by show _ = _; rw [HA.out, if_neg]; rw [vees_less (j := j + 1) (by rw [vees_succ, hv, Bool.and_false]) hlt]; decide
        clear hv he
        go_wp2_with fail
        refine (spec_l30Ends (cutN s j) ⟨#[118]⟩ _ hcs (by decide)).mono ?_; rw [HE.out]; rintro e w3 ⟨rfl, rfl⟩
        go_wp2_with fail
        go_ret3
        exact aft_no HF.out rfl ((Below.refl _ _).alloc (Nat.le_refl _) _)
    · obtain rfl : j = bn := by omega
      have HF : Hid (after x s = some (cutN s j ++ ⟨#[118]⟩, ⟨#[]⟩)) := by show _ = _; rw [HA.out, if_pos he.out]
      clear he
      go_wp2_with fail
      go_ret3
      exact aft_yes HF.out rfl ((Below.refl _ _).alloc (Nat.le_refl _) _)
theorem spec_l30After {n : Nat} (x : InsT) (s : ByteArray) (w : World) (hv : InsV n x) (hg : goodB s = true) (hs : s.size ≤ 1048576) :
    Calls Tryz.prog 49 #[.agg #[.int .i64 x.op, .int .i64 x.a, .int .i64 x.b, .int .i64 x.line, .string x.text], .string s] w (AftPost (after x s) w) := by
  obtain ⟨h1, h30⟩ := hv.op
  have hop : x.op = 1 ∨ x.op = 2 ∨ x.op = 3 ∨ x.op = 4 ∨ x.op = 5 ∨ x.op = 6 ∨ x.op = 7 ∨ x.op = 8 ∨ x.op = 9 ∨ x.op = 10 ∨ x.op = 11 ∨ x.op = 12 ∨ x.op = 13 ∨ x.op = 14 ∨ x.op = 15 ∨ x.op = 16 ∨ x.op = 17 ∨ x.op = 18 ∨ x.op = 19 ∨ x.op = 20 ∨ x.op = 21 ∨ x.op = 22 ∨ x.op = 23 ∨ x.op = 24 ∨ x.op = 25 ∨ x.op = 26 ∨ x.op = 27 ∨ x.op = 28 ∨ x.op = 29 ∨ x.op = 30 := by omega
  rcases hop with k | k | k | k | k | k | k | k | k | k | k | k | k | k | k | k | k | k | k | k | k | k | k | k | k | k | k | k | k | k
  · exact after_1 x s w k hg hs
  · exact after_2 x s w k hg hs
  · exact after_3 x s w k hg hs
  · exact after_4 x s w k hg hs
  · by_cases h : x.a < (slotsN s : Int)
    · exact after_5y x s w k hg hs h
    · exact after_5n x s w k hg hs h
  · exact after_6 x s w k hg hs
  · exact after_7 x s w k hg hs
  · exact after_8 x s w k hg hs
  · exact after_9 x s w k hg hs
  · exact after_10 x s w k hg hs
  · obtain ⟨b0, b9⟩ := hv.arg (by omega)
    exact after_11 x s w k hg hs x.b.toNat (by omega) (by omega)
  · obtain ⟨b0, b9⟩ := hv.arg (by omega)
    exact after_12 x s w k hg hs x.b.toNat (by omega) (by omega)
  · have hl := hv.lab (by rw [k]; decide)
    by_cases h : x.a = -1
    · exact after_13m x s w k hg hs h
    · exact after_13y x s w k hg hs (by omega)
  · by_cases h : markI s < 0
    · exact after_14n x s w k hg hs h
    · exact after_14y x s w k hg hs h
  · exact after_15 x s w k hg hs
  · exact after_16 x s w k hg hs
  · exact after_17 x s w k hg hs
  · exact after_18 x s w k hg hs
  · cases h : endsB s ⟨#[109, 118]⟩ with
    | true => exact after_19y x s w k hg hs h
    | false => exact after_19n x s w k hg hs h
  · cases h : endsB s ⟨#[118]⟩ with
    | true => exact after_20y x s w k hg hs h
    | false => exact after_20n x s w k hg hs h
  · cases h : endsB s ⟨#[109, 118]⟩ with
    | true => exact after_21y x s w k hg hs h
    | false => exact after_21n x s w k hg hs h
  · cases h : endsB s ⟨#[118]⟩ with
    | true => exact after_22y x s w k hg hs h
    | false => exact after_22n x s w k hg hs h
  · cases h : endsB s ⟨#[115, 118]⟩ with
    | true => exact after_23y x s w k hg hs h
    | false => exact after_23n x s w k hg hs h
  · cases hr : routB s with
    | false => exact after_24r x s w k hg hs hr
    | true =>
      cases h : endsB s ⟨#[118]⟩ with
      | true => exact after_24y x s w k hg hs hr h
      | false => exact after_24n x s w k hg hs hr h
  · cases hr : routB s with
    | true => exact after_25y x s w k hg hs hr
    | false => exact after_25r x s w k hg hs hr
  · cases hr : routB s with
    | false => exact after_26r x s w k hg hs hr
    | true =>
      cases h : endsB s ⟨#[118]⟩ with
      | true => exact after_26y x s w k hg hs hr h
      | false => exact after_26n x s w k hg hs hr h
  · exact after_27 x s w k hg hs
  · cases hr : routB s with
    | true => exact after_28r x s w k hg hs hr
    | false =>
      cases h : endsB s ⟨#[118]⟩ with
      | true => exact after_28y x s w k hg hs hr h
      | false => exact after_28n x s w k hg hs hr h
  · cases h : endsB s ⟨#[118]⟩ with
    | true => exact after_29y x s w k hg hs h
    | false => exact after_29n x s w k hg hs h
  · cases h : endsB s ⟨#[118]⟩ with
    | true => exact after_30y x s w k hg hs h
    | false => exact after_30n x s w k hg hs h
end Go.Proofs.YtekobbeoaalibaaGreatDoor
