/- What may fail at first, and what may have a second result: the plain law of canFail, canResume and l33Can. -/
import Derived.Test.YtppdelelgkepaaaDoorCanSure
import Derived.Test.YtppdelelgkepaaaDoorCanBrk
import Derived.Test.YtppdelelgkepaaaDoorKidDefs
namespace Go.Proofs.YtppdelelgkepaaaDoor
open Go.RowKit

/-- every node has as many kids as its kind and operator ask -/
inductive CoreT.WK : CoreT → Prop
  | mk {c : CoreT} (h1 : kidsLo c.kind c.op ≤ c.kids.length) (h2 : (c.kids.length : Int) ≤ kidsHi c.kind c.op) (hk : ∀ x ∈ c.kids, x.WK) : c.WK
theorem CoreT.WK.lo {c : CoreT} (h : c.WK) : kidsLo c.kind c.op ≤ c.kids.length := by cases h; assumption
theorem CoreT.WK.hi {c : CoreT} (h : c.WK) : (c.kids.length : Int) ≤ kidsHi c.kind c.op := by cases h; assumption
theorem CoreT.WK.kids {c : CoreT} (h : c.WK) : ∀ x ∈ c.kids, x.WK := by cases h; assumption

def zT : CoreT := .mk 0 0 0 0 ByteArray.empty []
def failOf (c : CoreT) (ps : List (Bool × Bool)) : Bool :=
  if c.kind = 11 then ps.any Prod.fst || !sureT c
  else if c.kind = 13 then (ps.getD 0 (false, false)).1 && (ps.getD 1 (false, false)).1
  else if c.kind = 14 then (ps.getD 0 (false, false)).1
  else if c.kind = 16 then (ps.getD (c.kids.length - 1) (false, false)).1
  else if c.kind = 17 then (ps.getD 1 (false, false)).1 || ((ps.getD 0 (false, false)).1 && (ps.getD 2 (false, false)).1)
  else if c.kind = 22 then ps.any Prod.fst
  else decide (c.kind = 12 ∨ c.kind = 15 ∨ c.kind = 18 ∨ c.kind = 19 ∨ c.kind = 25 ∨ c.kind = 27 ∨ c.kind = 28)
def resOf (c : CoreT) (ps : List (Bool × Bool)) : Bool :=
  if c.kind = 11 then ps.any Prod.snd || resOp c.op
  else if c.kind = 12 ∨ c.kind = 13 ∨ c.kind = 14 then true
  else if c.kind = 27 then (ps.getD 0 (false, false)).2
  else if c.kind = 15 then !(decide ((c.kids.getD 1 zT).kind = 1) && decide ((c.kids.getD 1 zT).number = 1))
  else if c.kind = 16 then (ps.getD (c.kids.length - 1) (false, false)).2
  else if c.kind = 17 then (ps.getD 1 (false, false)).2 || ((ps.getD 0 (false, false)).1 && (ps.getD 2 (false, false)).2)
  else if c.kind = 18 ∨ c.kind = 19 then (c.kids.getD 1 zT).brk
  else if c.kind = 22 then ps.any Prod.snd
  else false
mutual
/-- may it fail at first, may it have a second result -/
def CoreT.can : CoreT → Bool × Bool
  | .mk k o n l t kids => (failOf (.mk k o n l t kids) (canL kids), resOf (.mk k o n l t kids) (canL kids))
def canL : List CoreT → List (Bool × Bool)
  | [] => []
  | c :: cs => c.can :: canL cs
end
theorem canL_map (l : List CoreT) : canL l = l.map CoreT.can := by
  induction l with
  | nil => simp [canL]
  | cons c l ih => simp [canL, ih]
def failT (c : CoreT) : Bool := c.can.1
def resT (c : CoreT) : Bool := c.can.2
theorem failT_eq (c : CoreT) : failT c = failOf c (c.kids.map CoreT.can) := by cases c; simp only [failT, CoreT.can, canL_map, CoreT.kids]
theorem resT_eq (c : CoreT) : resT c = resOf c (c.kids.map CoreT.can) := by cases c; simp only [resT, CoreT.can, canL_map, CoreT.kids]
theorem can_at {l : List CoreT} {j : Nat} {a : CoreT} (h : l[j]? = some a) : (l.map CoreT.can).getD j (false, false) = (failT a, resT a) := by
  rw [List.getD, List.getElem?_map, h]; rfl
theorem kid_at {l : List CoreT} {j : Nat} {a : CoreT} (h : l[j]? = some a) : l.getD j zT = a := by rw [List.getD, h]; rfl
theorem any_fail (l : List CoreT) : (l.map CoreT.can).any Prod.fst = l.any failT := by rw [List.any_map]; rfl
theorem any_res (l : List CoreT) : (l.map CoreT.can).any Prod.snd = l.any resT := by rw [List.any_map]; rfl
section
variable {c a b e : CoreT}
theorem fail_11 (h : c.kind = 11) : failT c = (c.kids.any failT || !sureT c) := by rw [failT_eq, failOf, if_pos h, any_fail]
theorem fail_13 (h : c.kind = 13) (h0 : c.kids[0]? = some a) (h1 : c.kids[1]? = some b) : failT c = (failT a && failT b) := by
  simp only [failT_eq c, failOf, h]; rw [can_at h0, can_at h1]; rfl
theorem fail_14 (h : c.kind = 14) (h0 : c.kids[0]? = some a) : failT c = failT a := by
  simp only [failT_eq c, failOf, h]; rw [can_at h0]; rfl
theorem fail_16 (h : c.kind = 16) (h0 : c.kids[c.kids.length - 1]? = some a) : failT c = failT a := by
  simp only [failT_eq c, failOf, h]; rw [can_at h0]; rfl
theorem fail_17 (h : c.kind = 17) (h0 : c.kids[0]? = some a) (h1 : c.kids[1]? = some b) (h2 : c.kids[2]? = some e) : failT c = (failT b || (failT a && failT e)) := by
  simp only [failT_eq c, failOf, h]; rw [can_at h0, can_at h1, can_at h2]; rfl
theorem fail_22 (h : c.kind = 22) : failT c = c.kids.any failT := by
  simp only [failT_eq c, failOf, h]; rw [any_fail]; rfl
theorem fail_yes (h : c.kind = 12 ∨ c.kind = 15 ∨ c.kind = 18 ∨ c.kind = 19 ∨ c.kind = 25 ∨ c.kind = 27 ∨ c.kind = 28) : failT c = true := by
  rcases h with h | h | h | h | h | h | h <;> simp [failT_eq c, failOf, h]
theorem fail_no (h : ¬ (c.kind = 11 ∨ c.kind = 12 ∨ c.kind = 13 ∨ c.kind = 14 ∨ c.kind = 15 ∨ c.kind = 16 ∨ c.kind = 17 ∨ c.kind = 18 ∨ c.kind = 19 ∨ c.kind = 22 ∨ c.kind = 25 ∨ c.kind = 27 ∨ c.kind = 28)) : failT c = false := by
  simp only [not_or] at h
  obtain ⟨h1, h2, h3, h4, h5, h6, h7, h8, h9, h10, h11, h12, h13⟩ := h
  simp [failT_eq c, failOf, h1, h2, h3, h4, h5, h6, h7, h8, h9, h10, h11, h12, h13]
theorem res_11 (h : c.kind = 11) : resT c = (c.kids.any resT || resOp c.op) := by rw [resT_eq, resOf, if_pos h, any_res]
theorem res_15 (h : c.kind = 15) (h1 : c.kids[1]? = some b) : resT c = !(decide (b.kind = 1) && decide (b.number = 1)) := by
  simp only [resT_eq c, resOf, h]; rw [kid_at h1]; rfl
theorem res_27 (h : c.kind = 27) (h0 : c.kids[0]? = some a) : resT c = resT a := by
  simp only [resT_eq c, resOf, h]; rw [can_at h0]; rfl
theorem res_16 (h : c.kind = 16) (h0 : c.kids[c.kids.length - 1]? = some a) : resT c = resT a := by
  simp only [resT_eq c, resOf, h]; rw [can_at h0]; rfl
theorem res_17 (h : c.kind = 17) (h0 : c.kids[0]? = some a) (h1 : c.kids[1]? = some b) (h2 : c.kids[2]? = some e) : resT c = (resT b || (failT a && resT e)) := by
  simp only [resT_eq c, resOf, h]; rw [can_at h0, can_at h1, can_at h2]; rfl
theorem res_18 (h : c.kind = 18 ∨ c.kind = 19) (h1 : c.kids[1]? = some b) : resT c = b.brk := by
  rcases h with h | h <;> (simp only [resT_eq c, resOf, h]; rw [kid_at h1]; rfl)
theorem res_22 (h : c.kind = 22) : resT c = c.kids.any resT := by
  simp only [resT_eq c, resOf, h]; rw [any_res]; rfl
theorem res_yes (h : c.kind = 12 ∨ c.kind = 13 ∨ c.kind = 14) : resT c = true := by
  rcases h with h | h | h <;> simp [resT_eq c, resOf, h]
theorem res_no (h : ¬ (c.kind = 11 ∨ c.kind = 12 ∨ c.kind = 13 ∨ c.kind = 14 ∨ c.kind = 15 ∨ c.kind = 16 ∨ c.kind = 17 ∨ c.kind = 18 ∨ c.kind = 19 ∨ c.kind = 22 ∨ c.kind = 27)) : resT c = false := by
  simp only [not_or] at h
  obtain ⟨h1, h2, h3, h4, h5, h6, h7, h8, h9, h10, h11⟩ := h
  simp [resT_eq c, resOf, h1, h2, h3, h4, h5, h6, h7, h8, h9, h10, h11]
theorem any_two {q : CoreT → Bool} (h0 : c.kids[0]? = some a) (h1 : c.kids[1]? = some b) (h : c.kids.length = 2) : c.kids.any q = (q a || q b) := by
  obtain ⟨x, y, hk⟩ : ∃ x y, c.kids = [x, y] := by
    match hc : c.kids with
    | [x, y] => exact ⟨x, y, rfl⟩
    | [] => simp [hc] at h
    | [x] => simp [hc] at h
    | _ :: _ :: _ :: _ => simp [hc] at h
  rw [hk] at h0 h1 ⊢
  simp at h0 h1
  subst h0 h1
  simp
theorem two_of (hw : c.WK) (h : c.kind = 22) : c.kids.length = 2 := by
  have h1 := hw.lo
  have h2 := hw.hi
  rw [(kids_22 (op := c.op) h).1] at h1
  rw [(kids_22 (op := c.op) h).2] at h2
  omega
theorem fail_22w (hw : c.WK) (h : c.kind = 22) (h0 : c.kids[0]? = some a) (h1 : c.kids[1]? = some b) : failT c = (failT a || failT b) := by rw [fail_22 h, any_two h0 h1 (two_of hw h)]
theorem res_22w (hw : c.WK) (h : c.kind = 22) (h0 : c.kids[0]? = some a) (h1 : c.kids[1]? = some b) : resT c = (resT a || resT b) := by rw [res_22 h, any_two h0 h1 (two_of hw h)]
theorem op_of (hw : c.WK) (h : c.kind = 11) : opOk c.op = true := by
  have h2 := hw.hi
  rw [(kids_op (op := c.op) h).2] at h2
  cases ho : opOk c.op with
  | true => rfl
  | false => rw [arityHi, if_pos ho] at h2; omega
theorem one_of (hw : c.WK) (h : c.kind = 11) (ho : c.op = 60 ∨ 220 ≤ c.op) : 0 < c.kids.length := by
  have h1 := hw.lo
  rw [(kids_op (op := c.op) h).1, arityLo, if_neg (by rw [op_of hw h]; decide)] at h1
  split at h1
  · omega
  · split at h1
    · omega
    · split at h1
      · omega
      · split at h1 <;> omega
theorem sure_var (ho : c.op = 60 ∨ 220 ≤ c.op) (h0 : c.kids[0]? = some a) : sureT c = decide (a.kind = 5 ∨ a.kind = 6) := by
  rw [sureT, if_pos ho, kid0, List.getD, h0]; rfl
theorem sure_op (ho : ¬ (c.op = 60 ∨ 220 ≤ c.op)) : sureT c = sureOp c.op := by rw [sureT, if_neg ho]
theorem sureOp_no {op : Int} (ho : op = 60 ∨ 220 ≤ op) : sureOp op = false := by rw [sureOp]; exact decide_eq_false (by omega)
end
end Go.Proofs.YtppdelelgkepaaaDoor
