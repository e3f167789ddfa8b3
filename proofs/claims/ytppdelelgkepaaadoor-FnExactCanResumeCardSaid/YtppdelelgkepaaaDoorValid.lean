/- When a tree is valid: the plain law of l10Valid and of validCore. -/
import Derived.Test.YtppdelelgkepaaaDoorLeaf
import Derived.Test.YtppdelelgkepaaaDoorKidDefs
import Derived.Test.YtppdelelgkepaaaDoorNames
import Derived.Test.YtppdelelgkepaaaDoorCsetC
import Derived.Test.YtppdelelgkepaaaDoorCoreCount
namespace Go.Proofs.YtppdelelgkepaaaDoor
open Go.RowKit

def nulT : CoreT := .mk 0 0 0 0 ByteArray.empty []
def headOk (c : CoreT) : Bool := decide (1 ≤ c.kind) && decide (c.kind ≤ 28) && decide (0 ≤ c.line) && decide (kidsLo c.kind c.op ≤ c.kids.length) && decide ((c.kids.length : Int) ≤ kidsHi c.kind c.op) && (decide (c.kind = 11) || decide (c.op = 0))
def textOk (c : CoreT) : Bool := if c.kind = 2 then decide (c.text.size ≤ 120) else if c.kind = 3 then csetOk c.text else decide (c.text.size = 0)
def placeOk (c : CoreT) (loop create : Bool) : Bool := !(decide (c.kind = 20 ∨ c.kind = 21) && !loop) && !(decide (23 ≤ c.kind ∧ c.kind ≤ 25) && create)
noncomputable def specialOk (c : CoreT) : Bool := !(decide (c.op = 79) && !(decide ((c.kids.getD 1 nulT).kind = 2) && isNameB (c.kids.getD 1 nulT).text)) && !(decide (c.op = 81) && !decide ((c.kids.getD 0 nulT).kind = 5 ∨ (c.kids.getD 0 nulT).kind = 6))
noncomputable def nodeOk (d : WdT) (c : CoreT) (loop create : Bool) : Bool := headOk c && leafOk d c.kind c.number && textOk c && placeOk c loop create && specialOk c
/-- may kid i of a node of kind k hold a break or next? -/
def innerB (k : Int) (i : Nat) (loop : Bool) : Bool := if k = 18 ∨ k = 19 then decide (i = 1) else if k = 20 ∨ k = 26 then false else loop
mutual
noncomputable def validT (d : WdT) : CoreT → Bool → Bool → Bool
  | .mk k o n l t kids, loop, create => nodeOk d (.mk k o n l t kids) loop create && validL d k 0 kids loop (create || decide (k = 26))
noncomputable def validL (d : WdT) (k : Int) : Nat → List CoreT → Bool → Bool → Bool
  | _, [], _, _ => true
  | i, c :: cs, loop, create => validT d c (innerB k i loop) create && validL d k (i + 1) cs loop create
end
theorem validL_iff (d : WdT) (k : Int) (loop create : Bool) : ∀ (l : List CoreT) (i : Nat), validL d k i l loop create = true ↔ ∀ j c, l[j]? = some c → validT d c (innerB k (i + j) loop) create = true
  | [], i => by simp [validL]
  | c :: l, i => by
    rw [validL, Bool.and_eq_true, validL_iff d k loop create l (i + 1)]
    constructor
    · rintro ⟨h1, h2⟩ j x hj
      cases j with
      | zero => simp at hj; subst hj; exact h1
      | succ j => have := h2 j x (by simpa using hj); rw [show i + (j + 1) = i + 1 + j by omega]; exact this
    · intro h
      exact ⟨h 0 c rfl, fun j x hj => by have := h (j + 1) x (by simpa using hj); rw [show i + (j + 1) = i + 1 + j by omega] at this; exact this⟩
theorem validT_iff (d : WdT) (c : CoreT) (loop create : Bool) : validT d c loop create = true ↔ nodeOk d c loop create = true ∧ ∀ j x, c.kids[j]? = some x → validT d x (innerB c.kind j loop) (create || decide (c.kind = 26)) = true := by
  cases c with
  | mk k o n l t kids =>
    rw [validT, Bool.and_eq_true, validL_iff]
    simp only [Nat.zero_add, CoreT.kids, CoreT.kind]
    exact Iff.rfl
theorem validT_bad {d : WdT} {c : CoreT} {loop create : Bool} (h : nodeOk d c loop create = false) : validT d c loop create = false := by
  rw [Bool.eq_false_iff]; intro hv; rw [((validT_iff d c loop create).1 hv).1] at h; cases h
theorem validT_kid {d : WdT} {c x : CoreT} {loop create : Bool} {j : Nat} (hj : c.kids[j]? = some x) (h : validT d x (innerB c.kind j loop) (create || decide (c.kind = 26)) = false) : validT d c loop create = false := by
  rw [Bool.eq_false_iff]; intro hv; rw [((validT_iff d c loop create).1 hv).2 j x hj] at h; cases h
theorem csetOk_ge {s : ByteArray} (h : csetOk s = true) : ∀ j, j < s.size → j ≤ byteAt s j ∧ byteAt s j ≤ 127 := by
  have hr : ∀ j, j < s.size → riseAt s j = true := fun j hj => List.all_eq_true.1 h j (List.mem_range.2 hj)
  intro j
  induction j with
  | zero => intro hj; have := hr 0 hj; simp [riseAt] at this; exact ⟨Nat.zero_le _, this⟩
  | succ j ih =>
    intro hj
    have h1 := ih (by omega)
    have := hr (j + 1) hj
    simp [riseAt] at this
    exact ⟨by omega, this.1⟩
theorem csetOk_size {s : ByteArray} (h : csetOk s = true) : s.size ≤ 128 := by
  by_cases h0 : s.size = 0
  · omega
  · have := csetOk_ge h (s.size - 1) (by omega); omega
end Go.Proofs.YtppdelelgkepaaaDoor
