/- A map literal with integer keys that the call makes, and a look-up in it: run equations without conditions. No program. -/
import Derived.WalkKit
import Derived.WalkSpells
import Derived.WideMake
import Derived.MapKept
namespace Go.Proofs.YtgkgoofapgabhaaDoor
open Go.RowKit

/-- the entries as the map's block holds them -/
def encE (x : Int × Value × Nat) : MapEntry := { key := .int .i64 x.1, val := x.2.1, born := x.2.2 }
def encM (l : List (Int × Value × Nat)) : Array MapEntry := (l.map encE).toArray
def findL : List (Int × Value × Nat) → Int → Nat → Option (Nat × Value)
  | [], _, _ => none
  | x :: l, n, i => if n = x.1 then some (i, x.2.1) else findL l n (i + 1)
def insL (l : List (Int × Value × Nat)) (c : Nat) (n : Int) (val : Value) : List (Int × Value × Nat) :=
  match findL l n 0 with
  | some (i, _) => l.modify i fun x => (n, val, x.2.2)
  | none => l ++ [(n, val, c)]
def insC (l : List (Int × Value × Nat)) (c : Nat) (n : Int) : Nat := if (findL l n 0).isSome then c else c + 1
def lookL (l : List (Int × Value × Nat)) (n : Int) (z : Value) : Value := match findL l n 0 with | some (_, v) => v | none => z

theorem findNow_enc (n : Int) : ∀ (l : List (Int × Value × Nat)) (i : Nat), Instr.findNow (.int .i64) (.int .i64 n) (l.map encE) i = some (findL l n i) := by
  intro l
  induction l with
  | nil => intro i; rfl
  | cons x l ih =>
    intro i
    by_cases h : n = x.1
    · simp [Instr.findNow, Instr.sameNow, encE, findL, h]
    · have hb : (n == x.1) = false := beq_eq_false_iff_ne.2 h
      simp [Instr.findNow, Instr.sameNow, encE, findL, h, hb]
      exact ih (i + 1)

theorem modify_enc (f : Int × Value × Nat → Int × Value × Nat) (g : MapEntry → MapEntry) (h : ∀ x, encE (f x) = g (encE x)) : ∀ (l : List (Int × Value × Nat)) (i : Nat), (l.modify i f).map encE = (l.map encE).modify i g := by
  intro l
  induction l with
  | nil => intro i; simp
  | cons x l ih =>
    intro i
    cases i with
    | zero => simp [h]
    | succ i => simp [ih]
section
variable {P : Program}
theorem set_alloc (w : World) (o o' : Obj) : ({ w.alloc o with heap := (w.alloc o).heap.setIfInBounds w.heap.size o' } : World) = w.alloc o' := by
  show World.mk _ _ _ _ _ = World.mk _ _ _ _ _
  congr 1
  show (w.heap.push _).setIfInBounds w.heap.size _ = w.heap.push _
  apply Array.ext_getElem?
  intro i
  rw [Array.getElem?_setIfInBounds]
  by_cases hi : w.heap.size = i
  · subst hi; simp
  · rw [if_neg hi, Array.getElem?_push, Array.getElem?_push, if_neg (fun e => hi e.symm), if_neg (fun e => hi e.symm)]
theorem run_makeMap_enc (t : TypeId) (w : World) : (Instr.makeMap t none).run P w = .ok (.map (some w.heap.size)) (w.alloc (.map (encM []) 0)) := run_makeMap_plain w t
theorem findL_key : ∀ (l : List (Int × Value × Nat)) (n : Int) (i j : Nat) (v : Value), findL l n i = some (j, v) → i ≤ j ∧ (l[j - i]?).map (·.1) = some n := by
  intro l
  induction l with
  | nil => intro n i j v h; cases h
  | cons x l ih =>
    intro n i j v h
    rw [findL] at h
    split at h
    · rename_i hx; injection h with h; injection h with h1 h2; subst h1; simp [hx]
    · have := ih n (i + 1) j v h
      refine ⟨by omega, ?_⟩
      rw [show j - i = (j - (i + 1)) + 1 by omega]
      exact this.2
theorem run_insert_enc (mty kt et : TypeId) (hm : P.underlying mty = some (.map kt et)) (hk : P.underlying kt = some (.int .i64)) (w : World) (l : List (Int × Value × Nat)) (c : Nat) (n : Int) (val : Value) :
    (Instr.mapUpdate mty (.map (some w.heap.size)) (.int .i64 n) val).run P (w.alloc (.map (encM l) c)) = .ok () (w.alloc (.map (encM (insL l c n val)) (insC l c n))) := by
  have hb : (w.alloc (.map (encM l) c)).heap[w.heap.size]? = some (.map (encM l) c) := by show (w.heap.push _)[w.heap.size]? = _; simp
  have hc : (Instr.checkKey false 10000 kt (.int .i64 n)).run P (w.alloc (.map (encM l) c)) = .ok () (w.alloc (.map (encM l) c)) := MapKept.run_checkKey (k := .int .i64 n) hk (by simp [MapKept.IsKey]) false 9999
  have hf : Instr.findNow (.int .i64) (.int .i64 n) (encM l).toList 0 = some (findL l n 0) := findNow_enc n l 0
  cases hl : findL l n 0 with
  | none =>
    rw [hl] at hf
    have e : encM (insL l c n val) = (encM l).push { key := .int .i64 n, val := val, born := c } := by simp [insL, hl, encM, encE]
    have e2 : insC l c n = c + 1 := by simp [insC, hl]
    have hset := set_alloc w (.map (encM l) c) (.map ((encM l).push { key := .int .i64 n, val := val, born := c }) (c + 1))
    rw [e, e2, ← hset]
    simp [Instr.mapUpdate, run_underlying hm, MapKept.run_getObj_map hb, hc, MapKept.run_findKey hk hf, MapKept.run_setObj_map _ hb, Result.andThen]
  | some q =>
    obtain ⟨i, v⟩ := q
    rw [hl] at hf
    obtain ⟨-, hkey⟩ := findL_key l n 0 i v hl
    have e : encM (insL l c n val) = (encM l).modify i fun e => { e with key := .int .i64 n, val := val } := by
      simp only [insL, hl, encM, List.modify_toArray]
      congr 1
      exact modify_enc (fun x => (n, val, x.2.2)) (fun e => { e with key := .int .i64 n, val := val }) (fun _ => rfl) l i
    have e2 : insC l c n = c := by simp [insC, hl]
    have hset := set_alloc w (.map (encM l) c) (.map ((encM l).modify i fun e => { e with key := .int .i64 n, val := val }) c)
    have hold : (((encM l)[i]?).map (·.key)).getD (.int .i64 n) = .int .i64 n := by
      rw [Nat.sub_zero] at hkey
      cases hx : l[i]? with
      | none => simp [encM, hx]
      | some x => rw [hx] at hkey; simp at hkey; simp [encM, hx, encE, hkey]
    have hks : ∀ W : World, (Instr.keyThatStays (.int .i64 n) (.int .i64 n)).run P W = .ok (.int .i64 n) W := fun W => by
      have : Instr.sameBits 10000 (.int .i64 n) (.int .i64 n) = true := by unfold Instr.sameBits; simp
      simp [Instr.keyThatStays, this]
    rw [e, e2, ← hset]
    simp [Instr.mapUpdate, run_underlying hm, MapKept.run_getObj_map hb, hc, MapKept.run_findKey hk hf, Result.andThen]
    have hold2 : ((Option.map (fun x => x.key) (encM l)[i]?).getD (Value.int .i64 n)) = .int .i64 n := hold
    rw [hold2, hks]
    simp [MapKept.run_setObj_map _ hb]
theorem run_lookup_enc (mty kt et : TypeId) (z : Value) (hm : P.underlying mty = some (.map kt et)) (hk : P.underlying kt = some (.int .i64)) (hz : ∀ W : World, (zeroValue et).run P W = .ok z W)
    (w : World) (l : List (Int × Value × Nat)) (c : Nat) (n : Int) :
    (Instr.lookup mty (.map (some w.heap.size)) (.int .i64 n) false).run P (w.alloc (.map (encM l) c)) = .ok (lookL l n z) (w.alloc (.map (encM l) c)) := by
  have hb : (w.alloc (.map (encM l) c)).heap[w.heap.size]? = some (.map (encM l) c) := by show (w.heap.push _)[w.heap.size]? = _; simp
  have hc : (Instr.checkKey (encM l).isEmpty 10000 kt (.int .i64 n)).run P (w.alloc (.map (encM l) c)) = .ok () (w.alloc (.map (encM l) c)) := MapKept.run_checkKey (k := .int .i64 n) hk (by simp [MapKept.IsKey]) _ 9999
  have hf : Instr.findNow (.int .i64) (.int .i64 n) (encM l).toList 0 = some (findL l n 0) := findNow_enc n l 0
  unfold lookL
  cases hl : findL l n 0 with
  | none => rw [hl] at hf; simp [Instr.lookup, run_underlying hm, MapKept.run_getObj_map hb, hc, MapKept.run_findKey hk hf, hz, Result.andThen]
  | some q => obtain ⟨i, v⟩ := q; rw [hl] at hf; simp [Instr.lookup, run_underlying hm, MapKept.run_getObj_map hb, hc, MapKept.run_findKey hk hf, Result.andThen]
end

/-- the map's state: its entries and its clock -/
def encO (M : List (Int × Value × Nat) × Nat) : Obj := .map (encM M.1) M.2
def insM (M : List (Int × Value × Nat) × Nat) (n : Int) (val : Value) : List (Int × Value × Nat) × Nat := (insL M.1 M.2 n val, insC M.1 M.2 n)
def lookM (M : List (Int × Value × Nat) × Nat) (n : Int) (z : Value) : Value := lookL M.1 n z
theorem run_makeMapO {P : Program} (t : TypeId) (w : World) : (Instr.makeMap t none).run P w = .ok (.map (some w.heap.size)) (w.alloc (encO ([], 0))) := run_makeMap_enc t w
theorem run_insertO {P : Program} (mty kt et : TypeId) (hm : P.underlying mty = some (.map kt et)) (hk : P.underlying kt = some (.int .i64)) (w : World) (M : List (Int × Value × Nat) × Nat) (n : Int) (val : Value) :
    (Instr.mapUpdate mty (.map (some w.heap.size)) (.int .i64 n) val).run P (w.alloc (encO M)) = .ok () (w.alloc (encO (insM M n val))) := run_insert_enc mty kt et hm hk w M.1 M.2 n val
theorem run_lookupO {P : Program} (mty kt et : TypeId) (z : Value) (hm : P.underlying mty = some (.map kt et)) (hk : P.underlying kt = some (.int .i64)) (hz : ∀ W : World, (zeroValue et).run P W = .ok z W)
    (w : World) (M : List (Int × Value × Nat) × Nat) (n : Int) :
    (Instr.lookup mty (.map (some w.heap.size)) (.int .i64 n) false).run P (w.alloc (encO M)) = .ok (lookM M n z) (w.alloc (encO M)) := run_lookup_enc mty kt et z hm hk hz w M.1 M.2 n
end Go.Proofs.YtgkgoofapgabhaaDoor
