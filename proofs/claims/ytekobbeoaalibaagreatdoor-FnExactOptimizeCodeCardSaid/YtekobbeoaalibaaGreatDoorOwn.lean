/- Data of a call's own, block by block: every row lies in a block of its own. Plain lemmas, no program. -/
import Derived.Test.YtekobbeoaalibaaGreatDoorRow
namespace Go.Proofs.YtekobbeoaalibaaGreatDoor
open Go.RowKit
set_option linter.unusedVariables false

theorem own_block {w w' : World} {base : Nat} {e : TypeId} {size n : Nat} {v : Value} {xs : List Value} (h : w.ownsRow base e size v n xs) (hk : ∀ g, v.ownBlock = some g → w'.heap[g]? = w.heap[g]?) : w'.ownsRow base e size v n xs := by
  refine ⟨h.1, ?_⟩
  rcases h.2 with h | ⟨g, cap, cur, rfl, hb, hg, h⟩
  · exact .inl h
  · exact .inr ⟨g, cap, cur, rfl, hb, by rw [hk g rfl]; exact hg, h⟩
theorem own_base {w : World} {base base' : Nat} {e : TypeId} {size n : Nat} {v : Value} {xs : List Value} (h : w.ownsRow base e size v n xs) (hb : ∀ g, v.ownBlock = some g → base' ≤ g) : w.ownsRow base' e size v n xs := by
  refine ⟨h.1, ?_⟩
  rcases h.2 with h | ⟨g, cap, cur, rfl, _, hg, h⟩
  · exact .inl h
  · exact .inr ⟨g, cap, cur, rfl, hb g rfl, hg, h⟩
theorem Rds.own_in {w : World} {base lo hi : Nat} {e : TypeId} {size n : Nat} {v : Value} {xs : List Value} (h : w.ownsRow base e size v n xs) (hb : ∀ g, v.ownBlock = some g → lo ≤ g ∧ g < hi) : Rds w lo hi size v n xs := by
  obtain ⟨A, c, hv, h1, h2, h3, h5, h4⟩ := Rds.of_own h
  refine ⟨A, c, hv, h1, h2, h3, h5, fun hn => ?_⟩
  obtain ⟨g, off, hA, hg1, hg2, hc⟩ := h4 hn
  subst hv hA
  have ho : off = 0 := by
    rcases h.2 with ⟨h, _⟩ | ⟨g', cap, cur, h, _⟩
    · cases h
    · injection h with h; injection h with h; injection h
  subst ho
  obtain ⟨b1, b2⟩ := hb g rfl
  exact ⟨g, 0, rfl, b1, b2, hc⟩

mutual
/-- the value v is d, and its rows lie each in a block of its own: F lists the blocks -/
def OwnV (w : World) : Dat → List Nat → Value → Prop
  | .int k n, F, v => F = [] ∧ v = .int k n
  | .str s, F, v => F = [] ∧ v = .string s
  | .bool b, F, v => F = [] ∧ v = .bool b
  | .row size n ds, F, v => ∃ e vs F', w.ownsRow 0 e size v n vs ∧ F = v.ownBlock.toList ++ F' ∧ OwnVs w ds F' vs
def OwnVs (w : World) : List Dat → List Nat → List Value → Prop
  | [], F, vs => F = [] ∧ vs = []
  | d :: ds, F, vs => ∃ F1 F2 v vs', F = F1 ++ F2 ∧ vs = v :: vs' ∧ OwnV w d F1 v ∧ OwnVs w ds F2 vs'
end

section
variable {w w' : World}
mutual
theorem OwnV.kept : ∀ {d : Dat} {F : List Nat} {v : Value}, OwnV w d F v → (∀ g ∈ F, w'.heap[g]? = w.heap[g]?) → OwnV w' d F v
  | .int _ _, _, _, h, _ => by simp only [OwnV] at h ⊢; exact h
  | .str _, _, _, h, _ => by simp only [OwnV] at h ⊢; exact h
  | .bool _, _, _, h, _ => by simp only [OwnV] at h ⊢; exact h
  | .row size n ds, F, v, h, hk => by
    simp only [OwnV] at h ⊢
    obtain ⟨e, vs, F', h1, h2, h3⟩ := h
    exact ⟨e, vs, F', own_block h1 fun g hg => hk g (by rw [h2, hg]; simp), h2, OwnVs.kept h3 fun g hg => hk g (by rw [h2]; simp [hg])⟩
theorem OwnVs.kept : ∀ {ds : List Dat} {F : List Nat} {vs : List Value}, OwnVs w ds F vs → (∀ g ∈ F, w'.heap[g]? = w.heap[g]?) → OwnVs w' ds F vs
  | [], _, _, h, _ => by simp only [OwnVs] at h ⊢; exact h
  | d :: ds, F, vs, h, hk => by
    simp only [OwnVs] at h ⊢
    obtain ⟨F1, F2, v, vs', h1, h2, h3, h4⟩ := h
    exact ⟨F1, F2, v, vs', h1, h2, OwnV.kept h3 fun g hg => hk g (by rw [h1]; simp [hg]), OwnVs.kept h4 fun g hg => hk g (by rw [h1]; simp [hg])⟩
end
mutual
theorem OwnV.rep {lo hi : Nat} : ∀ {d : Dat} {F : List Nat} {v : Value}, OwnV w d F v → (∀ g ∈ F, lo ≤ g ∧ g < hi) → Rep w lo hi d v
  | .int _ _, _, _, h, _ => by simp only [OwnV] at h; rw [h.2]; exact .mkInt
  | .str _, _, _, h, _ => by simp only [OwnV] at h; rw [h.2]; exact .mkStr
  | .bool _, _, _, h, _ => by simp only [OwnV] at h; rw [h.2]; exact .mkBool
  | .row size n ds, F, v, h, hk => by
    simp only [OwnV] at h
    obtain ⟨e, vs, F', h1, h2, h3⟩ := h
    exact .mkRow (Rds.own_in h1 fun g hg => hk g (by rw [h2, hg]; simp)) (OwnVs.rep h3 fun g hg => hk g (by rw [h2]; simp [hg]))
theorem OwnVs.rep {lo hi : Nat} : ∀ {ds : List Dat} {F : List Nat} {vs : List Value}, OwnVs w ds F vs → (∀ g ∈ F, lo ≤ g ∧ g < hi) → RepL w lo hi ds vs
  | [], _, _, h, _ => by simp only [OwnVs] at h; rw [h.2]; exact .nil_
  | d :: ds, F, vs, h, hk => by
    simp only [OwnVs] at h
    obtain ⟨F1, F2, v, vs', h1, rfl, h3, h4⟩ := h
    exact .cons_ (OwnV.rep h3 fun g hg => hk g (by rw [h1]; simp [hg])) (OwnVs.rep h4 fun g hg => hk g (by rw [h1]; simp [hg]))
end
mutual
theorem OwnV.lt : ∀ {d : Dat} {F : List Nat} {v : Value}, OwnV w d F v → ∀ g ∈ F, g < w.heap.size
  | .int _ _, _, _, h => by simp only [OwnV] at h; rw [h.1]; simp
  | .str _, _, _, h => by simp only [OwnV] at h; rw [h.1]; simp
  | .bool _, _, _, h => by simp only [OwnV] at h; rw [h.1]; simp
  | .row size n ds, F, v, h => by
    simp only [OwnV] at h
    obtain ⟨e, vs, F', h1, h2, h3⟩ := h
    intro g hg
    rw [h2] at hg
    rcases List.mem_append.1 hg with hg | hg
    · exact (h1.lt g (by simpa using hg)).2
    · exact OwnVs.lt h3 g hg
theorem OwnVs.lt : ∀ {ds : List Dat} {F : List Nat} {vs : List Value}, OwnVs w ds F vs → ∀ g ∈ F, g < w.heap.size
  | [], _, _, h => by simp only [OwnVs] at h; rw [h.1]; simp
  | d :: ds, F, vs, h => by
    simp only [OwnVs] at h
    obtain ⟨F1, F2, v, vs', h1, rfl, h3, h4⟩ := h
    intro g hg
    rw [h1] at hg
    rcases List.mem_append.1 hg with hg | hg
    · exact OwnV.lt h3 g hg
    · exact OwnVs.lt h4 g hg
end
theorem OwnVs.nil_ : OwnVs w [] [] [] := by simp [OwnVs]
theorem OwnVs.cons_ {d : Dat} {ds : List Dat} {F1 F2 : List Nat} {v : Value} {vs : List Value} (h : OwnV w d F1 v) (h' : OwnVs w ds F2 vs) : OwnVs w (d :: ds) (F1 ++ F2) (v :: vs) := by simp only [OwnVs]; exact ⟨F1, F2, v, vs, rfl, rfl, h, h'⟩
theorem OwnVs.out {d : Dat} {ds : List Dat} {F : List Nat} {vs : List Value} (h : OwnVs w (d :: ds) F vs) : ∃ F1 F2 v vs', F = F1 ++ F2 ∧ vs = v :: vs' ∧ OwnV w d F1 v ∧ OwnVs w ds F2 vs' := by simpa only [OwnVs] using h
theorem OwnVs.outNil {F : List Nat} {vs : List Value} (h : OwnVs w [] F vs) : F = [] ∧ vs = [] := by simpa only [OwnVs] using h
theorem OwnV.int_ {k : IntKind} {n : Int} {F : List Nat} {v : Value} (h : OwnV w (.int k n) F v) : F = [] ∧ v = .int k n := by simpa only [OwnV] using h
theorem OwnV.str_ {s : ByteArray} {F : List Nat} {v : Value} (h : OwnV w (.str s) F v) : F = [] ∧ v = .string s := by simpa only [OwnV] using h
theorem OwnV.bool_ {b : Bool} {F : List Nat} {v : Value} (h : OwnV w (.bool b) F v) : F = [] ∧ v = .bool b := by simpa only [OwnV] using h
theorem OwnV.row_ {size n : Nat} {ds : List Dat} {F : List Nat} {v : Value} (h : OwnV w (.row size n ds) F v) : ∃ e vs F', w.ownsRow 0 e size v n vs ∧ F = v.ownBlock.toList ++ F' ∧ OwnVs w ds F' vs := by simpa only [OwnV] using h
theorem OwnV.mkInt {k : IntKind} {n : Int} : OwnV w (.int k n) [] (.int k n) := by simp [OwnV]
theorem OwnV.mkStr {s : ByteArray} : OwnV w (.str s) [] (.string s) := by simp [OwnV]
theorem OwnV.mkBool {b : Bool} : OwnV w (.bool b) [] (.bool b) := by simp [OwnV]
theorem OwnV.mkRow {base size n : Nat} {e : TypeId} {ds : List Dat} {F : List Nat} {v : Value} {vs : List Value} (h : w.ownsRow base e size v n vs) (h' : OwnVs w ds F vs) : OwnV w (.row size n ds) (v.ownBlock.toList ++ F) v := by
  simp only [OwnV]
  exact ⟨e, vs, F, own_base h fun _ _ => Nat.zero_le _, rfl, h'⟩
theorem OwnV.nilRow {size : Nat} : OwnV w (.row size 0 []) [] (.slice none 0 0) := OwnV.mkRow (World.ownsRow_nil w 0 0 size) .nil_
theorem OwnVs.len : ∀ {ds : List Dat} {F : List Nat} {vs : List Value}, OwnVs w ds F vs → vs.length = ds.length
  | [], _, _, h => by rw [h.outNil.2]; rfl
  | _ :: ds, _, _, h => by
    obtain ⟨F1, F2, v, vs', -, rfl, -, h4⟩ := h.out
    simp [OwnVs.len h4]
theorem OwnVs.app : ∀ {ds es : List Dat} {F G : List Nat} {vs us : List Value}, OwnVs w ds F vs → OwnVs w es G us → OwnVs w (ds ++ es) (F ++ G) (vs ++ us)
  | [], _, _, _, _, _, h, h' => by obtain ⟨rfl, rfl⟩ := h.outNil; exact h'
  | _ :: ds, _, _, _, _, _, h, h' => by
    obtain ⟨F1, F2, v, vs', rfl, rfl, h3, h4⟩ := h.out
    rw [List.append_assoc]
    exact .cons_ h3 (OwnVs.app h4 h')
theorem OwnVs.parts : ∀ {ds es : List Dat} {F : List Nat} {vs : List Value}, OwnVs w (ds ++ es) F vs → ∃ F1 F2 v1 v2, F = F1 ++ F2 ∧ vs = v1 ++ v2 ∧ OwnVs w ds F1 v1 ∧ OwnVs w es F2 v2
  | [], _, F, vs, h => ⟨[], F, [], vs, rfl, rfl, .nil_, h⟩
  | _ :: ds, _, _, _, h => by
    obtain ⟨F1, F2, v, vs', rfl, rfl, h3, h4⟩ := OwnVs.out h
    obtain ⟨G1, G2, v1, v2, rfl, rfl, h5, h6⟩ := OwnVs.parts h4
    exact ⟨F1 ++ G1, G2, v :: v1, v2, by simp, by simp, .cons_ h3 h5, h6⟩
/-- cells without rows own no block -/
theorem OwnVs.flatNil : ∀ {ds : List Dat} {F : List Nat} {vs : List Value}, OwnVs w ds F vs → (∀ d ∈ ds, (match d with | .row _ _ _ => False | _ => True)) → F = []
  | [], _, _, h, _ => h.outNil.1
  | d :: ds, _, _, h, hd => by
    obtain ⟨F1, F2, v, vs', rfl, rfl, h3, h4⟩ := h.out
    have h2 := OwnVs.flatNil h4 fun d hd' => hd d (by simp [hd'])
    have h1 := hd d (by simp)
    cases d with
    | int => rw [h2, h3.int_.1]; rfl
    | str => rw [h2, h3.str_.1]; rfl
    | bool => rw [h2, h3.bool_.1]; rfl
    | row => exact absurd h1 (by simp)
end

/-- cells that are the call's own, in blocks from lo on and below hi -/
def OwnR (w : World) (lo hi : Nat) (ds : List Dat) (vs : List Value) : Prop := ∃ F : List Nat, OwnVs w ds F vs ∧ F.Nodup ∧ ∀ g ∈ F, lo ≤ g ∧ g < hi
section
variable {w w' : World} {lo mid hi : Nat} {ds es : List Dat} {vs us : List Value}
theorem OwnR.rep (h : OwnR w lo hi ds vs) : RepL w lo hi ds vs := by obtain ⟨F, h1, _, h3⟩ := h; exact h1.rep h3
theorem OwnR.len (h : OwnR w lo hi ds vs) : vs.length = ds.length := by obtain ⟨F, h1, _⟩ := h; exact h1.len
theorem OwnR.wide {lo' hi' : Nat} (h : OwnR w lo hi ds vs) (h1 : lo' ≤ lo) (h2 : hi ≤ hi') : OwnR w lo' hi' ds vs := by
  obtain ⟨F, g1, g2, g3⟩ := h
  exact ⟨F, g1, g2, fun g hg => ⟨Nat.le_trans h1 (g3 g hg).1, Nat.lt_of_lt_of_le (g3 g hg).2 h2⟩⟩
theorem OwnR.kept (h : OwnR w lo hi ds vs) (hk : ∀ g, lo ≤ g → g < hi → w'.heap[g]? = w.heap[g]?) : OwnR w' lo hi ds vs := by
  obtain ⟨F, g1, g2, g3⟩ := h
  exact ⟨F, g1.kept fun g hg => hk g (g3 g hg).1 (g3 g hg).2, g2, g3⟩
theorem OwnR.below {B : Nat} (h : OwnR w lo hi ds vs) (hb : Below B w w') (hB : hi ≤ B) : OwnR w' lo hi ds vs := h.kept fun g _ h2 => hb.block g (Nat.lt_of_lt_of_le h2 hB)
theorem OwnR.same (h : OwnR w lo hi ds vs) (hs : Same w w') : OwnR w' lo hi ds vs := h.kept fun g _ _ => by rw [hs.heap]
theorem OwnR.setFar (h : OwnR w lo hi ds vs) {p : Addr} (hp : p.block < lo ∨ hi ≤ p.block) (u : Value) : OwnR (w.setCell p u) lo hi ds vs := h.kept fun g h1 h2 => Below.heap_setCell w p u g (by omega)
theorem OwnR.alloc (h : OwnR w lo hi ds vs) (hB : hi ≤ w.heap.size) (o : Obj) : OwnR (w.alloc o) lo hi ds vs := h.below ((Below.refl w.heap.size w).alloc (Nat.le_refl _) o) hB
theorem OwnR.putAll {g : Nat} (hg : g < lo ∨ hi ≤ g) : ∀ (us : List Value) (w : World) (p : Nat), OwnR w lo hi ds vs → OwnR (putAll w g p us) lo hi ds vs
  | [], _, _, h => h
  | u :: us, w, p, h => OwnR.putAll hg us _ (p + 1) (h.setFar (p := ⟨g, p, none⟩) hg u)
theorem OwnR.nil_ : OwnR w lo hi [] [] := ⟨[], .nil_, List.nodup_nil, by simp⟩
theorem nodup_parts {F G : List Nat} (hF : F.Nodup) (hG : G.Nodup) (h1 : ∀ g ∈ F, g < mid) (h2 : ∀ g ∈ G, mid ≤ g) : (F ++ G).Nodup := by
  refine List.nodup_append.2 ⟨hF, hG, fun a ha b hb e => ?_⟩
  subst e
  have := h1 a ha; have := h2 a hb; omega
theorem OwnR.app (h : OwnR w lo mid ds vs) (h' : OwnR w mid hi es us) (h1 : lo ≤ mid) (h2 : mid ≤ hi) : OwnR w lo hi (ds ++ es) (vs ++ us) := by
  obtain ⟨F, a1, a2, a3⟩ := h
  obtain ⟨G, b1, b2, b3⟩ := h'
  refine ⟨F ++ G, a1.app b1, nodup_parts a2 b2 (fun g hg => (a3 g hg).2) (fun g hg => (b3 g hg).1), fun g hg => ?_⟩
  rcases List.mem_append.1 hg with hg | hg
  · have := a3 g hg; omega
  · have := b3 g hg; omega
theorem OwnR.int_ {k : IntKind} {n : Int} (h : OwnR w lo hi ds vs) : OwnR w lo hi (.int k n :: ds) (.int k n :: vs) := by
  obtain ⟨F, a1, a2, a3⟩ := h; exact ⟨[] ++ F, .cons_ .mkInt a1, a2, a3⟩
theorem OwnR.str_ {s : ByteArray} (h : OwnR w lo hi ds vs) : OwnR w lo hi (.str s :: ds) (.string s :: vs) := by
  obtain ⟨F, a1, a2, a3⟩ := h; exact ⟨[] ++ F, .cons_ .mkStr a1, a2, a3⟩
theorem OwnR.bool_ {b : Bool} (h : OwnR w lo hi ds vs) : OwnR w lo hi (.bool b :: ds) (.bool b :: vs) := by
  obtain ⟨F, a1, a2, a3⟩ := h; exact ⟨[] ++ F, .cons_ .mkBool a1, a2, a3⟩
end
/-- the slice v of the elements l is the call's own, rows in rows too -/
def OwnLR {α : Type} (w : World) (lo hi k : Nat) (f : α → List Dat) (v : Value) (l : List α) : Prop := ∃ F : List Nat, OwnV w (.row k l.length (flat f l)) F v ∧ F.Nodup ∧ ∀ g ∈ F, lo ≤ g ∧ g < hi
section
variable {α : Type} {f : α → List Dat} {k : Nat} {w w' : World} {lo mid hi : Nat} {v : Value} {l : List α} {ds : List Dat} {vs : List Value}
theorem OwnLR.rep (h : OwnLR w lo hi k f v l) : LRep w lo hi k f v l := by obtain ⟨F, h1, _, h3⟩ := h; exact h1.rep h3
theorem OwnLR.wide {lo' hi' : Nat} (h : OwnLR w lo hi k f v l) (h1 : lo' ≤ lo) (h2 : hi ≤ hi') : OwnLR w lo' hi' k f v l := by
  obtain ⟨F, g1, g2, g3⟩ := h
  exact ⟨F, g1, g2, fun g hg => ⟨Nat.le_trans h1 (g3 g hg).1, Nat.lt_of_lt_of_le (g3 g hg).2 h2⟩⟩
theorem OwnLR.kept (h : OwnLR w lo hi k f v l) (hk : ∀ g, lo ≤ g → g < hi → w'.heap[g]? = w.heap[g]?) : OwnLR w' lo hi k f v l := by
  obtain ⟨F, g1, g2, g3⟩ := h
  exact ⟨F, g1.kept fun g hg => hk g (g3 g hg).1 (g3 g hg).2, g2, g3⟩
theorem OwnLR.below {B : Nat} (h : OwnLR w lo hi k f v l) (hb : Below B w w') (hB : hi ≤ B) : OwnLR w' lo hi k f v l := h.kept fun g _ h2 => hb.block g (Nat.lt_of_lt_of_le h2 hB)
theorem OwnLR.same (h : OwnLR w lo hi k f v l) (hs : Same w w') : OwnLR w' lo hi k f v l := h.kept fun g _ _ => by rw [hs.heap]
theorem OwnLR.setFar (h : OwnLR w lo hi k f v l) {p : Addr} (hp : p.block < lo ∨ hi ≤ p.block) (u : Value) : OwnLR (w.setCell p u) lo hi k f v l := h.kept fun g h1 h2 => Below.heap_setCell w p u g (by omega)
theorem OwnLR.alloc (h : OwnLR w lo hi k f v l) (hB : hi ≤ w.heap.size) (o : Obj) : OwnLR (w.alloc o) lo hi k f v l := h.below ((Below.refl w.heap.size w).alloc (Nat.le_refl _) o) hB
theorem OwnLR.mk_ {e : TypeId} (h : w.ownsRow lo e k v l.length vs) (h' : OwnR w mid hi (flat f l) vs) (hg : ∀ g, v.ownBlock = some g → g < mid) (h1 : lo ≤ mid) (h2 : mid ≤ hi) : OwnLR w lo hi k f v l := by
  obtain ⟨F, a1, a2, a3⟩ := h'
  refine ⟨_, OwnV.mkRow h a1, nodup_parts (mid := mid) ?_ a2 (fun g hv => hg g (by simpa using hv)) (fun g hv => (a3 g hv).1), fun g hv => ?_⟩
  · cases v.ownBlock <;> simp
  · rcases List.mem_append.1 hv with hv | hv
    · have hv : v.ownBlock = some g := by simpa using hv
      have := (h.lt g hv).1; have := hg g hv; omega
    · have := a3 g hv; omega
theorem OwnR.row_ (h : OwnLR w lo mid k f v l) (h' : OwnR w mid hi ds vs) (h1 : lo ≤ mid) (h2 : mid ≤ hi) : OwnR w lo hi (.row k l.length (flat f l) :: ds) (v :: vs) := by
  obtain ⟨F, a1, a2, a3⟩ := h
  obtain ⟨G, b1, b2, b3⟩ := h'
  refine ⟨F ++ G, .cons_ a1 b1, nodup_parts a2 b2 (fun g hg => (a3 g hg).2) (fun g hg => (b3 g hg).1), fun g hg => ?_⟩
  rcases List.mem_append.1 hg with hg | hg
  · have := a3 g hg; omega
  · have := b3 g hg; omega
end
theorem OwnR.texts {w : World} {lo hi : Nat} : ∀ (l : List ByteArray), OwnR w lo hi (flat strDats l) (l.map .string)
  | [] => by rw [flat_nil]; exact .nil_
  | s :: l => by rw [flat_cons]; exact OwnR.str_ (OwnR.texts l)
theorem OwnLR.texts {w : World} {lo hi : Nat} {e : TypeId} {v : Value} {l : List ByteArray} (h : w.ownsRow lo e 1 v l.length (l.map .string)) (hhi : w.heap.size ≤ hi) : OwnLR w lo hi 1 strDats v l := by
  obtain ⟨F, a1, a2, a3⟩ := OwnR.texts (w := w) (lo := 0) (hi := 0) l
  have hF : F = [] := List.eq_nil_iff_forall_not_mem.2 fun g hg => by have := a3 g hg; omega
  subst hF
  refine ⟨_, OwnV.mkRow h a1, ?_, fun g hv => ?_⟩
  · cases v.ownBlock <;> simp
  · have hv : v.ownBlock = some g := by simpa using hv
    have := h.lt g hv; omega
/-- a struct result that is the call's own -/
def MadeS {α : Type} (f : α → List Dat) (c : α) (w : World) (e : Ending) (w' : World) : Prop := ∃ cs : List Value, e = .returned (.agg cs.toArray) ∧ OwnR w' w.heap.size w'.heap.size (f c) cs ∧ Below w.heap.size w w'
/-- a slice result that is the call's own -/
def MadeL {α : Type} (k : Nat) (f : α → List Dat) (l : List α) (w : World) (e : Ending) (w' : World) : Prop := ∃ v, e = .returned v ∧ OwnLR w' w.heap.size w'.heap.size k f v l ∧ Below w.heap.size w w'
theorem MadeS.own {α : Type} {f : α → List Dat} {c : α} {w w' : World} {e : Ending} (h : MadeS f c w e w') : OwnS f c w e w' := by
  obtain ⟨cs, he, h1, hb⟩ := h; exact ⟨_, he, ⟨cs, rfl, h1.rep⟩, hb⟩
theorem MadeL.own {α : Type} {k : Nat} {f : α → List Dat} {l : List α} {w w' : World} {e : Ending} (h : MadeL k f l w e w') : OwnL k f l w e w' := by
  obtain ⟨v, he, h1, hb⟩ := h; exact ⟨_, he, h1.rep, hb⟩
end Go.Proofs.YtekobbeoaalibaaGreatDoor
